/- Ends Part 11 of the proof. -/
import Derived.Test.YtbmbbcaaimehkaaGreatEa10
set_option linter.all false
set_option maxHeartbeats 2000000
section
noncomputable section
namespace Go.Proofs.YtbmbbcaaimehkaaGreat
open Go.Abs Go.Lf
theorem f14_ok {h : H} {r : Bool} (hL : f14L = some r) : Pure XX 14 #[] h (.bool r) := by
  cases hL
  intro wm
  have e : ev (cfg XW fun _ => false) 1 (.call 14 #[] wm h) = some (.fin (.ret (.bool true)) h) := rfl
  exact run_sound (X := XW) mixed 1 _ _ e
end Go.Proofs.YtbmbbcaaimehkaaGreat
end
end
section
set_option linter.unusedVariables false
set_option linter.unusedSimpArgs false
namespace Go.Proofs.YtbmbbcaaimehkaaGreat
open Go.Lf
def f73_j0 (p1 : FerryLetter) : Int × Int × Int × Int × Int × Int × Int × Int → Option Bool := fun (v11, v12, v13, v14, v15, v16, v17, v18) =>
  some ((((eqFerryMail (FerryMail.mk v11 v12 v13 v14 v15) p1.mail) && (v16 == p1.place)) && (v17 == p1.at_)) && (v18 == p1.age))
def f73L (p0 : Inspector) (p1 : FerryLetter) : Option Bool :=
  (f95L p0 p1.to_).bind fun x3 => (bif (!x3) then some false else (bif ((p1.kind != 2) && (decide ((w64 ((p1.places.length : Int) + (p1.ages.length : Int))) > 0))) then some false else (bif (p1.kind == 1) then (f74L p0 p1.to_ p1.mail).bind fun x20 => (bif (!x20) then some false else (f73_j0 p1) (p1.mail.msg, p1.mail.place, p1.mail.from_, p1.mail.age, p1.mail.hops, 0, 0, 0)) else (bif (p1.kind == 3) then (gd (!(p1.at_ == p1.to_)) (f96L p0 p1.place) default).bind fun x28 => (gd (!((p1.at_ == p1.to_) || (!x28))) (f93L p0 p1.place p1.at_ p1.age) default).bind fun x29 => (bif (((p1.at_ == p1.to_) || (!x28)) || (!x29)) then some false else (f73_j0 p1) (0, 0, 0, 0, 0, p1.place, p1.at_, p1.age)) else (f73_j0 p1) (0, 0, 0, 0, 0, 0, 0, 0)))))
end Go.Proofs.YtbmbbcaaimehkaaGreat
end
section
set_option linter.unusedVariables false
set_option linter.unusedSimpArgs false
set_option maxRecDepth 20000
noncomputable section
namespace Go.Proofs.YtbmbbcaaimehkaaGreat
open Go.Abs Go.Lf
theorem f73_wf {wm : Nat} {h : H} {p0 : Inspector} {p1 : FerryLetter} {pa0_0 : Option Addr} {pc0_0 : Nat} {pa0_1 : Option Addr} {pc0_1 : Nat} {pa0_2 : Option Addr} {pc0_2 : Nat} {pa0_3 : Option Addr} {pc0_3 : Nat} {pa0_4 : Option Addr} {pc0_4 : Nat} {pa0_5 : Option Addr} {pc0_5 : Nat} {pb0 : Nat} {po0 : Nat} {pa1_0 : Option Addr} {pc1_0 : Nat} {pa1_1 : Option Addr} {pc1_1 : Nat} {r : Bool} (hwm : wm ≤ h.size) (hAp0 : At h pb0 po0 [.slice pa0_0 p0.ferryWorld.in_.length pc0_0, .slice pa0_1 p0.ferryWorld.boxes.length pc0_1, .slice pa0_2 p0.ferryWorld.entries.length pc0_2, .slice pa0_3 p0.ferryWorld.held.length pc0_3, .slice pa0_4 p0.ferryWorld.wire.length pc0_4, .int .i64 p0.ferryWorld.said, .slice pa0_5 p0.spots.length pc0_5]) (hBp0 : Stb wm h pb0) (hsp0_0 : Sl (rInt .i64) wm h pa0_0 pc0_0 p0.ferryWorld.in_) (hsp0_1 : Sl (rSl (rInt .i64)) wm h pa0_1 pc0_1 p0.ferryWorld.boxes) (hsp0_2 : Sl (rSl rFerryEntry) wm h pa0_2 pc0_2 p0.ferryWorld.entries) (hsp0_3 : Sl (rSl rFerryMail) wm h pa0_3 pc0_3 p0.ferryWorld.held) (hsp0_4 : Sl rFerryLetter wm h pa0_4 pc0_4 p0.ferryWorld.wire) (hsp0_5 : Sl rSpot_ wm h pa0_5 pc0_5 p0.spots) (hsp1_0 : Sl (rInt .i64) wm h pa1_0 pc1_0 p1.places) (hsp1_1 : Sl (rInt .i64) wm h pa1_1 pc1_1 p1.ages) (hL : f73L p0 p1 = some r) :
    WR XX 73 #[.pointer (some ⟨pb0, po0, none⟩), .agg [.int .i64 p1.kind, .int .i64 p1.to_, .int .i64 p1.mail.msg, .int .i64 p1.mail.place, .int .i64 p1.mail.from_, .int .i64 p1.mail.age, .int .i64 p1.mail.hops, .slice pa1_0 p1.places.length pc1_0, .slice pa1_1 p1.ages.length pc1_1, .int .i64 p1.place, .int .i64 p1.at_, .int .i64 p1.age].toArray] wm h (CP (fun (v : Value) (Gb : List (Ast wm)) => v = .bool r ∧ Gb = []) [] h) := by
 refine bg Tryz.ntmps73 hwm Hold.nil ?_
 intro T hT hS
 unfold f73L at hL
 refine r3 ?_
 rintro _ h2 ⟨b1, eb1, rfl, hS⟩
 refine r8 ?_
 refine r1 ?_
 obtain ⟨x3, hx3, hL⟩ := bind_some hL
 refine WO.cp gN rfl (Ent.fn has95 (evs_cons lk (evs_cons lk evs_nil))) (f95_ok (At.fz hS.fz hBp0 hAp0) (Stb.up hS.hw (Stb.fz hS.fz hAp0 hBp0)) (hS.slu hsp0_0) (hS.slu hsp0_1) (hS.slu hsp0_2) (hS.slu hsp0_3) (hS.slu hsp0_4) (hS.slu hsp0_5) hx3) ?_
 refine r3 ?_
 refine cn hL ?_ ?_
 · intro hc hL
   refine r6 ?_
   refine r1 ?_
   exact rt hL hT hS
 · intro hc hL
   refine r8 ?_
   refine WO.w gN rfl (av_bld bld95 (evp_cons lk (evp_cons lk evp_nil)) rfl (cs' := [.int .i64 p1.kind, .int .i64 p1.to_, .int .i64 0, .int .i64 0, .int .i64 0, .int .i64 0, .int .i64 0, .slice none 0 0, .slice none 0 0, .int .i64 0, .int .i64 0, .int .i64 0]) rfl) ?_
   refine r1 ?_
   rintro _ h5 ⟨b4, eb4, rfl, hS⟩
   refine r1 ?_
   rintro h6 hS
   refine r16 ?_
   refine r4 ?_
   refine cn hL ?_ ?_
   · intro hc hL
     refine r6 ?_
     refine r1 ?_
     exact rt hL hT hS
   · intro hc hL
     refine r2 ?_
     refine WC.seqJ (r := r) (fun (p : Int × Int × Int × Int × Int × Int × Int × Int) (s : Fs) => match p with | (v11, v12, v13, v14, v15, v16, v17, v18) => ∃ (fr8 : Fr) (h7 : H), s = ⟨fr8, [], h7, none⟩ ∧ Sp wm T h [bx wm b1 [.int .i64 p1.kind, .int .i64 p1.to_, .int .i64 p1.mail.msg, .int .i64 p1.mail.place, .int .i64 p1.mail.from_, .int .i64 p1.mail.age, .int .i64 p1.mail.hops, .slice pa1_0 p1.places.length pc1_0, .slice pa1_1 p1.ages.length pc1_1, .int .i64 p1.place, .int .i64 p1.at_, .int .i64 p1.age], bx wm b4 [.int .i64 p1.kind, .int .i64 p1.to_, .int .i64 v11, .int .i64 v12, .int .i64 v13, .int .i64 v14, .int .i64 v15, .slice none 0 0, .slice none 0 0, .int .i64 v16, .int .i64 v17, .int .i64 v18]] h7 ∧ fr8.at 3 = .pointer (some ⟨b1, 0, none⟩) ∧ fr8.at 5 = .pointer (some ⟨b4, 0, none⟩)) (f73_j0 p1) ?_ ?_
     · clear hL hS
       rintro ⟨v11, v12, v13, v14, v15, v16, v17, v18⟩ s hL ⟨fr8, h7, rfl, hS, e9, e10⟩
       dsimp only [f73_j0] at hL
       refine r6 ?_
       refine WO.w gN rfl (av_bin (evT (fs2 rfl fh) rfl) (evT fh rfl) (abin_eqS (xs := [.int .i64 v11, .int .i64 v12, .int .i64 v13, .int .i64 v14, .int .i64 v15]) (ys := [.int .i64 p1.mail.msg, .int .i64 p1.mail.place, .int .i64 p1.mail.from_, .int .i64 p1.mail.age, .int .i64 p1.mail.hops]) (eqs92 (FerryMail.mk v11 v12 v13 v14 v15) p1.mail) rfl rfl)) ?_
       refine r16 ?_
       refine r8 ?_
       refine r1 ?_
       exact rt hL hT hS
     · skip
       refine r12 ?_
       refine r1 ?_
       refine cn hL ?_ ?_
       · intro hc hL
         refine r6 ?_
         rintro h19 hS
         refine r8 ?_
         refine r1 ?_
         obtain ⟨x20, hx20, hL⟩ := bind_some hL
         refine WO.cp gN rfl (Ent.fn has74 (evs_cons lk (evs_cons lk (evs_cons lk evs_nil)))) (WR.pureC rfl (f74_wf (Nat.le_refl _) (At.fz hS.fz hBp0 hAp0) (Stb.up hS.hw (Stb.fz hS.fz hAp0 hBp0)) (hS.slu hsp0_0) (hS.slu hsp0_1) (hS.slu hsp0_2) (hS.slu hsp0_3) (hS.slu hsp0_4) (hS.slu hsp0_5) hx20)) ?_
         refine r3 ?_
         refine cn hL ?_ ?_
         · intro hc hL
           refine r6 ?_
           refine r1 ?_
           refine SeqJ.ret ?_
           exact rt hL hT hS
         · intro hc hL
           refine r2 ?_
           exact SeqJ.nrm _ hL ⟨_, _, rfl, hS.only (.c k1 (.c k0 .n)), las⟩
       · intro hc hL
         refine r6 ?_
         refine cn hL ?_ ?_
         · intro hc hL
           refine r1 ?_
           refine WC.drawX mixed (by kernel_rfl) ?_
           refine r3 ?_
           refine WX.wr (fun x => x = b1) hS gN rfl (fun _ _ hR => av_ld agg3 (evT fh rfl) (At.eqv (hR b1 rfl) (hS.atB k1)) (j := 10) rfl (v := .int .i64 p1.at_) rfl) ?_ rfl rfl
           rintro h21 e22 hS
           refine r1 ?_
           refine WX.wr (fun x => x = b1) hS gN rfl (fun _ _ hR => av_ld agg3 (evT fh rfl) (At.eqv (hR b1 rfl) (hS.atB k1)) (j := 11) rfl (v := .int .i64 p1.age) rfl) ?_ rfl rfl
           rintro h23 e24 hS
           refine r1 ?_
           refine WX.hu gN (s_st hS k0 size3 lk lk (vs := [.int .i64 p1.place]) rfl rfl rfl rfl (cs' := [.int .i64 p1.kind, .int .i64 p1.to_, .int .i64 0, .int .i64 0, .int .i64 0, .int .i64 0, .int .i64 0, .slice none 0 0, .slice none 0 0, .int .i64 p1.place, .int .i64 0, .int .i64 0]) rfl) ?_ rfl rfl [3, 5] (by kernel_rfl) (.c (.s .z) (hS.dj (.c k0 (.c k0 .n))) (.c .z (hS.dj (.c k0 (.c k0 .n))) Blind.e))
           rintro h25 hS
           refine WX.w gN rfl (av_fld fld95_6 lk) ?_ (by kernel_rfl)
           refine WX.hu gN (s_st hS k0 size3 lk lk (vs := [.int .i64 p1.at_]) rfl rfl rfl rfl (cs' := [.int .i64 p1.kind, .int .i64 p1.to_, .int .i64 0, .int .i64 0, .int .i64 0, .int .i64 0, .int .i64 0, .slice none 0 0, .slice none 0 0, .int .i64 p1.place, .int .i64 p1.at_, .int .i64 0]) rfl) ?_ rfl (by kernel_rfl) [5] (by kernel_rfl) (.c .z (hS.dj (.c k0 (.c k0 .n))) Blind.e)
           rintro h26 hS
           refine WX.w gN rfl (av_fld fld95_7 lk) ?_ (by kernel_rfl)
           refine WX.hu gN (s_st hS k0 size3 lk lk (vs := [.int .i64 p1.age]) rfl rfl rfl rfl (cs' := [.int .i64 p1.kind, .int .i64 p1.to_, .int .i64 0, .int .i64 0, .int .i64 0, .int .i64 0, .int .i64 0, .slice none 0 0, .slice none 0 0, .int .i64 p1.place, .int .i64 p1.at_, .int .i64 p1.age]) rfl) ?_ rfl (by kernel_rfl) [] (by kernel_rfl) Blind.e
           rintro h27 hS
           refine r12 ?_
           refine r1 ?_
           obtain ⟨x28, hx28, hL⟩ := gd_some hL
           refine WO.gcp (GuardIs.no rfl rfl rfl (fs2 rfl (fskip rfl fh))) rfl (fun hg => (Ent.fn has96 (evs_cons (evG (fs2 rfl fh) rfl hg) (evs_cons (evG fh rfl hg) evs_nil)))) (fun hg => f96_ok (At.fz hS.fz hBp0 hAp0) (Stb.up hS.hw (Stb.fz hS.fz hAp0 hBp0)) (hS.slu hsp0_0) (hS.slu hsp0_1) (hS.slu hsp0_2) (hS.slu hsp0_3) (hS.slu hsp0_4) (hS.slu hsp0_5) (hx28 hg)) ?_
           refine r8 ?_
           refine r2 ?_
           obtain ⟨x29, hx29, hL⟩ := gd_some hL
           refine WO.gcp (GuardIs.no rfl rfl rfl (fs4 rfl (fs2 rfl (fskip rfl fh)))) rfl (fun hg => (Ent.fn has93 (evs_cons (evG (fs4 rfl (fs2 rfl fh)) rfl hg) (evs_cons (evG (fs4 rfl fh) rfl hg) (evs_cons (evG (fs2 rfl fh) rfl hg) (evs_cons (evG fh rfl hg) evs_nil)))))) (fun hg => f93_ok (At.fz hS.fz hBp0 hAp0) (Stb.up hS.hw (Stb.fz hS.fz hAp0 hBp0)) (hS.slu hsp0_0) (hS.slu hsp0_1) (hS.slu hsp0_2) (hS.slu hsp0_3) (hS.slu hsp0_4) (hS.slu hsp0_5) (hx29 hg)) ?_
           refine r4 ?_
           refine cn hL ?_ ?_
           · intro hc hL
             refine r6 ?_
             refine r1 ?_
             refine SeqJ.ret ?_
             exact rt hL hT hS
           · intro hc hL
             refine r2 ?_
             exact SeqJ.nrm _ hL ⟨_, _, rfl, hS.only (.c k1 (.c k0 .n)), las⟩
         · intro hc hL
           refine r2 ?_
           exact SeqJ.nrm _ hL ⟨_, _, rfl, hS.only (.c k1 (.c k0 .n)), las⟩
end Go.Proofs.YtbmbbcaaimehkaaGreat
end
end
section
set_option linter.unusedVariables false
set_option linter.unusedSimpArgs false
namespace Go.Proofs.YtbmbbcaaimehkaaGreat
open Go.Lf
def f36_b2 (x11 : (Inspector × Bool)) (v59 : Int) (next61 : (Int → Option Int)) (x62 : (List FerryMail)) : Int → (Int → Option Int) → Option Int := fun v76 next78 =>
  (bif decide (v76 < (x62.length : Int)) then (geti x62 v76).bind fun x79 => (f74L x11.1 v59 x79).bind fun x85 => (gd (!(!x85)) (geti x11.1.spots x79.place) default).bind fun x86 => (bif ((!x85) || (!(eqSpot_ x86 (Spot_.mk v59 false x79.age)))) then some 2 else next78 (w64 (v76 + 1))) else next61 (w64 (v59 + 1)))
def f36_b1 (F : Nat) (p0 : FerryWorld) (x11 : (Inspector × Bool)) : Int → (Int → Option Int) → Option Int := fun v59 next61 =>
  (bif decide (v59 < (p0.held.length : Int)) then (geti p0.held v59).bind fun x62 => loop F (f36_b2 x11 v59 next61 x62) 0 else some 0)
def f36_b0 (F : Nat) (p0 : FerryWorld) (x11 : (Inspector × Bool)) : Int → (Int → Option Int) → Option Int := fun v40 next42 =>
  (bif decide (v40 < (p0.wire.length : Int)) then (geti p0.wire v40).bind fun x43 => (f73L x11.1 x43).bind fun x53 => (bif (!x53) then some 2 else next42 (w64 (v40 + 1))) else loop F (f36_b1 F p0 x11) 0)
def f36L (F : Nat) (p0 : FerryWorld) : Option Int :=
  (f68L F p0).bind fun x3 => (gd (!(!x3)) (f69L F p0) default).bind fun x4 => (bif ((!x3) || (!x4)) then some 2 else (mkL (Spot_.mk 0 false 0) 24 (p0.in_.length : Int) (p0.in_.length : Int)).bind fun z5 => (f70L F (Inspector.mk p0 z5)).bind fun x11 => (gd (!(!x11.2)) (f71L F x11.1) default).bind fun x32 => (gd (!((!x11.2) || (!x32))) (f72L F x11.1) default).bind fun x33 => (bif (((!x11.2) || (!x32)) || (!x33)) then some 2 else loop F (f36_b0 F p0 x11) 0))
def f66L (F : Nat) (p0 : FerryWorld) (p1 : Int) : Option Bool :=
  (f36L F p0).bind fun x3 => some (((x3 == 0) && (decide (p1 ≥ 0))) && (decide (p1 < (p0.in_.length : Int))))
end Go.Proofs.YtbmbbcaaimehkaaGreat
end
section
set_option linter.unusedVariables false
set_option linter.unusedSimpArgs false
set_option maxRecDepth 20000
noncomputable section
namespace Go.Proofs.YtbmbbcaaimehkaaGreat
open Go.Abs Go.Lf
theorem f36_wf {F : Nat} {wm : Nat} {h : H} {p0 : FerryWorld} {pa0_0 : Option Addr} {pc0_0 : Nat} {pa0_1 : Option Addr} {pc0_1 : Nat} {pa0_2 : Option Addr} {pc0_2 : Nat} {pa0_3 : Option Addr} {pc0_3 : Nat} {pa0_4 : Option Addr} {pc0_4 : Nat} {r : Int} (hwm : wm ≤ h.size) (hsp0_0 : Sl (rInt .i64) wm h pa0_0 pc0_0 p0.in_) (hsp0_1 : Sl (rSl (rInt .i64)) wm h pa0_1 pc0_1 p0.boxes) (hsp0_2 : Sl (rSl rFerryEntry) wm h pa0_2 pc0_2 p0.entries) (hsp0_3 : Sl (rSl rFerryMail) wm h pa0_3 pc0_3 p0.held) (hsp0_4 : Sl rFerryLetter wm h pa0_4 pc0_4 p0.wire) (hL : f36L F p0 = some r) :
    WR XX 36 #[.agg [.slice pa0_0 p0.in_.length pc0_0, .slice pa0_1 p0.boxes.length pc0_1, .slice pa0_2 p0.entries.length pc0_2, .slice pa0_3 p0.held.length pc0_3, .slice pa0_4 p0.wire.length pc0_4, .int .i64 p0.said].toArray] wm h (CP (fun (v : Value) (Gb : List (Ast wm)) => v = .int .i64 r ∧ Gb = []) [] h) := by
 refine bg Tryz.ntmps36 hwm Hold.nil ?_
 intro T hT hS
 unfold f36L at hL
 refine r3 ?_
 rintro _ h2 ⟨b1, eb1, rfl, hS⟩
 refine r6 ?_
 refine r1 ?_
 obtain ⟨x3, hx3, hL⟩ := bind_some hL
 refine WO.cp gN rfl (Ent.fn has68 (evs_cons lk evs_nil)) (WR.pureC rfl (f68_wf (Nat.le_refl _) (hS.slu hsp0_0) (hS.slu hsp0_1) (hS.slu hsp0_2) (hS.slu hsp0_3) (hS.slu hsp0_4) hx3)) ?_
 refine r3 ?_
 obtain ⟨x4, hx4, hL⟩ := gd_some hL
 refine WO.gcp (GuardIs.no rfl rfl rfl (fskip rfl fh)) rfl (fun hg => (Ent.fn has69 (evs_cons (evG fh rfl hg) evs_nil))) (fun hg => f69_ok (hS.slu hsp0_0) (hS.slu hsp0_1) (hS.slu hsp0_2) (hS.slu hsp0_3) (hS.slu hsp0_4) (hx4 hg)) ?_
 refine r4 ?_
 refine cn hL ?_ ?_
 · intro hc hL
   refine r6 ?_
   refine r1 ?_
   exact rt hL hT hS
 · intro hc hL
   refine r3 ?_
   refine WC.drawX mixed (by kernel_rfl) ?_
   refine r4 ?_
   obtain ⟨z5, hz5, hL⟩ := bind_some hL
   refine WX.hn gN rfl (s_mks (e := rSpot_) (x0 := (Spot_.mk 0 false 0)) () hS und124 size120 (byts120) zero120 rfl rfl (evT fh rfl) (evT fh rfl) rfl trivial hz5) ?_ rfl
   rintro _ h7 ⟨b6, c8, eb6, rfl, hS⟩
   refine WX.w gN rfl (av_bld bld126 (evp_cons lk (evp_cons lk evp_nil)) rfl (cs' := [.slice pa0_0 p0.in_.length pc0_0, .slice pa0_1 p0.boxes.length pc0_1, .slice pa0_2 p0.entries.length pc0_2, .slice pa0_3 p0.held.length pc0_3, .slice pa0_4 p0.wire.length pc0_4, .int .i64 p0.said, .slice (some ⟨b6, 0, none⟩) z5.length c8]) rfl) ?_ rfl
   refine WX.hn gN rfl (s_box hS lk (vs := [.slice pa0_0 p0.in_.length pc0_0, .slice pa0_1 p0.boxes.length pc0_1, .slice pa0_2 p0.entries.length pc0_2, .slice pa0_3 p0.held.length pc0_3, .slice pa0_4 p0.wire.length pc0_4, .int .i64 p0.said, .slice (some ⟨b6, 0, none⟩) z5.length c8]) rfl) ?_ rfl
   rintro _ h10 ⟨b9, eb9, rfl, hS⟩
   refine r6 ?_
   refine r1 ?_
   obtain ⟨x11, hx11, hL⟩ := bind_some hL
   refine WO.cl gN rfl (Ent.fn has70 (evs_cons lk evs_nil)) hS (.c k0 (.c k0 .n)) (fun g' hz hf hO => f70_wf (p0 := (Inspector.mk p0 z5)) (by rw [hz]; exact hS.hw) ((hS.sl hsp0_0).mono hf) ((hS.sl hsp0_1).mono hf) ((hS.sl hsp0_2).mono hf) ((hS.sl hsp0_3).mono hf) ((hS.sl hsp0_4).mono hf) hO hx11) ?_
   rintro _ h30 _ ⟨a12, c14, a15, c17, a18, c20, a21, c23, a24, c26, a27, n28, c29, rfl, rfl⟩ hS
   obtain rfl := hS.on k6
   refine r3 ?_
   obtain ⟨x32, hx32, hL⟩ := gd_some hL
   refine WO.gcp (GuardIs.no rfl rfl rfl (fskip rfl fh)) rfl (fun hg => (Ent.fn has71 (evs_cons (evG fh rfl hg) evs_nil))) (fun hg => f71_ok (hS.atB k0) (.inl (hS.lt k0)) (hS.fslu k1) (hS.fslu k2) (hS.fslu k3) (hS.fslu k4) (hS.fslu k5) (hS.ord k6) (hx32 hg)) ?_
   refine r4 ?_
   obtain ⟨x33, hx33, hL⟩ := gd_some hL
   refine WO.gcp (GuardIs.no rfl rfl rfl (fskip rfl fh)) rfl (fun hg => (Ent.fn has72 (evs_cons (evG fh rfl hg) evs_nil))) (fun hg => f72_ok (hS.atB k0) (.inl (hS.lt k0)) (hS.fslu k1) (hS.fslu k2) (hS.fslu k3) (hS.fslu k4) (hS.fslu k5) (hS.ord k6) (hx33 hg)) ?_
   refine r4 ?_
   refine cn hL ?_ ?_
   · intro hc hL
     refine r6 ?_
     refine r1 ?_
     exact rt hL hT hS
   · intro hc hL
     refine r12 ?_
     refine WC.loop (WL.lift hL (fun (v40 : Int) (s : Fs) => ∃ (fr35 : Fr) (h34 : H), s = ⟨fr35, [], h34, none⟩ ∧ Sp wm T h [bx wm b1 [.slice pa0_0 p0.in_.length pc0_0, .slice pa0_1 p0.boxes.length pc0_1, .slice pa0_2 p0.entries.length pc0_2, .slice pa0_3 p0.held.length pc0_3, .slice pa0_4 p0.wire.length pc0_4, .int .i64 p0.said], bx wm b9 [.slice a12 x11.1.ferryWorld.in_.length c14, .slice a15 x11.1.ferryWorld.boxes.length c17, .slice a18 x11.1.ferryWorld.entries.length c20, .slice a21 x11.1.ferryWorld.held.length c23, .slice a24 x11.1.ferryWorld.wire.length c26, .int .i64 x11.1.ferryWorld.said, .slice a27 x11.1.spots.length c29], fzA wm (rSl (rInt .i64)) (a12, c14) x11.1.ferryWorld.in_, fzA wm (rSl (rSl (rInt .i64))) (a15, c17) x11.1.ferryWorld.boxes, fzA wm (rSl (rSl rFerryEntry)) (a18, c20) x11.1.ferryWorld.entries, fzA wm (rSl (rSl rFerryMail)) (a21, c23) x11.1.ferryWorld.held, fzA wm (rSl rFerryLetter) (a24, c26) x11.1.ferryWorld.wire, ow wm rSpot_ a27 x11.1.spots.length c29 x11.1.spots] h34 ∧ fr35.at 1 = .pointer (some ⟨b1, 0, none⟩) ∧ fr35.at 3 = .pointer (some ⟨b9, 0, none⟩) ∧ fr35.at 39 = .slice pa0_4 p0.wire.length pc0_4 ∧ fr35.at 40 = .int .i64 (p0.wire.length : Int) ∧ fr35.at 41 = .int .i64 v40) ⟨_, _, rfl, hS.only (.c k7 (.c k0 (.c k0 (.c k0 (.c k0 (.c k0 (.c k0 (.c k0 .n)))))))), las⟩ ?_)
     clear hL hS
     rintro next42 v40 s hnext42 hL ⟨fr35, h34, rfl, hS, e36, e37, e38, e39, e41⟩
     dsimp only [f36_b0] at hL
     refine r6 ?_
     refine cn hL ?_ ?_
     · intro hc hL
       refine r6 ?_
       obtain ⟨x43, hx43, hL⟩ := bind_some hL
       obtain ⟨b44, o45, ⟨⟨a46, c47⟩, ⟨a48, c49⟩⟩, hab44, hAb44, hBb44, hFb44⟩ := Sl.at_ hsp0_4 hx43
       refine WO.w gN rfl (av_ixn und27 size95 lk lk rfl hab44 hx43) ?_
       have hsa46 : Sl (rInt .i64) wm h a46 c47 x43.places := hFb44.1
       have hsa48 : Sl (rInt .i64) wm h a48 c49 x43.ages := hFb44.2
       refine WO.w gN rfl (av_ldA agg95 size95 (evT fh rfl) (At.fz hS.fz hBb44 hAb44) (j := 0) rfl rfl (ws := [.int .i64 x43.kind, .int .i64 x43.to_, .int .i64 x43.mail.msg, .int .i64 x43.mail.place, .int .i64 x43.mail.from_, .int .i64 x43.mail.age, .int .i64 x43.mail.hops, .slice a46 x43.places.length c47, .slice a48 x43.ages.length c49, .int .i64 x43.place, .int .i64 x43.at_, .int .i64 x43.age]) rfl) ?_
       refine r1 ?_
       rintro _ h51 ⟨b50, eb50, rfl, hS⟩
       refine r1 ?_
       rintro h52 hS
       refine r6 ?_
       obtain ⟨x53, hx53, hL⟩ := bind_some hL
       refine WO.cp gN rfl (Ent.fn has73 (evs_cons lk (evs_cons lk evs_nil))) (WR.pureC rfl (f73_wf (Nat.le_refl _) (hS.atB k2) (.inl (hS.lt k2)) (hS.fslu k3) (hS.fslu k4) (hS.fslu k5) (hS.fslu k6) (hS.fslu k7) (hS.ord k8) (hS.slu hsa46) (hS.slu hsa48) hx53)) ?_
       refine r3 ?_
       refine cn hL ?_ ?_
       · intro hc hL
         refine r8 ?_
         refine r3 ?_
         exact rt hL hT hS
       · intro hc hL
         refine r6 ?_
         refine r1 ?_
         exact LoopK.nrm (hnext42 _ _ hL ⟨_, _, rfl, hS.only (.c k1 (.c k1 (.c k1 (.c k1 (.c k1 (.c k1 (.c k1 (.c k1 .n)))))))), las⟩)
     · intro hc hL
       refine r12 ?_
       refine r3 ?_
       refine WC.loop (WL.lift hL (fun (v59 : Int) (s : Fs) => ∃ (fr55 : Fr) (h54 : H), s = ⟨fr55, [], h54, none⟩ ∧ Sp wm T h [bx wm b9 [.slice a12 x11.1.ferryWorld.in_.length c14, .slice a15 x11.1.ferryWorld.boxes.length c17, .slice a18 x11.1.ferryWorld.entries.length c20, .slice a21 x11.1.ferryWorld.held.length c23, .slice a24 x11.1.ferryWorld.wire.length c26, .int .i64 x11.1.ferryWorld.said, .slice a27 x11.1.spots.length c29], fzA wm (rSl (rInt .i64)) (a12, c14) x11.1.ferryWorld.in_, fzA wm (rSl (rSl (rInt .i64))) (a15, c17) x11.1.ferryWorld.boxes, fzA wm (rSl (rSl rFerryEntry)) (a18, c20) x11.1.ferryWorld.entries, fzA wm (rSl (rSl rFerryMail)) (a21, c23) x11.1.ferryWorld.held, fzA wm (rSl rFerryLetter) (a24, c26) x11.1.ferryWorld.wire, ow wm rSpot_ a27 x11.1.spots.length c29 x11.1.spots] h54 ∧ fr55.at 3 = .pointer (some ⟨b9, 0, none⟩) ∧ fr55.at 51 = .slice pa0_3 p0.held.length pc0_3 ∧ fr55.at 52 = .int .i64 (p0.held.length : Int) ∧ fr55.at 53 = .int .i64 v59) ⟨_, _, rfl, hS.only (.c k1 (.c k1 (.c k1 (.c k1 (.c k1 (.c k1 (.c k1 .n))))))), las⟩ ?_)
       clear hL hS
       rintro next61 v59 s hnext61 hL ⟨fr55, h54, rfl, hS, e56, e57, e58, e60⟩
       dsimp only [f36_b1] at hL
       refine r6 ?_
       refine cn hL ?_ ?_
       · intro hc hL
         refine r6 ?_
         refine r1 ?_
         obtain ⟨x62, hx62, hL⟩ := bind_some hL
         obtain ⟨b63, o64, ⟨a65, c66⟩, hab63, hAb63, hBb63, hFb63⟩ := Sl.at_ hsp0_3 hx62
         refine WO.w gN rfl (av_ixn und26 size90 lk lk rfl hab63 hx62) ?_
         have hsa65 : Sl rFerryMail wm h a65 c66 x62 := hFb63
         refine WO.w gN rfl (av_ld agg90 (evT fh rfl) (At.fz hS.fz hBb63 hAb63) (j := 0) rfl (v := .slice a65 x62.length c66) rfl) ?_
         refine r12 ?_
         refine WC.loop (WL.lift hL (fun (v76 : Int) (s : Fs) => ∃ (fr68 : Fr) (h67 : H), s = ⟨fr68, [], h67, none⟩ ∧ Sp wm T h [bx wm b9 [.slice a12 x11.1.ferryWorld.in_.length c14, .slice a15 x11.1.ferryWorld.boxes.length c17, .slice a18 x11.1.ferryWorld.entries.length c20, .slice a21 x11.1.ferryWorld.held.length c23, .slice a24 x11.1.ferryWorld.wire.length c26, .int .i64 x11.1.ferryWorld.said, .slice a27 x11.1.spots.length c29], fzA wm (rSl (rInt .i64)) (a12, c14) x11.1.ferryWorld.in_, fzA wm (rSl (rSl (rInt .i64))) (a15, c17) x11.1.ferryWorld.boxes, fzA wm (rSl (rSl rFerryEntry)) (a18, c20) x11.1.ferryWorld.entries, fzA wm (rSl (rSl rFerryMail)) (a21, c23) x11.1.ferryWorld.held, fzA wm (rSl rFerryLetter) (a24, c26) x11.1.ferryWorld.wire, ow wm rSpot_ a27 x11.1.spots.length c29 x11.1.spots] h67 ∧ fr68.at 3 = .pointer (some ⟨b9, 0, none⟩) ∧ fr68.at 6 = .int .i64 v59 ∧ fr68.at 51 = .slice pa0_3 p0.held.length pc0_3 ∧ fr68.at 52 = .int .i64 (p0.held.length : Int) ∧ fr68.at 53 = .int .i64 v59 ∧ fr68.at 58 = .slice a65 x62.length c66 ∧ fr68.at 59 = .int .i64 (x62.length : Int) ∧ fr68.at 60 = .int .i64 v76) ⟨_, _, rfl, hS.only (.c k0 (.c k0 (.c k0 (.c k0 (.c k0 (.c k0 (.c k0 .n))))))), las⟩ ?_)
         clear hL hS
         rintro next78 v76 s hnext78 hL ⟨fr68, h67, rfl, hS, e69, e70, e71, e72, e73, e74, e75, e77⟩
         dsimp only [f36_b2] at hL
         refine r6 ?_
         refine cn hL ?_ ?_
         · intro hc hL
           refine r6 ?_
           obtain ⟨x79, hx79, hL⟩ := bind_some hL
           obtain ⟨b80, o81, _, hab80, hAb80, hBb80, hFb80⟩ := Sl.at_ hsa65 hx79
           refine WO.w gN rfl (av_ixn und90 size92 lk lk rfl hab80 hx79) ?_
           refine WO.w gN rfl (av_ldA agg92 size92 (evT fh rfl) (At.fz hS.fz hBb80 hAb80) (j := 0) rfl rfl (ws := [.int .i64 x79.msg, .int .i64 x79.place, .int .i64 x79.from_, .int .i64 x79.age, .int .i64 x79.hops]) rfl) ?_
           refine r1 ?_
           rintro _ h83 ⟨b82, eb82, rfl, hS⟩
           refine r1 ?_
           rintro h84 hS
           refine r3 ?_
           refine WC.drawX mixed (by kernel_rfl) ?_
           refine r3 ?_
           obtain ⟨x85, hx85, hL⟩ := bind_some hL
           refine WX.cp gN rfl (Ent.fn has74 (evs_cons lk (evs_cons lk (evs_cons lk evs_nil)))) (WR.pureC rfl (f74_wf (Nat.le_refl _) (hS.atB k1) (.inl (hS.lt k1)) (hS.fslu k2) (hS.fslu k3) (hS.fslu k4) (hS.fslu k5) (hS.fslu k6) (hS.ord k7) hx85)) ?_ rfl rfl
           refine r8 ?_
           obtain ⟨x86, hx86, hL⟩ := gd_some hL
           obtain ⟨b87, o88, _, hQ⟩ := Src.atG (fun hg => (hS.osrc k7)) hx86
           have hab87 := fun hg => (hQ hg).1
           have hAb87 := fun hg => (hQ hg).2.1
           have hFb87 := fun hg => (hQ hg).2.2
           refine WX.gv (GuardIs.no rfl rfl rfl (fs4 rfl (fs2 rfl fh))) rfl (fun hg => (av_ixn und124 size120 (evG (fs2 rfl fh) rfl hg) (evG fh rfl hg) rfl (hab87 hg) (hx86 hg))) ?_ rfl
           refine WX.gv (GuardIs.no rfl rfl rfl (fs4 rfl (fs2 rfl (fskip rfl fh)))) rfl (fun hg => (av_ldA agg120 size120 (evG fh rfl hg) (hAb87 hg) (j := 0) rfl rfl (ws := [.int .i64 x86.machine, .bool x86.here, .int .i64 x86.age]) rfl)) ?_ rfl
           refine r3 ?_
           refine WX.gv (GuardIs.no rfl rfl rfl (fs8 rfl (fs2 rfl (fskip rfl fh)))) rfl (fun hg => (av_bld bld120 (evp_cons (evG (fs2 rfl fh) rfl hg) (evp_cons lk (evp_cons (evG fh rfl hg) evp_nil))) rfl (cs' := [.int .i64 v59, .bool false, .int .i64 x79.age]) rfl)) ?_ rfl
           refine WX.gv (GuardIs.no rfl rfl rfl (fs8 rfl (fs4 rfl fh))) rfl (fun hg => (av_bin (evG (fs4 rfl fh) rfl hg) (evG fh rfl hg) (abin_neS (xs := [.int .i64 x86.machine, .bool x86.here, .int .i64 x86.age]) (ys := [.int .i64 v59, .bool false, .int .i64 x79.age]) (eqs120 x86 (Spot_.mk v59 false x79.age)) rfl rfl))) ?_ rfl
           refine r3 ?_
           refine cn hL ?_ ?_
           · intro hc hL
             refine r12 ?_
             refine r3 ?_
             exact rt hL hT hS
           · intro hc hL
             refine r6 ?_
             refine r1 ?_
             exact LoopK.nrm (hnext78 _ _ hL ⟨_, _, rfl, hS.only (.c k1 (.c k1 (.c k1 (.c k1 (.c k1 (.c k1 (.c k1 .n))))))), las⟩)
         · intro hc hL
           refine r8 ?_
           refine r2 ?_
           exact LoopK.nrm (hnext61 _ _ hL ⟨_, _, rfl, hS.only (.c k0 (.c k0 (.c k0 (.c k0 (.c k0 (.c k0 (.c k0 .n))))))), las⟩)
       · intro hc hL
         refine r8 ?_
         refine r3 ?_
         exact rt hL hT hS
theorem f66_wf {F : Nat} {wm : Nat} {h : H} {p0 : FerryWorld} {p1 : Int} {pa0_0 : Option Addr} {pc0_0 : Nat} {pa0_1 : Option Addr} {pc0_1 : Nat} {pa0_2 : Option Addr} {pc0_2 : Nat} {pa0_3 : Option Addr} {pc0_3 : Nat} {pa0_4 : Option Addr} {pc0_4 : Nat} {r : Bool} (hwm : wm ≤ h.size) (hsp0_0 : Sl (rInt .i64) wm h pa0_0 pc0_0 p0.in_) (hsp0_1 : Sl (rSl (rInt .i64)) wm h pa0_1 pc0_1 p0.boxes) (hsp0_2 : Sl (rSl rFerryEntry) wm h pa0_2 pc0_2 p0.entries) (hsp0_3 : Sl (rSl rFerryMail) wm h pa0_3 pc0_3 p0.held) (hsp0_4 : Sl rFerryLetter wm h pa0_4 pc0_4 p0.wire) (hL : f66L F p0 p1 = some r) :
    WR XX 66 #[.agg [.slice pa0_0 p0.in_.length pc0_0, .slice pa0_1 p0.boxes.length pc0_1, .slice pa0_2 p0.entries.length pc0_2, .slice pa0_3 p0.held.length pc0_3, .slice pa0_4 p0.wire.length pc0_4, .int .i64 p0.said].toArray, .int .i64 p1] wm h (CP (fun (v : Value) (Gb : List (Ast wm)) => v = .bool r ∧ Gb = []) [] h) := by
 refine bg Tryz.ntmps66 hwm Hold.nil ?_
 intro T hT hS
 unfold f66L at hL
 refine r3 ?_
 rintro _ h2 ⟨b1, eb1, rfl, hS⟩
 refine r6 ?_
 obtain ⟨x3, hx3, hL⟩ := bind_some hL
 refine WO.cp gN rfl (Ent.fn has36 (evs_cons lk evs_nil)) (WR.pureC rfl (f36_wf (Nat.le_refl _) (hS.slu hsp0_0) (hS.slu hsp0_1) (hS.slu hsp0_2) (hS.slu hsp0_3) (hS.slu hsp0_4) hx3)) ?_
 refine r16 ?_
 exact rt hL hT hS
end Go.Proofs.YtbmbbcaaimehkaaGreat
end
end
section
set_option linter.unusedVariables false
set_option linter.unusedSimpArgs false
namespace Go.Proofs.YtbmbbcaaimehkaaGreat
open Go.Lf
def f34_j0 : (List Int) → Option ((List Int) × Int) := fun v14 =>
  some (v14, 0)
def f34_b0 (p0 : FerryWorld) (p2 : Int) (x4 : (Spot_ × Int)) : Int × (List Int) → (Int × (List Int) → Option ((List Int) × Int)) → Option ((List Int) × Int) := fun (v21, v26) next31 =>
  (geti p0.entries v21).bind fun x32 => (geti x32 p2).bind fun x37 => (bif (!x37.here) then (geti p0.entries v21).bind fun x40 => (geti x40 p2).bind fun x45 => (app 8 v26 [x45.to_]).bind fun z50 => (bif (x45.to_ == x4.1.machine) then (f34_j0) z50 else next31 (x45.to_, z50)) else (f34_j0) v26)
def f34L (F : Nat) (p0 : FerryWorld) (p1 : Int) (p2 : Int) : Option ((List Int) × Int) :=
  (f66L F p0 p2).bind fun x3 => (bif (((!x3) || (decide (p1 < 0))) || (decide (p1 ≥ (p0.entries.length : Int)))) then some ([], 2) else (f67L F p0 p2).bind fun x4 => loop F (f34_b0 p0 p2 x4) (p1, [p1]))
end Go.Proofs.YtbmbbcaaimehkaaGreat
end
section
set_option linter.unusedVariables false
set_option linter.unusedSimpArgs false
set_option maxRecDepth 20000
noncomputable section
namespace Go.Proofs.YtbmbbcaaimehkaaGreat
open Go.Abs Go.Lf
theorem f34_wf {F : Nat} {wm : Nat} {h : H} {p0 : FerryWorld} {p1 : Int} {p2 : Int} {pa0_0 : Option Addr} {pc0_0 : Nat} {pa0_1 : Option Addr} {pc0_1 : Nat} {pa0_2 : Option Addr} {pc0_2 : Nat} {pa0_3 : Option Addr} {pc0_3 : Nat} {pa0_4 : Option Addr} {pc0_4 : Nat} {r : ((List Int) × Int)} (hwm : wm ≤ h.size) (hsp0_0 : Sl (rInt .i64) wm h pa0_0 pc0_0 p0.in_) (hsp0_1 : Sl (rSl (rInt .i64)) wm h pa0_1 pc0_1 p0.boxes) (hsp0_2 : Sl (rSl rFerryEntry) wm h pa0_2 pc0_2 p0.entries) (hsp0_3 : Sl (rSl rFerryMail) wm h pa0_3 pc0_3 p0.held) (hsp0_4 : Sl rFerryLetter wm h pa0_4 pc0_4 p0.wire) (hL : f34L F p0 p1 p2 = some r) :
    WR XX 34 #[.agg [.slice pa0_0 p0.in_.length pc0_0, .slice pa0_1 p0.boxes.length pc0_1, .slice pa0_2 p0.entries.length pc0_2, .slice pa0_3 p0.held.length pc0_3, .slice pa0_4 p0.wire.length pc0_4, .int .i64 p0.said].toArray, .int .i64 p1, .int .i64 p2] wm h (CP (fun (v : Value) (Gb : List (Ast wm)) => ∃ (ra0_0 : Option Addr) (rn0_0 : Nat) (rc0_0 : Nat), v = .tuple [.slice ra0_0 rn0_0 rc0_0, .int .i64 r.2].toArray ∧ Gb = [ow wm (rInt .i64) ra0_0 rn0_0 rc0_0 r.1]) [] h) := by
 refine bg Tryz.ntmps34 hwm Hold.nil ?_
 intro T hT hS
 unfold f34L at hL
 refine r3 ?_
 rintro _ h2 ⟨b1, eb1, rfl, hS⟩
 refine r8 ?_
 refine r1 ?_
 obtain ⟨x3, hx3, hL⟩ := bind_some hL
 refine WO.cp gN rfl (Ent.fn has66 (evs_cons lk (evs_cons lk evs_nil))) (WR.pureC rfl (f66_wf (Nat.le_refl _) (hS.slu hsp0_0) (hS.slu hsp0_1) (hS.slu hsp0_2) (hS.slu hsp0_3) (hS.slu hsp0_4) hx3)) ?_
 refine r12 ?_
 refine r2 ?_
 refine cn hL ?_ ?_
 · intro hc hL
   refine r8 ?_
   have hS := hS.nil (e := (rInt .i64))
   have hr := Option.some.inj hL
   subst hr
   exact RetK.gen (vs := [.slice none 0 0, .int .i64 2]) rfl (ares_tmp lk (ares_tmp lk ares_nil)) rfl ⟨_, ⟨none, 0, 0, rfl, rfl⟩, hT ▸ hS.only (.c k0 .n)⟩
 · intro hc hL
   refine r6 ?_
   obtain ⟨x4, hx4, hL⟩ := bind_some hL
   refine WO.cl gN rfl (Ent.fn has67 (evs_cons lk (evs_cons lk evs_nil))) hS .n (fun g' hz hf hO => f67_wf (by rw [hz]; exact hS.hw) ((hS.sl hsp0_0).mono hf) ((hS.sl hsp0_1).mono hf) ((hS.sl hsp0_2).mono hf) ((hS.sl hsp0_3).mono hf) ((hS.sl hsp0_4).mono hf) hx4) ?_
   rintro _ h5 _ ⟨rfl, rfl⟩ hS
   refine r4 ?_
   rintro _ h8 ⟨b7, eb7, rfl, hS⟩
   refine r1 ?_
   rintro h9 hS
   refine r6 ?_
   refine WO.hn gN rfl (s_bs (e := (rInt .i64)) hS und22 size3 zero3 rfl rfl rfl (evp_cons lk evp_nil) rfl [((), p1)] rfl (xs := [p1]) rfl (by intro q hq; simp only [List.mem_cons, List.not_mem_nil, or_false] at hq; subst hq; exact trivial) rfl) ?_
   rintro _ h11 ⟨b10, eb10, rfl, hS⟩
   refine r3 ?_
   refine WC.seqJ (r := r) (fun (v14 : (List Int)) (s : Fs) => ∃ (fr13 : Fr) (h12 : H) (a15 : Option Addr) (c16 : Nat) (n17 : Nat), s = ⟨fr13, [], h12, none⟩ ∧ Sp wm T h [ow wm (rInt .i64) a15 n17 c16 v14] h12 ∧ fr13.at 10 = .slice a15 n17 c16) (f34_j0) ?_ ?_
   · clear hL hS
     rintro v14 s hL ⟨fr13, h12, a15, c16, n17, rfl, hS, e18⟩
     obtain rfl := hS.on k0
     dsimp only [f34_j0] at hL
     refine r8 ?_
     have hr := Option.some.inj hL
     subst hr
     exact RetK.gen (vs := [.slice a15 v14.length c16, .int .i64 0]) rfl (ares_tmp lk (ares_tmp lk ares_nil)) rfl ⟨_, ⟨a15, v14.length, c16, rfl, rfl⟩, hT ▸ hS.only (.c k0 .n)⟩
   · skip
     refine r1 ?_
     refine WC.loop (WL.lift hL (fun (p : Int × (List Int)) (s : Fs) => match p with | (v21, v26) => ∃ (fr20 : Fr) (h19 : H) (a27 : Option Addr) (c28 : Nat) (n29 : Nat), s = ⟨fr20, [], h19, none⟩ ∧ Sp wm T h [ow wm (rInt .i64) a27 n29 c28 v26, bx wm b1 [.slice pa0_0 p0.in_.length pc0_0, .slice pa0_1 p0.boxes.length pc0_1, .slice pa0_2 p0.entries.length pc0_2, .slice pa0_3 p0.held.length pc0_3, .slice pa0_4 p0.wire.length pc0_4, .int .i64 p0.said], bx wm b7 [.int .i64 x4.1.machine, .bool x4.1.here, .int .i64 x4.1.age]] h19 ∧ fr20.at 1 = .int .i64 v21 ∧ fr20.at 2 = .int .i64 p2 ∧ fr20.at 3 = .pointer (some ⟨b1, 0, none⟩) ∧ fr20.at 8 = .pointer (some ⟨b7, 0, none⟩) ∧ fr20.at 10 = .slice a27 n29 c28) ⟨_, _, (some ⟨b10, 0, none⟩), 2, 1, rfl, hS.only (.c k0 (.c k1 (.c k0 .n))), las⟩ ?_)
     clear hL hS
     rintro next31 ⟨v21, v26⟩ s hnext31 hL ⟨fr20, h19, a27, c28, n29, rfl, hS, e22, e23, e24, e25, e30⟩
     obtain rfl := hS.on k0
     dsimp only [f34_b0] at hL
     refine r6 ?_
     obtain ⟨x32, hx32, hL⟩ := bind_some hL
     obtain ⟨b33, o34, ⟨a35, c36⟩, hab33, hAb33, hBb33, hFb33⟩ := Sl.at_ hsp0_2 hx32
     refine WO.w gN rfl (av_ixn und25 size64 lk lk rfl hab33 hx32) ?_
     have hsa35 : Sl rFerryEntry wm h a35 c36 x32 := hFb33
     refine WO.w gN rfl (av_ld agg64 (evT fh rfl) (At.fz hS.fz hBb33 hAb33) (j := 0) rfl (v := .slice a35 x32.length c36) rfl) ?_
     refine r1 ?_
     obtain ⟨x37, hx37, hL⟩ := bind_some hL
     obtain ⟨b38, o39, _, hab38, hAb38, hBb38, hFb38⟩ := Sl.at_ hsa35 hx37
     refine WO.w gN rfl (av_ixn und64 size63 lk lk rfl hab38 hx37) ?_
     refine r1 ?_
     refine WO.w gN rfl (av_ld agg4 (evT fh rfl) (At.fz hS.fz hBb38 hAb38) (j := 0) rfl (v := .bool x37.here) rfl) ?_
     refine r3 ?_
     refine cn hL ?_ ?_
     · intro hc hL
       refine r8 ?_
       obtain ⟨x40, hx40, hL⟩ := bind_some hL
       obtain ⟨b41, o42, ⟨a43, c44⟩, hab41, hAb41, hBb41, hFb41⟩ := Sl.at_ hsp0_2 hx40
       refine WO.w gN rfl (av_ixn und25 size64 lk lk rfl hab41 hx40) ?_
       have hsa43 : Sl rFerryEntry wm h a43 c44 x40 := hFb41
       refine WO.w gN rfl (av_ld agg64 (evT fh rfl) (At.fz hS.fz hBb41 hAb41) (j := 0) rfl (v := .slice a43 x40.length c44) rfl) ?_
       refine r1 ?_
       obtain ⟨x45, hx45, hL⟩ := bind_some hL
       obtain ⟨b46, o47, _, hab46, hAb46, hBb46, hFb46⟩ := Sl.at_ hsa43 hx45
       refine WO.w gN rfl (av_ixn und64 size63 lk lk rfl hab46 hx45) ?_
       refine r1 ?_
       refine WO.w gN rfl (av_ld agg3 (evT fh rfl) (At.fz hS.fz hBb46 hAb46) (j := 1) rfl (v := .int .i64 x45.to_) rfl) ?_
       refine r6 ?_
       refine r1 ?_
       refine WO.hn gN rfl (s_bs (e := (rInt .i64)) hS und22 size3 zero3 rfl rfl rfl (evp_cons lk evp_nil) rfl [((), x45.to_)] rfl (xs := [x45.to_]) rfl (by intro q hq; simp only [List.mem_cons, List.not_mem_nil, or_false] at hq; subst hq; exact trivial) rfl) ?_
       rintro _ h49 ⟨b48, eb48, rfl, hS⟩
       obtain ⟨z50, hz50, hL⟩ := bind_some hL
       refine WO.hv gN rfl (s_ap (e := (rInt .i64)) hS k1 app22_22 lk lk (hS.osrc k0) (hS.on k0) hz50) ?_
       rintro _ h53 ⟨a51, c52, rfl, hS⟩
       refine r8 ?_
       refine r3 ?_
       refine cn hL ?_ ?_
       · intro hc hL
         refine r1 ?_
         refine BlkK.other rfl ?_
         refine r2 ?_
         exact SeqJ.nrm _ hL ⟨_, _, a51, c52, z50.length, rfl, hS.only (.c k0 .n), las⟩
       · intro hc hL
         refine r2 ?_
         exact LoopK.nrm (hnext31 _ _ hL ⟨_, _, a51, c52, z50.length, rfl, hS.only (.c k0 (.c k1 (.c k1 .n))), las⟩)
     · intro hc hL
       refine r4 ?_
       exact SeqJ.nrm _ hL ⟨_, _, a27, c28, v26.length, rfl, hS.only (.c k0 .n), las⟩
end Go.Proofs.YtbmbbcaaimehkaaGreat
end
end
section
set_option linter.unusedVariables false
set_option linter.unusedSimpArgs false
namespace Go.Proofs.YtbmbbcaaimehkaaGreat
open Go.Lf
end Go.Proofs.YtbmbbcaaimehkaaGreat
end
section
set_option linter.unusedVariables false
set_option linter.unusedSimpArgs false
set_option maxRecDepth 20000
noncomputable section
namespace Go.Proofs.YtbmbbcaaimehkaaGreat
open Go.Abs Go.Lf
end Go.Proofs.YtbmbbcaaimehkaaGreat
end
end
section
set_option linter.unusedVariables false
set_option linter.unusedSimpArgs false
namespace Go.Proofs.YtbmbbcaaimehkaaGreat
open Go.Lf
def f10_b1 (p1 : Int) (x7 : ((List Int) × Int)) (x13 : (Int × Bool × Int)) (v30 : Int) (next32 : (Int × Int → Option Bool)) (x45 : FerryEntry) : Int → (Int → Option Bool) → Option Bool := fun v64 next66 =>
  (bif decide (v64 < v30) then (geti x7.1 v64).bind fun x67 => (geti x7.1 v30).bind fun x70 => (bif (x67 == x70) then some false else next66 (w64 (v64 + 1))) else (gd (decide (v30 > 0)) (geti x7.1 v30) default).bind fun x73 => (gd ((decide (v30 > 0)) && (!(x73 == p1))) (geti x7.1 v30) default).bind fun x76 => (bif ((decide (v30 > 0)) && ((x73 == p1) || (x76 == x13.1))) then some false else next32 (x45.age, w64 (v30 + 1))))
def f10_b0 (F : Nat) (p0 : FerryWorld) (p1 : Int) (p2 : Int) (x7 : ((List Int) × Int)) (x13 : (Int × Bool × Int)) : Int × Int → (Int × Int → Option Bool) → Option Bool := fun (v28, v30) next32 =>
  (bif decide ((w64 (v30 + 1)) < (x7.1.length : Int)) then (geti x7.1 v30).bind fun x33 => (f32L x33 (p0.entries.length : Int)).bind fun x36 => (bif (!x36) then some false else (geti x7.1 v30).bind fun x37 => (geti p0.entries x37).bind fun x40 => (geti x40 p2).bind fun x45 => (gd (!x45.here) (geti x7.1 (w64 (v30 + 1))) default).bind fun x51 => (bif (((x45.here || (x45.to_ != x51)) || (decide (x45.age ≤ v28))) || (decide (x45.age > x13.2.2))) then some false else loop F (f10_b1 p1 x7 x13 v30 next32 x45) 1)) else (f14L).bind fun x79 => some x79)
def f10L (F : Nat) (p0 : FerryWorld) (p1 : Int) (p2 : Int) : Option Bool :=
  (f35L F p0).bind fun x3 => (gd (!(!x3)) (f32L p1 (p0.entries.length : Int)) default).bind fun x4 => (gd (!((!x3) || (!x4))) (f32L p2 (p0.in_.length : Int)) default).bind fun x5 => (bif (((!x3) || (!x4)) || (!x5)) then (f14L).bind fun x6 => some x6 else (f34L F p0 p1 p2).bind fun x7 => (f33L F p0 p2).bind fun x13 => (gd (!(((x7.2 != 0) || (decide ((x7.1.length : Int) < 1))) || (decide ((x7.1.length : Int) > (w64 ((p0.entries.length : Int) + 1)))))) (geti x7.1 0) default).bind fun x14 => (gd (!((((x7.2 != 0) || (decide ((x7.1.length : Int) < 1))) || (decide ((x7.1.length : Int) > (w64 ((p0.entries.length : Int) + 1))))) || (x14 != p1))) (geti x7.1 (w64 ((x7.1.length : Int) - 1))) default).bind fun x17 => (bif (((((((x7.2 != 0) || (decide ((x7.1.length : Int) < 1))) || (decide ((x7.1.length : Int) > (w64 ((p0.entries.length : Int) + 1))))) || (x14 != p1)) || (x17 != x13.1)) || ((x13.2.1 && (p1 == x13.1)) && ((x7.1.length : Int) != 1))) || (((!x13.2.1) || (p1 != x13.1)) && (decide ((x7.1.length : Int) < 2)))) then some false else loop F (f10_b0 F p0 p1 p2 x7 x13) ((-1), 0)))
end Go.Proofs.YtbmbbcaaimehkaaGreat
end
section
set_option linter.unusedVariables false
set_option linter.unusedSimpArgs false
set_option maxRecDepth 20000
noncomputable section
namespace Go.Proofs.YtbmbbcaaimehkaaGreat
open Go.Abs Go.Lf
theorem f10_wf {F : Nat} {wm : Nat} {h : H} {p0 : FerryWorld} {p1 : Int} {p2 : Int} {pa0_0 : Option Addr} {pc0_0 : Nat} {pa0_1 : Option Addr} {pc0_1 : Nat} {pa0_2 : Option Addr} {pc0_2 : Nat} {pa0_3 : Option Addr} {pc0_3 : Nat} {pa0_4 : Option Addr} {pc0_4 : Nat} {r : Bool} (hwm : wm ≤ h.size) (hsp0_0 : Sl (rInt .i64) wm h pa0_0 pc0_0 p0.in_) (hsp0_1 : Sl (rSl (rInt .i64)) wm h pa0_1 pc0_1 p0.boxes) (hsp0_2 : Sl (rSl rFerryEntry) wm h pa0_2 pc0_2 p0.entries) (hsp0_3 : Sl (rSl rFerryMail) wm h pa0_3 pc0_3 p0.held) (hsp0_4 : Sl rFerryLetter wm h pa0_4 pc0_4 p0.wire) (hL : f10L F p0 p1 p2 = some r) :
    WR XX 10 #[.agg [.slice pa0_0 p0.in_.length pc0_0, .slice pa0_1 p0.boxes.length pc0_1, .slice pa0_2 p0.entries.length pc0_2, .slice pa0_3 p0.held.length pc0_3, .slice pa0_4 p0.wire.length pc0_4, .int .i64 p0.said].toArray, .int .i64 p1, .int .i64 p2] wm h (CP (fun (v : Value) (Gb : List (Ast wm)) => v = .bool r ∧ Gb = []) [] h) := by
 refine bg Tryz.ntmps10 hwm Hold.nil ?_
 intro T hT hS
 unfold f10L at hL
 refine r3 ?_
 rintro _ h2 ⟨b1, eb1, rfl, hS⟩
 refine r6 ?_
 refine r1 ?_
 obtain ⟨x3, hx3, hL⟩ := bind_some hL
 refine WO.cp gN rfl (Ent.fn has35 (evs_cons lk evs_nil)) (WR.pureC rfl (f35_wf (Nat.le_refl _) (hS.slu hsp0_0) (hS.slu hsp0_1) (hS.slu hsp0_2) (hS.slu hsp0_3) (hS.slu hsp0_4) hx3)) ?_
 refine r6 ?_
 obtain ⟨x4, hx4, hL⟩ := gd_some hL
 refine WO.gcp (GuardIs.no rfl rfl rfl (fs4 rfl fh)) rfl (fun hg => (Ent.fn has32 (evs_cons (evG (fs2 rfl (fskip rfl fh)) rfl hg) (evs_cons (evG fh rfl hg) evs_nil)))) (fun hg => f32_ok (hx4 hg)) ?_
 refine r6 ?_
 refine r1 ?_
 obtain ⟨x5, hx5, hL⟩ := gd_some hL
 refine WO.gcp (GuardIs.no rfl rfl rfl (fs4 rfl fh)) rfl (fun hg => (Ent.fn has32 (evs_cons (evG (fs2 rfl (fskip rfl fh)) rfl hg) (evs_cons (evG fh rfl hg) evs_nil)))) (fun hg => f32_ok (hx5 hg)) ?_
 refine r4 ?_
 refine cn hL ?_ ?_
 · intro hc hL
   refine r2 ?_
   obtain ⟨x6, hx6, hL⟩ := bind_some hL
   refine WO.cp gN rfl (Ent.fn has14 evs_nil) (f14_ok hx6) ?_
   refine r4 ?_
   refine r1 ?_
   exact rt hL hT hS
 · intro hc hL
   refine r6 ?_
   refine r1 ?_
   obtain ⟨x7, hx7, hL⟩ := bind_some hL
   refine WO.cl gN rfl (Ent.fn has34 (evs_cons lk (evs_cons lk (evs_cons lk evs_nil)))) hS .n (fun g' hz hf hO => f34_wf (by rw [hz]; exact hS.hw) ((hS.sl hsp0_0).mono hf) ((hS.sl hsp0_1).mono hf) ((hS.sl hsp0_2).mono hf) ((hS.sl hsp0_3).mono hf) ((hS.sl hsp0_4).mono hf) hx7) ?_
   rintro _ h11 _ ⟨a8, n9, c10, rfl, rfl⟩ hS
   obtain rfl := hS.on k0
   refine r8 ?_
   refine r3 ?_
   obtain ⟨x13, hx13, hL⟩ := bind_some hL
   refine WO.cp gN rfl (Ent.fn has33 (evs_cons lk (evs_cons lk evs_nil))) (WR.pureC rfl (f33_wf (Nat.le_refl _) (hS.slu hsp0_0) (hS.slu hsp0_1) (hS.slu hsp0_2) (hS.slu hsp0_3) (hS.slu hsp0_4) hx13)) ?_
   refine r16 ?_
   refine r12 ?_
   refine r2 ?_
   obtain ⟨x14, hx14, hL⟩ := gd_some hL
   obtain ⟨b15, o16, _, hQ⟩ := Src.atG (fun hg => (hS.osrc k0)) hx14
   have hab15 := fun hg => (hQ hg).1
   have hAb15 := fun hg => (hQ hg).2.1
   have hFb15 := fun hg => (hQ hg).2.2
   refine WO.gv (GuardIs.no rfl rfl rfl (fskip rfl fh)) rfl (fun hg => (av_ixn und22 size3 (evG fh rfl hg) lk rfl (hab15 hg) (hx14 hg))) ?_
   refine WO.gv (GuardIs.no rfl rfl rfl (fs2 rfl fh)) rfl (fun hg => (av_ld agg3 (evG fh rfl hg) (hAb15 hg) (j := 0) rfl (v := .int .i64 x14) rfl)) ?_
   refine r8 ?_
   obtain ⟨x17, hx17, hL⟩ := gd_some hL
   obtain ⟨b18, o19, _, hQ⟩ := Src.atG (fun hg => (hS.osrc k0)) hx17
   have hab18 := fun hg => (hQ hg).1
   have hAb18 := fun hg => (hQ hg).2.1
   have hFb18 := fun hg => (hQ hg).2.2
   refine WO.gv (GuardIs.no rfl rfl rfl (fs4 rfl fh)) rfl (fun hg => (av_ixn und22 size3 (evG (fs2 rfl (fskip rfl fh)) rfl hg) (evG fh rfl hg) rfl (hab18 hg) (hx17 hg))) ?_
   refine WO.gv (GuardIs.no rfl rfl rfl (fs4 rfl (fskip rfl fh))) rfl (fun hg => (av_ld agg3 (evG fh rfl hg) (hAb18 hg) (j := 0) rfl (v := .int .i64 x17) rfl)) ?_
   refine r8 ?_
   refine r1 ?_
   refine WO.gv (GuardIs.no rfl rfl rfl (fs4 rfl (fskip rfl fh))) rfl (fun hg => (av_and (evG (fs2 rfl (fskip rfl fh)) rfl hg) (evGU2 fh hg) lk)) ?_
   refine r4 ?_
   refine WO.gv (GuardIs.no rfl rfl rfl (fs8 rfl (fs2 rfl fh))) rfl (fun hg => (av_and (evG (fs2 rfl (fskip rfl fh)) rfl hg) (evGU2 fh hg) lk)) ?_
   refine r8 ?_
   refine WO.gv (GuardIs.no rfl rfl rfl (fs4 rfl (fs2 rfl fh))) rfl (fun hg => (av_or (evG (fs2 rfl (fskip rfl fh)) rfl hg) lk (evGU2 fh hg))) ?_
   refine r4 ?_
   refine WO.gv (GuardIs.no rfl rfl rfl (fs8 rfl (fs2 rfl (fskip rfl fh)))) rfl (fun hg => (av_and (evG (fs2 rfl (fskip rfl fh)) rfl hg) (evGU2 fh hg) lk)) ?_
   refine r3 ?_
   refine cn hL ?_ ?_
   · intro hc hL
     refine r6 ?_
     refine r1 ?_
     exact rt hL hT hS
   · intro hc hL
     refine r12 ?_
     refine r2 ?_
     refine WC.loop (WL.lift hL (fun (p : Int × Int) (s : Fs) => match p with | (v28, v30) => ∃ (fr21 : Fr) (h20 : H), s = ⟨fr21, [], h20, none⟩ ∧ Sp wm T h [bx wm b1 [.slice pa0_0 p0.in_.length pc0_0, .slice pa0_1 p0.boxes.length pc0_1, .slice pa0_2 p0.entries.length pc0_2, .slice pa0_3 p0.held.length pc0_3, .slice pa0_4 p0.wire.length pc0_4, .int .i64 p0.said], ow wm (rInt .i64) a8 x7.1.length c10 x7.1] h20 ∧ fr21.at 1 = .int .i64 p1 ∧ fr21.at 2 = .int .i64 p2 ∧ fr21.at 3 = .pointer (some ⟨b1, 0, none⟩) ∧ fr21.at 7 = .slice a8 x7.1.length c10 ∧ fr21.at 9 = .int .i64 x13.1 ∧ fr21.at 11 = .int .i64 x13.2.2 ∧ fr21.at 12 = .int .i64 v28 ∧ fr21.at 13 = .int .i64 v30) ⟨_, _, rfl, hS.only (.c k1 (.c k0 .n)), las⟩ ?_)
     clear hL hS
     rintro next32 ⟨v28, v30⟩ s hnext32 hL ⟨fr21, h20, rfl, hS, e22, e23, e24, e25, e26, e27, e29, e31⟩
     dsimp only [f10_b0] at hL
     refine r8 ?_
     refine r2 ?_
     refine cn hL ?_ ?_
     · intro hc hL
       refine r6 ?_
       refine WC.drawX mixed (by kernel_rfl) ?_
       refine r2 ?_
       obtain ⟨x33, hx33, hL⟩ := bind_some hL
       obtain ⟨b34, o35, _, hab34, hAb34, hFb34⟩ := Src.at_ (hS.osrc k1) hx33
       refine WX.w gN rfl (av_ixn und22 size3 lk lk rfl hab34 hx33) ?_ rfl
       refine WX.w gN rfl (av_ld agg3 (evT fh rfl) hAb34 (j := 0) rfl (v := .int .i64 x33) rfl) ?_ rfl
       refine r3 ?_
       obtain ⟨x36, hx36, hL⟩ := bind_some hL
       refine WX.cp gN rfl (Ent.fn has32 (evs_cons lk (evs_cons lk evs_nil))) (f32_ok hx36) ?_ rfl rfl
       refine r3 ?_
       refine cn hL ?_ ?_
       · intro hc hL
         refine r12 ?_
         exact rt hL hT hS
       · intro hc hL
         refine r3 ?_
         refine WC.drawX mixed (by kernel_rfl) ?_
         refine r4 ?_
         obtain ⟨x37, hx37, hL⟩ := bind_some hL
         obtain ⟨b38, o39, _, hab38, hAb38, hFb38⟩ := Src.at_ (hS.osrc k1) hx37
         refine WX.w gN rfl (av_ixn und22 size3 lk lk rfl hab38 hx37) ?_ rfl
         refine WX.w gN rfl (av_ld agg3 (evT fh rfl) hAb38 (j := 0) rfl (v := .int .i64 x37) rfl) ?_ rfl
         obtain ⟨x40, hx40, hL⟩ := bind_some hL
         obtain ⟨b41, o42, ⟨a43, c44⟩, hab41, hAb41, hBb41, hFb41⟩ := Sl.at_ hsp0_2 hx40
         refine WX.w gN rfl (av_ixn und25 size64 lk lk rfl hab41 hx40) ?_ rfl
         have hsa43 : Sl rFerryEntry wm h a43 c44 x40 := hFb41
         refine WX.w gN rfl (av_ld agg64 (evT fh rfl) (At.fz hS.fz hBb41 hAb41) (j := 0) rfl (v := .slice a43 x40.length c44) rfl) ?_ rfl
         refine r1 ?_
         obtain ⟨x45, hx45, hL⟩ := bind_some hL
         obtain ⟨b46, o47, _, hab46, hAb46, hBb46, hFb46⟩ := Sl.at_ hsa43 hx45
         refine WX.w gN rfl (av_ixn und64 size63 lk lk rfl hab46 hx45) ?_ rfl
         refine WX.w gN rfl (av_ldA agg63 size63 (evT fh rfl) (At.fz hS.fz hBb46 hAb46) (j := 0) rfl rfl (ws := [.bool x45.here, .int .i64 x45.to_, .int .i64 x45.age]) rfl) ?_ rfl
         refine WX.hn gN rfl (s_alc hS zero63 (vs := [.bool false, .int .i64 0, .int .i64 0]) rfl) ?_ rfl
         rintro _ h49 ⟨b48, eb48, rfl, hS⟩
         refine WX.hu gN (s_st hS k0 size63 lk lk (vs := [.bool x45.here, .int .i64 x45.to_, .int .i64 x45.age]) rfl rfl rfl rfl (cs' := [.bool x45.here, .int .i64 x45.to_, .int .i64 x45.age]) rfl) ?_ rfl rfl [] (by kernel_rfl) Blind.e
         rintro h50 hS
         refine r4 ?_
         refine WC.drawX mixed (by kernel_rfl) ?_
         refine r8 ?_
         obtain ⟨x51, hx51, hL⟩ := gd_some hL
         obtain ⟨b52, o53, _, hQ⟩ := Src.atG (fun hg => (hS.osrc k2)) hx51
         have hab52 := fun hg => (hQ hg).1
         have hAb52 := fun hg => (hQ hg).2.1
         have hFb52 := fun hg => (hQ hg).2.2
         refine WX.gv (GuardIs.no rfl rfl rfl (fs4 rfl (fskip rfl fh))) rfl (fun hg => (av_ixn und22 size3 (evG (fs2 rfl fh) rfl hg) (evG fh rfl hg) rfl (hab52 hg) (hx51 hg))) ?_ rfl
         refine WX.gv (GuardIs.no rfl rfl rfl (fs4 rfl (fs2 rfl fh))) rfl (fun hg => (av_ld agg3 (evG fh rfl hg) (hAb52 hg) (j := 0) rfl (v := .int .i64 x51) rfl)) ?_ rfl
         refine r16 ?_
         refine cn hL ?_ ?_
         · intro hc hL
           refine r12 ?_
           exact rt hL hT hS
         · intro hc hL
           refine r16 ?_
           refine WC.loop (WL.lift hL (fun (v64 : Int) (s : Fs) => ∃ (fr55 : Fr) (h54 : H), s = ⟨fr55, [], h54, none⟩ ∧ Sp wm T h [bx wm b1 [.slice pa0_0 p0.in_.length pc0_0, .slice pa0_1 p0.boxes.length pc0_1, .slice pa0_2 p0.entries.length pc0_2, .slice pa0_3 p0.held.length pc0_3, .slice pa0_4 p0.wire.length pc0_4, .int .i64 p0.said], ow wm (rInt .i64) a8 x7.1.length c10 x7.1] h54 ∧ fr55.at 1 = .int .i64 p1 ∧ fr55.at 2 = .int .i64 p2 ∧ fr55.at 3 = .pointer (some ⟨b1, 0, none⟩) ∧ fr55.at 7 = .slice a8 x7.1.length c10 ∧ fr55.at 9 = .int .i64 x13.1 ∧ fr55.at 11 = .int .i64 x13.2.2 ∧ fr55.at 12 = .int .i64 x45.age ∧ fr55.at 13 = .int .i64 v30 ∧ fr55.at 15 = .int .i64 v64) ⟨_, _, rfl, hS.only (.c k1 (.c k1 .n)), las⟩ ?_)
           clear hL hS
           rintro next66 v64 s hnext66 hL ⟨fr55, h54, rfl, hS, e56, e57, e58, e59, e60, e61, e62, e63, e65⟩
           dsimp only [f10_b1] at hL
           refine r8 ?_
           refine cn hL ?_ ?_
           · intro hc hL
             refine r4 ?_
             refine r1 ?_
             refine WC.drawX mixed (by kernel_rfl) ?_
             refine r2 ?_
             obtain ⟨x67, hx67, hL⟩ := bind_some hL
             obtain ⟨b68, o69, _, hab68, hAb68, hFb68⟩ := Src.at_ (hS.osrc k1) hx67
             refine WX.w gN rfl (av_ixn und22 size3 lk lk rfl hab68 hx67) ?_ rfl
             refine WX.w gN rfl (av_ld agg3 (evT fh rfl) hAb68 (j := 0) rfl (v := .int .i64 x67) rfl) ?_ rfl
             refine r2 ?_
             obtain ⟨x70, hx70, hL⟩ := bind_some hL
             obtain ⟨b71, o72, _, hab71, hAb71, hFb71⟩ := Src.at_ (hS.osrc k1) hx70
             refine WX.w gN rfl (av_ixn und22 size3 lk lk rfl hab71 hx70) ?_ rfl
             refine WX.w gN rfl (av_ld agg3 (evT fh rfl) hAb71 (j := 0) rfl (v := .int .i64 x70) rfl) ?_ rfl
             refine r3 ?_
             refine cn hL ?_ ?_
             · intro hc hL
               refine r16 ?_
               exact rt hL hT hS
             · intro hc hL
               refine r8 ?_
               exact LoopK.nrm (hnext66 _ _ hL ⟨_, _, rfl, hS.only (.c k0 (.c k0 .n)), las⟩)
           · intro hc hL
             refine r12 ?_
             obtain ⟨x73, hx73, hL⟩ := gd_some hL
             obtain ⟨b74, o75, _, hQ⟩ := Src.atG (fun hg => (hS.osrc k1)) hx73
             have hab74 := fun hg => (hQ hg).1
             have hAb74 := fun hg => (hQ hg).2.1
             have hFb74 := fun hg => (hQ hg).2.2
             refine WO.gv (GuardIs.yes rfl rfl rfl (fs2 rfl fh)) rfl (fun hg => (av_ixn und22 size3 (evG (fskip rfl fh) rfl hg) (evG fh rfl hg) rfl (hab74 hg) (hx73 hg))) ?_
             refine WO.gv (GuardIs.yes rfl rfl rfl (fs2 rfl (fskip rfl fh))) rfl (fun hg => (av_ld agg3 (evG fh rfl hg) (hAb74 hg) (j := 0) rfl (v := .int .i64 x73) rfl)) ?_
             refine r4 ?_
             refine r1 ?_
             obtain ⟨x76, hx76, hL⟩ := gd_some hL
             obtain ⟨b77, o78, _, hQ⟩ := Src.atG (fun hg => (hS.osrc k1)) hx76
             have hab77 := fun hg => (hQ hg).1
             have hAb77 := fun hg => (hQ hg).2.1
             have hFb77 := fun hg => (hQ hg).2.2
             refine WO.gv (GuardIs.no2 rfl rfl rfl (fs2 rfl fh)) rfl (fun hg => (av_ixn und22 size3 (evG (fskip rfl fh) rfl hg) (evG fh rfl hg) rfl (hab77 hg) (hx76 hg))) ?_
             refine WO.gv (GuardIs.no2 rfl rfl rfl (fs2 rfl (fskip rfl fh))) rfl (fun hg => (av_ld agg3 (evG fh rfl hg) (hAb77 hg) (j := 0) rfl (v := .int .i64 x76) rfl)) ?_
             refine r2 ?_
             refine WO.gv (GuardIs.yes rfl rfl rfl (fs8 rfl (fs4 rfl (fskip rfl fh)))) rfl (fun hg => (av_or (evG (fs4 rfl (fs2 rfl fh)) rfl hg) lk (evGU2 fh hg))) ?_
             refine r3 ?_
             refine cn hL ?_ ?_
             · intro hc hL
               refine r8 ?_
               refine r3 ?_
               exact rt hL hT hS
             · intro hc hL
               refine r8 ?_
               exact LoopK.nrm (hnext32 _ _ hL ⟨_, _, rfl, hS.only (.c k0 (.c k0 .n)), las⟩)
     · intro hc hL
       refine r6 ?_
       refine r1 ?_
       obtain ⟨x79, hx79, hL⟩ := bind_some hL
       refine WO.cp gN rfl (Ent.fn has14 evs_nil) (f14_ok hx79) ?_
       refine r4 ?_
       exact rt hL hT hS
theorem f10_ok {F : Nat} {h : H} {p0 : FerryWorld} {p1 : Int} {p2 : Int} {pa0_0 : Option Addr} {pc0_0 : Nat} {pa0_1 : Option Addr} {pc0_1 : Nat} {pa0_2 : Option Addr} {pc0_2 : Nat} {pa0_3 : Option Addr} {pc0_3 : Nat} {pa0_4 : Option Addr} {pc0_4 : Nat} {r : Bool} (hsp0_0 : Sl (rInt .i64) h.size h pa0_0 pc0_0 p0.in_) (hsp0_1 : Sl (rSl (rInt .i64)) h.size h pa0_1 pc0_1 p0.boxes) (hsp0_2 : Sl (rSl rFerryEntry) h.size h pa0_2 pc0_2 p0.entries) (hsp0_3 : Sl (rSl rFerryMail) h.size h pa0_3 pc0_3 p0.held) (hsp0_4 : Sl rFerryLetter h.size h pa0_4 pc0_4 p0.wire) (hL : f10L F p0 p1 p2 = some r) : Pure XX 10 #[.agg [.slice pa0_0 p0.in_.length pc0_0, .slice pa0_1 p0.boxes.length pc0_1, .slice pa0_2 p0.entries.length pc0_2, .slice pa0_3 p0.held.length pc0_3, .slice pa0_4 p0.wire.length pc0_4, .int .i64 p0.said].toArray, .int .i64 p1, .int .i64 p2] h (.bool r) :=
 WR.pureC rfl (f10_wf (Nat.le_refl _) hsp0_0 hsp0_1 hsp0_2 hsp0_3 hsp0_4 hL)
end Go.Proofs.YtbmbbcaaimehkaaGreat
end
end
section

end
section
namespace Go.Lf
theorem w64_succ {k : Nat} (h : k < 4611686018427387904) : w64 ((k : Int) + 1) = ((k + 1 : Nat) : Int) := by
  rw [w64_id (by omega) (by omega)]; rfl
theorem w64_pred {k : Nat} (h : k < 4611686018427387904) (h0 : 0 < k) : w64 ((k : Int) - 1) = ((k - 1 : Nat) : Int) := by
  rw [w64_id (by omega) (by omega)]; omega
theorem app_ok {α : Type} {by_ : Nat} {xs ys : List α} (h : xs.length + ys.length ≤ 1000000) (hb : by_ ≤ 1000) : app by_ xs ys = some (xs ++ ys) :=
  app_eq (Nat.le_trans (Nat.mul_le_mul (show 2 * (xs.length + ys.length) + 1000 ≤ 2001000 by omega) hb) (by decide))
def iter {α β σ : Type} (g : Nat → α → σ → (σ → Option β) → Option β) (d : σ → Option β) : Nat → List α → σ → Option β
  | _, [], s => d s
  | i, x :: l, s => g i x s (fun s' => iter g d (i + 1) l s')
end Go.Lf
end
section
set_option linter.unusedVariables false
set_option linter.unusedSimpArgs false
namespace Go.Proofs.YtbmbbcaaimehkaaGreat
open Go.Lf
section
variable {β γ : Type}
theorem loop_traj {body : γ → (γ → Option β) → Option β} {r : Option β} (S : Nat → γ) {n F : Nat} (hF : n < F) (hb : ∀ k, k < n → ∀ next, body (S k) next = next (S (k + 1))) (he : ∀ next, body (S n) next = r) : loop F body (S 0) = r := by
  have : ∀ j F, j ≤ n → n - j < F → loop F body (S j) = r := by
    intro j F hj hF
    obtain ⟨d, hd⟩ : ∃ d, d = n - j := ⟨_, rfl⟩
    induction d generalizing j F with
    | zero =>
      have : j = n := by omega
      subst this
      cases F with
      | zero => omega
      | succ F => rw [loop_succ]; exact he _
    | succ d ih =>
      cases F with
      | zero => omega
      | succ F => rw [loop_succ, hb j (by omega)]; exact ih (j + 1) F (by omega) (by omega) (by omega)
  exact this 0 F (Nat.zero_le _) (by omega)
end
theorem w64s {k : Nat} (h : k < 4611686018427387904) : w64 ((k : Int) + 1) = ((k + 1 : Nat) : Int) := w64_succ h
theorem lt_nat_t {k n : Nat} (h : k < n) : decide ((k : Int) < (n : Int)) = true := decide_eq_true (by omega)
theorem lt_nat_f (n : Nat) : decide ((n : Int) < (n : Int)) = false := decide_eq_false (by omega)
theorem geti_k {α : Type} {l : List α} {k : Nat} (h : k < l.length) : geti l (k : Int) = some l[k] := by rw [geti_nat, List.getElem?_eq_getElem h]
theorem ne_refl {α : Type} [BEq α] [LawfulBEq α] (a : α) : (a != a) = false := by simp
end Go.Proofs.YtbmbbcaaimehkaaGreat
end
section
set_option linter.unusedVariables false
set_option linter.unusedSimpArgs false
namespace Go.Proofs.YtbmbbcaaimehkaaGreat
open Go.Lf
structure SmN (n : Nat) (w : FerryWorld) : Prop where
  in_ : w.in_.length < n
  boxes : w.boxes.length < n
  entries : w.entries.length < n
  held : w.held.length < n
  wire : w.wire.length < n
  box : ∀ l ∈ w.boxes, l.length < n
  row : ∀ l ∈ w.entries, l.length < n
  hel : ∀ l ∈ w.held, l.length < n
  let_ : ∀ x ∈ w.wire, x.places.length < n ∧ x.ages.length < n
theorem SmN.mono {n m : Nat} {w : FerryWorld} (h : SmN n w) (hm : n ≤ m) : SmN m w :=
  ⟨Nat.lt_of_lt_of_le h.in_ hm, Nat.lt_of_lt_of_le h.boxes hm, Nat.lt_of_lt_of_le h.entries hm, Nat.lt_of_lt_of_le h.held hm, Nat.lt_of_lt_of_le h.wire hm, fun l q => Nat.lt_of_lt_of_le (h.box l q) hm, fun l q => Nat.lt_of_lt_of_le (h.row l q) hm, fun l q => Nat.lt_of_lt_of_le (h.hel l q) hm, fun x q => ⟨Nat.lt_of_lt_of_le (h.let_ x q).1 hm, Nat.lt_of_lt_of_le (h.let_ x q).2 hm⟩⟩
end Go.Proofs.YtbmbbcaaimehkaaGreat
end
section
set_option linter.unusedVariables false
set_option linter.unusedSimpArgs false
namespace Go.Proofs.YtbmbbcaaimehkaaGreat
open Go.Lf
theorem loop_tr {β γ : Type} {body : γ → (γ → Option β) → Option β} {r : Option β} {s0 : γ} (S : Nat → γ) (h0 : S 0 = s0) {n F : Nat} (hF : n < F) (hb : ∀ k, k < n → ∀ next, body (S k) next = next (S (k + 1))) (he : ∀ next, body (S n) next = r) : loop F body s0 = r := h0 ▸ loop_traj S hF hb he
def row (w : FerryWorld) (m : Nat) : List FerryEntry := w.entries.getD m []
def E (w : FerryWorld) (m p : Nat) : FerryEntry := (row w m).getD p default
structure Shp (w : FerryWorld) : Prop where
  m1 : 1 ≤ w.entries.length
  m2 : w.entries.length ≤ 5
  p1 : 1 ≤ w.in_.length
  p2 : w.in_.length ≤ 8
  bx : w.boxes.length = w.in_.length
  hd : w.held.length = w.entries.length
  rw_ : ∀ l ∈ w.entries, l.length = w.in_.length
theorem getD_mem {α : Type} {l : List α} {k : Nat} {d : α} (h : k < l.length) : l.getD k d ∈ l := by
  rw [List.getD_eq_getElem?_getD, List.getElem?_eq_getElem h]; exact List.getElem_mem h
theorem geti_d {α : Type} {l : List α} {k : Nat} (d : α) (h : k < l.length) : geti l (k : Int) = some (l.getD k d) := by
  rw [geti_k h, List.getD_eq_getElem?_getD, List.getElem?_eq_getElem h]; rfl
theorem Shp.row {w : FerryWorld} (s : Shp w) {m : Nat} (h : m < w.entries.length) : geti w.entries (m : Int) = some (row w m) := geti_d [] h
theorem Shp.len {w : FerryWorld} (s : Shp w) {m : Nat} (h : m < w.entries.length) : (Proofs.YtbmbbcaaimehkaaGreat.row w m).length = w.in_.length := s.rw_ _ (getD_mem h)
theorem Shp.ent {w : FerryWorld} (s : Shp w) {m p : Nat} (h : m < w.entries.length) (hp : p < w.in_.length) : geti (Proofs.YtbmbbcaaimehkaaGreat.row w m) (p : Int) = some (E w m p) := geti_d default (by rw [s.len h]; exact hp)
def hereL (w : FerryWorld) (p k : Nat) : List Spot_ := (List.range k).filterMap fun m => if (E w m p).here then some ⟨(m : Int), true, (E w m p).age⟩ else none
def wayX (x : FerryLetter) (p j : Nat) : List Spot_ := (List.range j).filterMap fun i => if x.places.getD i 0 = (p : Int) then some ⟨x.to_, false, x.ages.getD i 0⟩ else none
def wayK (x : FerryLetter) (p : Nat) : List Spot_ := if x.kind = 2 then wayX x p x.places.length else []
def wayP (l : List FerryLetter) (p : Nat) : List Spot_ := l.flatMap fun x => wayK x p
def locsP (w : FerryWorld) (p : Nat) : List Spot_ := hereL w p w.entries.length ++ wayP w.wire p
def lastS (l : List Spot_) : Spot_ := l.getLastD ⟨0, false, 0⟩
theorem lastS_snoc (l : List Spot_) (x : Spot_) : lastS (l ++ [x]) = x := by unfold lastS; simp
theorem fm_one {α β : Type} (f : α → Option β) (a : α) : [a].filterMap f = (f a).toList := by
  cases h : f a <;> simp [List.filterMap_cons, h]
theorem hereL_succ (w : FerryWorld) (p k : Nat) : hereL w p (k + 1) = hereL w p k ++ (if (E w k p).here then [⟨(k : Int), true, (E w k p).age⟩] else []) := by
  unfold hereL
  rw [List.range_succ, List.filterMap_append, fm_one]
  congr 1
  by_cases h : (E w k p).here = true
  · rw [if_pos h, if_pos h]; rfl
  · rw [if_neg h, if_neg h]; rfl
theorem wayX_succ (x : FerryLetter) (p j : Nat) : wayX x p (j + 1) = wayX x p j ++ (if x.places.getD j 0 = (p : Int) then [⟨x.to_, false, x.ages.getD j 0⟩] else []) := by
  unfold wayX
  rw [List.range_succ, List.filterMap_append, fm_one]
  congr 1
  by_cases h : x.places.getD j 0 = (p : Int)
  · rw [if_pos h, if_pos h]; rfl
  · rw [if_neg h, if_neg h]; rfl
theorem wayP_take {l : List FerryLetter} {k : Nat} (h : k < l.length) (p : Nat) : wayP (l.take (k + 1)) p = wayP (l.take k) p ++ wayK l[k] p := by
  unfold wayP
  rw [List.take_add_one, List.getElem?_eq_getElem h, List.flatMap_append]
  simp
theorem hereL_len (w : FerryWorld) (p k : Nat) : (hereL w p k).length ≤ k := by
  have := List.length_filterMap_le (fun m => if (E w m p).here then some (⟨(m : Int), true, (E w m p).age⟩ : Spot_) else none) (List.range k)
  unfold hereL; rw [List.length_range] at this; exact this
theorem wayX_len (x : FerryLetter) (p j : Nat) : (wayX x p j).length ≤ j := by
  have := List.length_filterMap_le (fun i => if x.places.getD i 0 = (p : Int) then some (⟨x.to_, false, x.ages.getD i 0⟩ : Spot_) else none) (List.range j)
  unfold wayX; rw [List.length_range] at this; exact this
def Mvd (n : Nat) (l : List FerryLetter) : Prop := ∀ x ∈ l, x.kind = 2 → x.ages.length = x.places.length ∧ x.places.length ≤ n
theorem wayP_len {n : Nat} {l : List FerryLetter} (h : Mvd n l) (p : Nat) : (wayP l p).length ≤ n * l.length := by
  induction l with
  | nil => simp [wayP]
  | cons x l ih =>
    have := ih fun y hy => h y (by simp [hy])
    have hx : (wayK x p).length ≤ n := by
      unfold wayK
      by_cases hk : x.kind = 2
      · rw [if_pos hk]; exact Nat.le_trans (wayX_len _ _ _) (h x (by simp) hk).2
      · rw [if_neg hk]; simp
    unfold wayP at this ⊢
    rw [List.flatMap_cons, List.length_append, List.length_cons, Nat.mul_succ]
    omega
theorem bne_dec (a b : Int) : (a != b) = decide (a ≠ b) := by
  by_cases h : a = b <;> simp [h]
theorem beq_dec (a b : Int) : (a == b) = decide (a = b) := by
  by_cases h : a = b <;> simp [h]
theorem cond_dec {α : Type} (c : Prop) [Decidable c] (a b : α) : (bif decide c then a else b) = if c then a else b := by
  by_cases h : c <;> simp [h]
def stP (l : List Spot_) (k : Nat) : Int × Int × Int × Bool × Int := ((l.length : Int), (k : Int), (lastS l).machine, (lastS l).here, (lastS l).age)
theorem lastS_eta (l : List Spot_) : Spot_.mk (lastS l).machine (lastS l).here (lastS l).age = lastS l := rfl
theorem where_prog {F : Nat} (hF : 1000 ≤ F) (hM : F ≤ 1000000) {w : FerryWorld} (s : Shp w) (hv : Mvd 900 w.wire) (hw : w.wire.length < 900) {p : Nat} (hp : p < w.in_.length) :
    f67L F w (p : Int) = some (lastS (locsP w p), ((locsP w p).length : Int)) := by
  have h0 := s.m2
  have hh := hereL_len w p w.entries.length
  have hlen : ∀ k, k ≤ w.wire.length → (wayP (w.wire.take k) p).length ≤ 900 * 900 := fun k hk => by
    have := wayP_len (l := w.wire.take k) (fun x hx => hv x (List.mem_of_mem_take hx)) p
    rw [List.length_take] at this
    exact Nat.le_trans this (by apply Nat.mul_le_mul (Nat.le_refl _); omega)
  have h1 : loop F (f67_b1 F w (p : Int)) (stP (hereL w p w.entries.length) 0) = some (lastS (locsP w p), ((locsP w p).length : Int)) := by
    refine loop_tr (fun k => stP (hereL w p w.entries.length ++ wayP (w.wire.take k) p) k) (by simp [wayP]) (n := w.wire.length) (by omega) (fun k hk next => ?_) (fun next => ?_)
    · have hl := hlen k (by omega)
      have hx : w.wire[k] ∈ w.wire := List.getElem_mem hk
      rw [wayP_take hk]
      unfold f67_b1 stP
      dsimp only
      rw [lt_nat_t hk, cond_true, geti_k hk]
      simp only [Option.bind_some]
      rw [bne_dec, cond_dec]
      by_cases hk2 : w.wire[k].kind = 2
      · rw [if_neg (fun q => q hk2)]
        obtain ⟨v1, v2⟩ := hv _ hx hk2
        have hwk : wayK w.wire[k] p = wayX w.wire[k] p w.wire[k].places.length := by unfold wayK; rw [if_pos hk2]
        rw [hwk]
        have hll : (hereL w p w.entries.length ++ wayP (w.wire.take k) p).length ≤ 5 + 900 * 900 := by rw [List.length_append]; omega
        rw [← List.append_assoc]
        generalize hereL w p w.entries.length ++ wayP (w.wire.take k) p = l at hll ⊢
        refine loop_tr (fun j => stP (l ++ wayX w.wire[k] p j) j) (by simp [wayX, stP]) (n := w.wire[k].places.length) (by omega) (fun j hj next2 => ?_) (fun next2 => ?_)
        · have hl2 := wayX_len w.wire[k] p j
          rw [wayX_succ]
          unfold f67_b2 stP
          dsimp only
          rw [lt_nat_t hj, cond_true, geti_d 0 hj, geti_d 0 (show j < w.wire[k].ages.length by omega)]
          simp only [Option.bind_some]
          rw [beq_dec, cond_dec]
          unfold f67_j2
          dsimp only
          by_cases hq : w.wire[k].places.getD j 0 = (p : Int)
          · rw [if_pos hq, if_pos hq, w64s (by rw [List.length_append]; omega), w64s (by omega), ← List.append_assoc, lastS_snoc]
            simp [Int.add_assoc]
          · rw [if_neg hq, if_neg hq, w64s (by omega), List.append_nil]
        · unfold f67_b2 stP
          dsimp only
          rw [lt_nat_f, cond_false]
          unfold f67_j1
          dsimp only
          rw [w64s (by omega)]
      · rw [if_pos hk2]
        have hwk : wayK w.wire[k] p = [] := by unfold wayK; rw [if_neg hk2]
        rw [hwk, List.append_nil]
        unfold f67_j1
        dsimp only
        rw [w64s (by omega)]
    · unfold f67_b1 stP
      dsimp only
      rw [lt_nat_f, cond_false, List.take_of_length_le (Nat.le_refl _), lastS_eta]; rfl
  unfold f67L
  refine loop_tr (fun k => stP (hereL w p k) k) (by rfl) (n := w.entries.length) (by omega) (fun k hk next => ?_) (fun next => ?_)
  · unfold f67_b0 stP
    dsimp only
    rw [lt_nat_t hk, cond_true, s.row hk]
    simp only [Option.bind_some]
    rw [s.ent hk hp]
    simp only [Option.bind_some]
    have hl := hereL_len w p k
    rw [hereL_succ]
    unfold f67_j0
    dsimp only
    cases hE : (E w k p).here with
    | true =>
      simp only [cond_true, if_true]
      rw [w64s (by omega), w64s (by omega), lastS_snoc]
      simp
    | false =>
      simp only [cond_false]
      rw [w64s (by omega)]
      simp
  · unfold f67_b0
    dsimp only [stP]
    rw [lt_nat_f]; exact h1
end Go.Proofs.YtbmbbcaaimehkaaGreat
end
section
set_option linter.unusedVariables false
set_option linter.unusedSimpArgs false
namespace Go.Proofs.YtbmbbcaaimehkaaGreat
open Go.Lf
def inn (w : FerryWorld) (q : Int) : Int := w.in_.getD q.toNat 0
def up (w : FerryWorld) : Nat → Int → Int
  | 0, q => q
  | k + 1, q => if q < 0 then q else up w k (inn w q)
theorem up_neg {w : FerryWorld} {q : Int} (h : q < 0) (k : Nat) : up w k q = q := by
  cases k with
  | zero => rfl
  | succ k => show (if q < 0 then q else _) = q; rw [if_pos h]
theorem up_succ (w : FerryWorld) (k : Nat) (q : Int) : up w (k + 1) q = if up w k q < 0 then up w k q else inn w (up w k q) := by
  induction k generalizing q with
  | zero => rfl
  | succ k ih =>
    show (if q < 0 then q else up w (k + 1) (inn w q)) = _
    by_cases h : q < 0
    · rw [if_pos h, up_neg h, if_pos h]
    · rw [if_neg h, ih]
      show _ = if (if q < 0 then q else up w k (inn w q)) < 0 then _ else _
      rw [if_neg h]
      show _ = if _ then (if q < 0 then q else up w k (inn w q)) else inn w (if q < 0 then q else up w k (inn w q))
      rw [if_neg h]
theorem up_add (w : FerryWorld) (a b : Nat) (q : Int) : up w (a + b) q = up w b (up w a q) := by
  induction a generalizing q with
  | zero => rw [Nat.zero_add]; rfl
  | succ a ih =>
    rw [show a + 1 + b = (a + b) + 1 by omega]
    show (if q < 0 then q else up w (a + b) (inn w q)) = up w b (if q < 0 then q else up w a (inn w q))
    by_cases h : q < 0
    · rw [if_pos h, if_pos h, up_neg h]
    · rw [if_neg h, if_neg h, ih]
theorem up_stays {w : FerryWorld} {q : Int} {a : Nat} (h : up w a q < 0) {b : Nat} (hb : a ≤ b) : up w b q < 0 := by
  obtain ⟨d, rfl⟩ : ∃ d, b = a + d := ⟨b - a, by omega⟩
  rw [up_add, up_neg h]; exact h
def okN (w : FerryWorld) (q : Int) : Prop := -1 ≤ q ∧ q < (w.in_.length : Int)
instance (w : FerryWorld) (q : Int) : Decidable (okN w q) := by unfold okN; infer_instance
structure Inn (w : FerryWorld) : Prop where
  rng : ∀ p : Nat, p < w.in_.length → okN w (inn w p)
  acy : ∀ p : Nat, p < w.in_.length → up w w.in_.length p < 0
theorem Inn.up {w : FerryWorld} (h : Inn w) {q : Int} (hq : okN w q) (k : Nat) : okN w (up w k q) := by
  induction k with
  | zero => exact hq
  | succ k ih =>
    rw [up_succ]
    by_cases h2 : Proofs.YtbmbbcaaimehkaaGreat.up w k q < 0
    · rw [if_pos h2]; exact ih
    · rw [if_neg h2]
      have := h.rng (Proofs.YtbmbbcaaimehkaaGreat.up w k q).toNat (by have := ih.2; omega)
      rwa [Int.toNat_of_nonneg (by omega)] at this
theorem first_of {c : Nat → Prop} {n : Nat} (h : c n) : ∃ m, m ≤ n ∧ c m ∧ ∀ k, k < m → ¬ c k := by
  induction n using Nat.strongRecOn with
  | _ n ih =>
    by_cases hz : ∃ j, j < n ∧ c j
    · obtain ⟨j, h1, h2⟩ := hz
      obtain ⟨m, q1, q2, q3⟩ := ih j h1 h2
      exact ⟨m, by omega, q2, q3⟩
    · exact ⟨n, Nat.le_refl _, h, fun k hk q => hz ⟨k, hk, q⟩⟩
theorem pigeon : ∀ (n : Nat) (f : Nat → Nat), (∀ i, i ≤ n → f i < n) → ∃ i j, i < j ∧ j ≤ n ∧ f i = f j := by
  intro n
  induction n with
  | zero => intro f h; exact absurd (h 0 (Nat.le_refl _)) (Nat.not_lt_zero _)
  | succ n ih =>
    intro f h
    by_cases hz : ∃ i, i ≤ n ∧ f i = f (n + 1)
    · obtain ⟨i, h1, h2⟩ := hz
      exact ⟨i, n + 1, by omega, Nat.le_refl _, h2⟩
    · have hne : ∀ i, i ≤ n → f i ≠ f (n + 1) := fun i hi q => hz ⟨i, hi, q⟩
      have hl := h (n + 1) (Nat.le_refl _)
      obtain ⟨i, j, h1, h2, h3⟩ := ih (fun i => if f i < f (n + 1) then f i else f i - 1) (fun i hi => by
        have := h i (by omega)
        have := hne i hi
        by_cases q : f i < f (n + 1)
        · rw [if_pos q]; omega
        · rw [if_neg q]; omega)
      refine ⟨i, j, h1, by omega, ?_⟩
      have a1 := hne i (by omega)
      have a2 := hne j h2
      by_cases q1 : f i < f (n + 1) <;> by_cases q2 : f j < f (n + 1)
      · rwa [if_pos q1, if_pos q2] at h3
      · rw [if_pos q1, if_neg q2] at h3; omega
      · rw [if_neg q1, if_pos q2] at h3; omega
      · rw [if_neg q1, if_neg q2] at h3; omega
theorem acy_iff {w : FerryWorld} (hr : ∀ p : Nat, p < w.in_.length → okN w (inn w p)) : (∀ p : Nat, p < w.in_.length → up w w.in_.length p < 0) ↔ ∀ p : Nat, p < w.in_.length → ∀ j, j ≤ w.in_.length → up w (j + 1) p ≠ (p : Int) := by
  constructor
  · intro h p hp j hj e
    have : ∀ m : Nat, up w (m * (j + 1)) p = (p : Int) := fun m => by
      induction m with
      | zero => rw [Nat.zero_mul]; rfl
      | succ m ih => rw [Nat.succ_mul, up_add, ih, e]
    have h2 := up_stays (h p hp) (b := w.in_.length * (j + 1)) (Nat.le_mul_of_pos_right _ (by omega))
    rw [this] at h2; omega
  · intro h p hp
    rcases Int.lt_or_le (up w w.in_.length p) 0 with q | q
    · exact q
    · exfalso
      have hk : ∀ k, k ≤ w.in_.length → 0 ≤ up w k p := fun k hk => by
        rcases Int.lt_or_le (up w k p) 0 with z | z
        · have := up_stays z hk; omega
        · exact z
      have hok : ∀ k, okN w (up w k p) := fun k => by
        induction k with
        | zero => exact ⟨by show (-1 : Int) ≤ (p : Int); omega, by show (p : Int) < _; omega⟩
        | succ k ih =>
          rw [up_succ]
          by_cases h2 : up w k p < 0
          · rw [if_pos h2]; exact ih
          · rw [if_neg h2]
            have := hr (up w k p).toNat (by have := ih.2; omega)
            rwa [Int.toNat_of_nonneg (by omega)] at this
      obtain ⟨i, j, h1, h2, h3⟩ := pigeon w.in_.length (fun k => (up w k p).toNat) fun k hk' => by
        have := (hok k).2; have := hk k hk'; omega
      have e : up w i p = up w j p := by have := hk i (by omega); have := hk j h2; omega
      have hi := hk i (by omega)
      have := h (up w i p).toNat (by have := (hok i).2; omega) (j - i - 1) (by omega)
      apply this
      rw [Int.toNat_of_nonneg hi, show j - i - 1 + 1 = j - i by omega, ← up_add, show i + (j - i) = j by omega, e]
end Go.Proofs.YtbmbbcaaimehkaaGreat
end
section
set_option linter.unusedVariables false
set_option linter.unusedSimpArgs false
namespace Go.Proofs.YtbmbbcaaimehkaaGreat
open Go.Lf
section
variable {β γ : Type} {R : β → Prop}
theorem ex_cond {c : Bool} {A B : Option β} (h1 : c = true → ∃ b, A = some b ∧ R b) (h2 : c = false → ∃ b, B = some b ∧ R b) : ∃ b, (bif c then A else B) = some b ∧ R b := by
  cases c
  · exact h2 rfl
  · exact h1 rfl
theorem ex_find {body : γ → (γ → Option β) → Option β} (r1 : β) (r2 : Option β) {s0 : γ} (S : Nat → γ) (h0 : S 0 = s0) (c : Nat → Prop) {n F : Nat} (hF : n < F)
    (hb : ∀ k, k < n → ((∀ next, body (S k) next = some r1) ∧ c k) ∨ ((∀ next, body (S k) next = next (S (k + 1))) ∧ ¬ c k)) (he : ∀ next, body (S n) next = r2)
    (h1 : ∀ k, k < n → c k → R r1) (h2 : (∀ k, k < n → ¬ c k) → ∃ b, r2 = some b ∧ R b) : ∃ b, loop F body s0 = some b ∧ R b := by
  by_cases hz : ∃ k, k < n ∧ c k
  · obtain ⟨k0, hk0⟩ := hz
    obtain ⟨m, hm, ⟨hmn, hcm⟩, hlt⟩ := first_of (c := fun k => k < n ∧ c k) hk0
    refine ⟨r1, loop_tr S h0 (n := m) (by omega) (fun k hk => ?_) ?_, h1 m hmn hcm⟩
    · rcases hb k (by omega) with ⟨_, q⟩ | ⟨q, _⟩
      · exact absurd ⟨by omega, q⟩ (hlt k hk)
      · exact q
    · rcases hb m hmn with ⟨q, _⟩ | ⟨_, q⟩
      · exact q
      · exact absurd hcm q
  · have hno : ∀ k, k < n → ¬ c k := fun k hk q => hz ⟨k, hk, q⟩
    obtain ⟨b, e, hR⟩ := h2 hno
    refine ⟨b, ?_, hR⟩
    rw [← e]
    exact loop_tr S h0 hF (fun k hk => (hb k hk).elim (fun q => absurd q.2 (hno k hk)) fun q => q.1) he
end
theorem okN_nat {w : FerryWorld} {q : Int} (h : okN w q) (h2 : ¬ q < 0) : ∃ k : Nat, q = (k : Int) ∧ k < w.in_.length := ⟨q.toNat, by omega, by have := h.2; omega⟩
theorem inn_geti {w : FerryWorld} {p : Nat} (hp : p < w.in_.length) : geti w.in_ (p : Int) = some (inn w p) := geti_d 0 hp
theorem ge0_nat (k : Nat) : decide ((k : Int) ≥ 0) = true := decide_eq_true (by omega)
def Chn (w : FerryWorld) (p : Nat) : Prop := okN w (inn w p) ∧ ∃ n, n ≤ w.in_.length ∧ (∀ j, j < n → ¬ up w j p < 0 ∧ okN w (inn w (up w j p))) ∧ up w n p < 0
theorem chn_iff {w : FerryWorld} : (∀ p, p < w.in_.length → Chn w p) ↔ Inn w := by
  constructor
  · intro h
    exact ⟨fun p hp => (h p hp).1, fun p hp => let ⟨_, n, h1, _, h3⟩ := h p hp; up_stays h3 h1⟩
  · intro h p hp
    refine ⟨h.rng p hp, ?_⟩
    obtain ⟨m, h1, h2, h3⟩ := first_of (c := fun k => up w k p < 0) (h.acy p hp)
    refine ⟨m, h1, fun j hj => ⟨h3 j hj, ?_⟩, h2⟩
    have hq : okN w ((p : Int)) := ⟨by omega, by omega⟩
    obtain ⟨k, e, hk⟩ := okN_nat (h.up hq j) (h3 j hj)
    rw [e]; exact h.rng k hk
open Classical in
theorem chain_prog {F : Nat} {w : FerryWorld} (hF : 1000 ≤ F) (h8 : w.in_.length ≤ 8) {p : Nat} (hp : p < w.in_.length) (next : Int → Option Bool) :
    ((geti w.in_ (p : Int)).bind fun x26 => (bif ((decide (x26 < (-1))) || (decide (x26 ≥ (w.in_.length : Int)))) then some false else loop F (f68_b2 w (p : Int) next) (0, (p : Int)))) = if Chn w p then next ((p + 1 : Nat) : Int) else some false := by
  rw [inn_geti hp]
  simp only [Option.bind_some]
  by_cases hr : okN w (inn w p)
  · have e : (decide (inn w p < (-1)) || decide (inn w p ≥ (w.in_.length : Int))) = false := by
      have h1 := hr.1; have h2 := hr.2
      rw [decide_eq_false (by omega), decide_eq_false (by omega)]; rfl
    rw [e, cond_false]
    obtain ⟨m, hm, hs, hlt⟩ := first_of (c := fun k => up w k p < 0 ∨ k = w.in_.length ∨ ¬ okN w (inn w (up w k p))) (n := w.in_.length) (.inr (.inl rfl))
    have hj : ∀ j, j < m → ¬ up w j p < 0 ∧ j ≠ w.in_.length ∧ okN w (inn w (up w j p)) := fun j hj => by
      have := hlt j hj
      refine ⟨fun q => this (.inl q), fun q => this (.inr (.inl q)), ?_⟩
      by_cases z : okN w (inn w (up w j p))
      · exact z
      · exact absurd (.inr (.inr z)) this
    have hok : ∀ j, j ≤ m → okN w (up w j p) := fun j hjm => by
      induction j with
      | zero => exact ⟨by show (-1 : Int) ≤ (p : Int); omega, by show (p : Int) < _; omega⟩
      | succ j ih =>
        have := hj j (by omega)
        rw [up_succ, if_neg this.1]; exact this.2.2
    refine loop_tr (fun j => ((j : Int), up w j p)) rfl (n := m) (by omega) (fun j hjm nx => ?_) (fun nx => ?_)
    · obtain ⟨a1, a2, a3⟩ := hj j hjm
      obtain ⟨k, e, hk⟩ := okN_nat (hok j (by omega)) a1
      unfold f68_b2
      dsimp only
      rw [e, ge0_nat, cond_true, w64s (by omega), decide_eq_false (by omega), cond_false, inn_geti hk]
      have e2 : inn w (k : Int) = inn w (up w j p) := by rw [e]
      have h1 := a3.1; have h2 := a3.2
      simp only [Option.bind_some]
      rw [e2, decide_eq_false (show ¬ inn w (up w j p) < -1 by omega), Bool.not_false, gd_true]
      simp only [Option.bind_some]
      rw [decide_eq_false (show ¬ inn w (up w j p) ≥ (w.in_.length : Int) by omega)]
      simp only [Bool.or_self, cond_false]
      rw [up_succ, if_neg a1]
    · by_cases hneg : up w m p < 0
      · unfold f68_b2
        dsimp only
        rw [decide_eq_false (by omega), cond_false, w64s (by omega), if_pos ⟨hr, m, hm, fun j hjm => ⟨(hj j hjm).1, (hj j hjm).2.2⟩, hneg⟩]
      · have hnc : ¬ Chn w p := by
          rintro ⟨_, n, h1, h2, h3⟩
          have hmn : m < n := by
            rcases Nat.lt_or_ge m n with z | z
            · exact z
            · exact absurd (up_stays h3 z) hneg
          rcases hs with z | z | z
          · exact hneg z
          · omega
          · exact z (h2 m hmn).2
        rw [if_neg hnc]
        obtain ⟨k, e, hk⟩ := okN_nat (hok m (Nat.le_refl _)) hneg
        unfold f68_b2
        dsimp only
        rw [e, ge0_nat, cond_true, w64s (by omega)]
        by_cases hml : m = w.in_.length
        · rw [decide_eq_true (by omega)]; rfl
        · rw [decide_eq_false (by omega), cond_false, inn_geti hk]
          have hb : ¬ okN w (inn w (k : Int)) := by
            rcases hs with z | z | z
            · exact absurd z hneg
            · exact absurd z hml
            · rwa [e] at z
          simp only [Option.bind_some]
          by_cases h1 : inn w (k : Int) < -1
          · rw [decide_eq_true h1]; rfl
          · rw [decide_eq_false h1, Bool.not_false, gd_true]
            simp only [Option.bind_some]
            rw [decide_eq_true (show inn w (k : Int) ≥ (w.in_.length : Int) by
              rcases Int.lt_or_le (inn w (k : Int)) (w.in_.length : Int) with z | z
              · exact absurd ⟨by omega, z⟩ hb
              · exact z)]
            rfl
  · rw [if_neg (fun q => hr q.1)]
    have e : (decide (inn w p < (-1)) || decide (inn w p ≥ (w.in_.length : Int))) = true := by
      by_cases h1 : inn w p < -1
      · rw [decide_eq_true h1]; rfl
      · rw [decide_eq_true (show inn w p ≥ (w.in_.length : Int) by
          rcases Int.lt_or_le (inn w p) (w.in_.length : Int) with z | z
          · exact absurd ⟨by omega, z⟩ hr
          · exact z), Bool.or_true]
    rw [e]; rfl
theorem shape_prog {F : Nat} (hF : 1000 ≤ F) (w : FerryWorld) : ∃ b, f68L F w = some b ∧ (b = true ↔ Shp w ∧ Inn w) := by
  unfold f68L
  refine ex_cond (fun hc => ⟨false, rfl, ?_⟩) (fun hc => ?_)
  · simp only [Bool.false_eq_true, false_iff]
    rintro ⟨s, _⟩
    have := s.m1; have := s.m2; have := s.p1; have := s.p2; have := s.bx; have := s.hd
    simp only [Bool.or_eq_true, decide_eq_true_eq, bne_iff_ne] at hc
    omega
  · simp only [Bool.or_eq_false_iff, decide_eq_false_iff_not, bne_eq_false_iff_eq] at hc
    obtain ⟨⟨⟨⟨⟨a1, a2⟩, a3⟩, a4⟩, a5⟩, a6⟩ := hc
    refine ex_find false (loop F (f68_b1 F w) 0) (fun k => (k : Int)) rfl (fun k => (row w k).length ≠ w.in_.length) (n := w.entries.length) (by omega) (fun k hk => ?_) (fun next => ?_) (fun k hk hc => ?_) (fun hall => ?_)
    · have hx : geti w.entries (k : Int) = some (row w k) := geti_d [] hk
      by_cases hl : (row w k).length = w.in_.length
      · refine .inr ⟨fun next => ?_, fun q => q hl⟩
        unfold f68_b0
        rw [lt_nat_t hk, cond_true, hx]
        simp only [Option.bind_some]
        rw [hl, ne_refl, cond_false, w64s (by omega)]
      · refine .inl ⟨fun next => ?_, hl⟩
        unfold f68_b0
        rw [lt_nat_t hk, cond_true, hx]
        simp only [Option.bind_some]
        rw [bne_dec, decide_eq_true (by omega)]; rfl
    · unfold f68_b0
      rw [lt_nat_f]; rfl
    · simp only [Bool.false_eq_true, false_iff]
      rintro ⟨s, _⟩
      exact hc (s.len hk)
    · have hrow : ∀ l ∈ w.entries, l.length = w.in_.length := fun l hl => by
        obtain ⟨k, hk, rfl⟩ := List.getElem_of_mem hl
        have := hall k hk
        unfold row at this
        rw [List.getD_eq_getElem?_getD, List.getElem?_eq_getElem hk] at this
        exact Classical.byContradiction this
      have hshp : Shp w := ⟨by omega, by omega, by omega, by omega, by omega, by omega, hrow⟩
      refine ex_find false (some true) (fun k => (k : Int)) rfl (fun k => ¬ Chn w k) (n := w.in_.length) (by omega) (fun k hk => ?_) (fun next => ?_) (fun k hk hc => ?_) (fun hall2 => ⟨true, rfl, ?_⟩)
      · by_cases hch : Chn w k
        · refine .inr ⟨fun next => ?_, fun q => q hch⟩
          have := chain_prog hF (by omega) hk next
          rw [if_pos hch] at this
          unfold f68_b1
          rw [lt_nat_t hk, cond_true]; exact this
        · refine .inl ⟨fun next => ?_, hch⟩
          have := chain_prog hF (by omega) hk next
          rw [if_neg hch] at this
          unfold f68_b1
          rw [lt_nat_t hk, cond_true]; exact this
      · unfold f68_b1
        rw [lt_nat_f]; rfl
      · simp only [Bool.false_eq_true, false_iff]
        rintro ⟨_, h⟩
        exact hc (chn_iff.2 h k hk)
      · exact ⟨fun _ => ⟨hshp, chn_iff.1 fun p hp => Classical.byContradiction (hall2 p hp)⟩, fun _ => rfl⟩
end Go.Proofs.YtbmbbcaaimehkaaGreat
end
section
set_option linter.unusedVariables false
set_option linter.unusedSimpArgs false
namespace Go.Proofs.YtbmbbcaaimehkaaGreat
open Go.Lf
abbrev mail0 : FerryMail := ⟨0, 0, 0, 0, 0⟩
theorem eqMail_iff (x y : FerryMail) : eqFerryMail x y = true ↔ x = y := by
  unfold eqFerryMail
  cases x; cases y
  simp [FerryMail.mk.injEq]
theorem eqEntry_iff (x y : FerryEntry) : eqFerryEntry x y = true ↔ x = y := by
  unfold eqFerryEntry
  cases x; cases y
  simp [FerryEntry.mk.injEq]
theorem eqSpot_iff (x y : Spot_) : eqSpot_ x y = true ↔ x = y := by
  unfold eqSpot_
  cases x; cases y
  simp [Spot_.mk.injEq]
def Pur (x : FerryLetter) : Prop :=
  (x.kind = 1 ∧ x.place = 0 ∧ x.at_ = 0 ∧ x.age = 0 ∧ x.places = [] ∧ x.ages = []) ∨
  (x.kind = 2 ∧ x.place = 0 ∧ x.at_ = 0 ∧ x.age = 0 ∧ x.mail = mail0 ∧ x.places ≠ [] ∧ x.places.length = x.ages.length) ∨
  (x.kind = 3 ∧ x.mail = mail0 ∧ x.places = [] ∧ x.ages = [])
theorem len_pos_iff {α : Type} (l : List α) : decide ((l.length : Int) > 0) = true ↔ l ≠ [] := by
  rw [decide_eq_true_eq]
  constructor
  · rintro h rfl; simp at h
  · intro h; have := List.length_pos_iff.2 h; omega
theorem pure_ref (x : FerryLetter) : ∃ b, f86L x = some b ∧ (b = true ↔ Pur x) := by
  unfold f86L Pur
  have nl : ∀ l : List Int, decide ((l.length : Int) > 0) = false ↔ l = [] := fun l => by
    rw [Bool.eq_false_iff, Ne, len_pos_iff]; exact Classical.not_not
  refine ex_cond (fun hc => ⟨_, rfl, ?_⟩) (fun hc => ex_cond (fun hc2 => ⟨_, rfl, ?_⟩) (fun hc2 => ex_cond (fun hc3 => ⟨_, rfl, ?_⟩) (fun hc3 => ⟨_, rfl, ?_⟩)))
  · have hk : x.kind = 1 := by simpa using hc
    simp only [Bool.and_eq_true, Bool.not_eq_true', Bool.or_eq_false_iff, bne_eq_false_iff_eq, nl]
    constructor
    · rintro ⟨⟨⟨a, b⟩, c⟩, d, e⟩; exact .inl ⟨hk, a, b, c, d, e⟩
    · rintro (⟨_, a, b, c, d, e⟩ | ⟨q, _⟩ | ⟨q, _⟩)
      · exact ⟨⟨⟨a, b⟩, c⟩, d, e⟩
      · omega
      · omega
  · have hk : x.kind = 2 := by simpa using hc2
    simp only [Bool.and_eq_true, Bool.not_eq_true', Bool.or_eq_false_iff, bne_eq_false_iff_eq, Bool.not_eq_false', eqMail_iff, len_pos_iff, beq_iff_eq]
    constructor
    · rintro ⟨⟨⟨⟨⟨a, b⟩, c⟩, d⟩, e⟩, f⟩; exact .inr (.inl ⟨hk, a, b, c, d, e, by omega⟩)
    · rintro (⟨q, _⟩ | ⟨_, a, b, c, d, e, f⟩ | ⟨q, _⟩)
      · omega
      · exact ⟨⟨⟨⟨⟨a, b⟩, c⟩, d⟩, e⟩, by omega⟩
      · omega
  · have hk : x.kind = 3 := by simpa using hc3
    simp only [Bool.and_eq_true, Bool.not_eq_true', Bool.or_eq_false_iff, Bool.not_eq_false', eqMail_iff, nl]
    constructor
    · rintro ⟨a, b, c⟩; exact .inr (.inr ⟨hk, a, b, c⟩)
    · rintro (⟨q, _⟩ | ⟨q, _⟩ | ⟨_, a, b, c⟩)
      · omega
      · omega
      · exact ⟨a, b, c⟩
  · simp only [Bool.false_eq_true, false_iff]
    have h1 : x.kind ≠ 1 := by simpa using hc
    have h2 : x.kind ≠ 2 := by simpa using hc2
    have h3 : x.kind ≠ 3 := by simpa using hc3
    rintro (⟨q, _⟩ | ⟨q, _⟩ | ⟨q, _⟩)
    · exact h1 q
    · exact h2 q
    · exact h3 q
def PlcAt (w : FerryWorld) (x : FerryLetter) (i : Nat) : Prop :=
  0 ≤ x.places.getD i 0 ∧ x.places.getD i 0 < (w.in_.length : Int) ∧ (0 < i → x.places.getD (i - 1) 0 < x.places.getD i 0) ∧ 1 ≤ x.ages.getD i 0 ∧ x.ages.getD i 0 ≤ 30
def Plc (w : FerryWorld) (x : FerryLetter) : Prop := ∀ i, i < x.places.length → PlcAt w x i
theorem plc_test (w : FerryWorld) (x : FerryLetter) {i : Nat} (hi : i < x.places.length) (ha : i < x.ages.length) (h9 : x.places.length < 900) {β : Type} (r : β) (next : Option β) :
    ((geti x.places (i : Int)).bind fun x112 => (gd ((!((decide (x112 < 0)) || (decide (x112 ≥ (w.in_.length : Int))))) && (decide ((i : Int) > 0))) (geti x.places (w64 ((i : Int) - 1))) default).bind fun x115 => (gd (!(((decide (x112 < 0)) || (decide (x112 ≥ (w.in_.length : Int)))) || ((decide ((i : Int) > 0)) && (decide (x112 ≤ x115))))) (geti x.ages (i : Int)) default).bind fun x118 => (gd (!((((decide (x112 < 0)) || (decide (x112 ≥ (w.in_.length : Int)))) || ((decide ((i : Int) > 0)) && (decide (x112 ≤ x115)))) || (decide (x118 < 1)))) (geti x.ages (i : Int)) default).bind fun x121 => (bif (((((decide (x112 < 0)) || (decide (x112 ≥ (w.in_.length : Int)))) || ((decide ((i : Int) > 0)) && (decide (x112 ≤ x115)))) || (decide (x118 < 1))) || (decide (x121 > 30))) then some r else next)) = open Classical in if PlcAt w x i then next else some r := by
  rw [geti_d 0 hi]
  simp only [Option.bind_some]
  have key : ∀ (c d e : Bool) (y y2 : Int), geti x.ages (i : Int) = some (x.ages.getD i 0) → ((gd (!(c || d)) (geti x.ages (i : Int)) default).bind fun x118 => (gd (!((c || d) || decide (x118 < 1))) (geti x.ages (i : Int)) default).bind fun x121 => (bif (((c || d) || (decide (x118 < 1))) || (decide (x121 > 30))) then some r else next)) = bif (c || d || decide (x.ages.getD i 0 < 1) || decide (x.ages.getD i 0 > 30)) then some r else next := by
    intro c d e y y2 hg
    rw [hg]
    cases h1 : (c || d)
    · simp only [Bool.not_false, gd_true, Option.bind_some, Bool.false_or]
      cases h2 : decide (x.ages.getD i 0 < 1)
      · simp only [Bool.not_false, gd_true, Option.bind_some, Bool.false_or]
      · simp only [Bool.not_true, gd_false, Option.bind_some, Bool.true_or, cond_true]
    · simp only [Bool.not_true, gd_false, Option.bind_some, Bool.true_or, cond_true]
  by_cases hz : i = 0
  · subst hz
    rw [show decide (((0 : Nat) : Int) > 0) = false from rfl]
    simp only [Bool.and_false, gd_false, Option.bind_some, Bool.false_and]
    rw [key _ _ false 0 0 (geti_d 0 ha)]
    unfold PlcAt
    by_cases hp : 0 ≤ x.places.getD 0 0 ∧ x.places.getD 0 0 < (w.in_.length : Int) ∧ (0 < 0 → x.places.getD (0 - 1) 0 < x.places.getD 0 0) ∧ 1 ≤ x.ages.getD 0 0 ∧ x.ages.getD 0 0 ≤ 30
    · rw [if_pos hp]
      obtain ⟨a, b, _, c, d⟩ := hp
      rw [decide_eq_false (show ¬ x.places.getD 0 0 < 0 by omega), decide_eq_false (show ¬ x.places.getD 0 0 ≥ (w.in_.length : Int) by omega), decide_eq_false (show ¬ x.ages.getD 0 0 < 1 by omega), decide_eq_false (show ¬ x.ages.getD 0 0 > 30 by omega)]; rfl
    · rw [if_neg hp]
      have : (decide (x.places.getD 0 0 < 0) || decide (x.places.getD 0 0 ≥ (w.in_.length : Int)) || false || decide (x.ages.getD 0 0 < 1) || decide (x.ages.getD 0 0 > 30)) = true := by
        simp only [Bool.or_eq_true, decide_eq_true_eq, Bool.or_false]
        rcases Int.lt_or_le (x.places.getD 0 0) 0 with z | z
        · exact .inl (.inl (.inl z))
        · rcases Int.lt_or_le (x.places.getD 0 0) (w.in_.length : Int) with z2 | z2
          · rcases Int.lt_or_le (x.ages.getD 0 0) 1 with z3 | z3
            · exact .inl (.inr z3)
            · rcases Int.lt_or_le 30 (x.ages.getD 0 0) with z4 | z4
              · exact .inr z4
              · exact absurd ⟨z, z2, fun q => absurd q (by omega), z3, z4⟩ hp
          · exact .inl (.inl (.inr z2))
      rw [this]; rfl
  · have hi0 : decide ((i : Int) > 0) = true := decide_eq_true (by omega)
    have hg1 : geti x.places (w64 ((i : Int) - 1)) = some (x.places.getD (i - 1) 0) := by
      rw [w64_pred (by omega) (by omega)]; exact geti_d 0 (by omega)
    rw [hi0, hg1]
    simp only [Bool.and_true, Bool.true_and]
    have hgd : ∀ c : Bool, gd (!c) (some (x.places.getD (i - 1) 0)) (default : Int) = some (bif c then default else x.places.getD (i - 1) 0) := fun c => by cases c <;> rfl
    rw [hgd]
    simp only [Option.bind_some]
    rw [key _ _ false 0 0 (geti_d 0 ha)]
    unfold PlcAt
    by_cases hp : 0 ≤ x.places.getD i 0 ∧ x.places.getD i 0 < (w.in_.length : Int) ∧ (0 < i → x.places.getD (i - 1) 0 < x.places.getD i 0) ∧ 1 ≤ x.ages.getD i 0 ∧ x.ages.getD i 0 ≤ 30
    · rw [if_pos hp]
      obtain ⟨a, b, c0, c, d⟩ := hp
      have c0 := c0 (by omega)
      rw [decide_eq_false (show ¬ x.places.getD i 0 < 0 by omega), decide_eq_false (show ¬ x.places.getD i 0 ≥ (w.in_.length : Int) by omega), decide_eq_false (show ¬ x.ages.getD i 0 < 1 by omega), decide_eq_false (show ¬ x.ages.getD i 0 > 30 by omega)]
      simp only [Bool.or_self, cond_false, Bool.false_or]
      rw [decide_eq_false (show ¬ x.places.getD i 0 ≤ x.places.getD (i - 1) 0 by omega)]; rfl
    · rw [if_neg hp]
      have : (decide (x.places.getD i 0 < 0) || decide (x.places.getD i 0 ≥ (w.in_.length : Int)) || decide (x.places.getD i 0 ≤ bif decide (x.places.getD i 0 < 0) || decide (x.places.getD i 0 ≥ (w.in_.length : Int)) then default else x.places.getD (i - 1) 0) || decide (x.ages.getD i 0 < 1) || decide (x.ages.getD i 0 > 30)) = true := by
        rcases Int.lt_or_le (x.places.getD i 0) 0 with z | z
        · rw [decide_eq_true z]; simp
        · rcases Int.lt_or_le (x.places.getD i 0) (w.in_.length : Int) with z2 | z2
          · rw [decide_eq_false (show ¬ x.places.getD i 0 < 0 by omega), decide_eq_false (show ¬ x.places.getD i 0 ≥ (w.in_.length : Int) by omega)]
            simp only [Bool.or_self, cond_false, Bool.false_or, Bool.or_eq_true, decide_eq_true_eq]
            rcases Int.lt_or_le (x.places.getD (i - 1) 0) (x.places.getD i 0) with z5 | z5
            · rcases Int.lt_or_le (x.ages.getD i 0) 1 with z3 | z3
              · exact .inl (.inr z3)
              · rcases Int.lt_or_le 30 (x.ages.getD i 0) with z4 | z4
                · exact .inr z4
                · exact absurd ⟨z, z2, fun _ => z5, z3, z4⟩ hp
            · exact .inl (.inl z5)
          · rw [decide_eq_true (show x.places.getD i 0 ≥ (w.in_.length : Int) by omega)]; simp
      rw [this]; rfl
end Go.Proofs.YtbmbbcaaimehkaaGreat
end
section
set_option linter.unusedVariables false
set_option linter.unusedSimpArgs false
namespace Go.Proofs.YtbmbbcaaimehkaaGreat
open Go.Lf
def EntX (w : FerryWorld) (m p : Nat) : Prop := 0 ≤ (E w m p).age ∧ (E w m p).age ≤ 30 ∧ 0 ≤ (E w m p).to_ ∧ (E w m p).to_ < (w.entries.length : Int) ∧ ((E w m p).here = true ↔ (E w m p).to_ = (m : Int))
def NtdX (w : FerryWorld) (x : FerryLetter) : Prop := x.kind = 3 → 0 ≤ x.place ∧ x.place < (w.in_.length : Int) ∧ x.at_ ≠ x.to_
structure LetX (w : FerryWorld) (x : FerryLetter) : Prop where
  to1 : 0 ≤ x.to_
  to2 : x.to_ < (w.entries.length : Int)
  pur : Pur x
  plc : Plc w x
  ntd : NtdX w x
structure ShR (w : FerryWorld) : Prop where
  shp : Shp w
  inn : Inn w
  sd1 : 0 ≤ w.said
  sd2 : w.said ≤ 40
  ent : ∀ m, m < w.entries.length → ∀ p, p < w.in_.length → EntX w m p
  let_ : ∀ x ∈ w.wire, LetX w x
theorem Pur.len {x : FerryLetter} (h : Pur x) : x.ages.length = x.places.length := by
  rcases h with ⟨_, _, _, _, a, b⟩ | ⟨_, _, _, _, _, _, a⟩ | ⟨_, _, a, b⟩
  · rw [a, b]
  · omega
  · rw [a, b]
theorem loop_cyc {F : Nat} {w : FerryWorld} (hF : 1000 ≤ F) (h8 : w.in_.length ≤ 8) (hr : ∀ p : Nat, p < w.in_.length → okN w (inn w p)) {p : Nat} (hp : p < w.in_.length) (next : Int → Option Bool) :
    ((geti w.in_ (p : Int)).bind fun x25 => loop F (f51_b2 w (p : Int) next) (x25, 0)) = open Classical in if (∃ j, j ≤ w.in_.length ∧ up w (j + 1) p = (p : Int)) then some false else next ((p + 1 : Nat) : Int) := by
  rw [inn_geti hp]
  simp only [Option.bind_some]
  have hok : ∀ k, okN w (up w k p) := fun k => by
    induction k with
    | zero => exact ⟨by show (-1 : Int) ≤ (p : Int); omega, by show (p : Int) < _; omega⟩
    | succ k ih =>
      rw [up_succ]
      by_cases h2 : up w k p < 0
      · rw [if_pos h2]; exact ih
      · rw [if_neg h2]
        obtain ⟨j, e, hj⟩ := okN_nat ih h2
        rw [e]; exact hr j hj
  have e0 : (inn w p, (0 : Int)) = (up w (0 + 1) p, ((0 : Nat) : Int)) := by
    rw [up_succ]; show _ = (if ((p : Int)) < 0 then _ else _, _); rw [if_neg (by omega)]; rfl
  obtain ⟨m, hm, hs, hlt⟩ := first_of (c := fun k => w.in_.length < k ∨ up w (k + 1) p < 0 ∨ up w (k + 1) p = (p : Int)) (n := w.in_.length + 1) (.inl (by omega))
  have hj : ∀ j, j < m → j ≤ w.in_.length ∧ ¬ up w (j + 1) p < 0 ∧ up w (j + 1) p ≠ (p : Int) := fun j hj => by
    have := hlt j hj
    exact ⟨by rcases Nat.lt_or_ge w.in_.length j with z | z; · exact absurd (.inl z) this
              · exact z, fun q => this (.inr (.inl q)), fun q => this (.inr (.inr q))⟩
  refine loop_tr (fun j => (up w (j + 1) p, (j : Int))) e0.symm (n := m) (by omega) (fun j hjm nx => ?_) (fun nx => ?_)
  · obtain ⟨a1, a2, a3⟩ := hj j hjm
    obtain ⟨k, e, hk⟩ := okN_nat (hok (j + 1)) a2
    unfold f51_b2
    dsimp only
    rw [up_succ w (j + 1), if_neg a2]
    rw [e] at a3 ⊢
    rw [decide_eq_true (show (j : Int) ≤ (w.in_.length : Int) by omega), ge0_nat, Bool.and_self, cond_true, beq_dec, decide_eq_false a3, cond_false, inn_geti hk]
    simp only [Option.bind_some]
    rw [w64s (by omega)]
  · unfold f51_b2
    dsimp only
    by_cases h1 : w.in_.length < m
    · rw [decide_eq_false (show ¬ (m : Int) ≤ (w.in_.length : Int) by omega), Bool.false_and, cond_false, w64s (by omega), if_neg]
      rintro ⟨j, q1, q2⟩
      exact (hj j (by omega)).2.2 q2
    · by_cases h2 : up w (m + 1) p < 0
      · rw [decide_eq_false (show ¬ up w (m + 1) p ≥ 0 by omega), Bool.and_false, cond_false, w64s (by omega), if_neg]
        rintro ⟨j, q1, q2⟩
        rcases Nat.lt_or_ge j m with z | z
        · exact (hj j z).2.2 q2
        · have := up_stays h2 (show m + 1 ≤ j + 1 by omega); omega
      · have h3 : up w (m + 1) p = (p : Int) := by rcases hs with z | z | z <;> first | exact absurd z h1 | exact absurd z h2 | exact z
        rw [decide_eq_true (show (m : Int) ≤ (w.in_.length : Int) by omega), h3, ge0_nat, Bool.and_self, cond_true, beq_dec, decide_eq_true rfl, cond_true, if_pos ⟨m, by omega, h3⟩]
theorem shape_ref {F : Nat} (hF : 1000 ≤ F) {w : FerryWorld} (sm : SmN 900 w) : ∃ b, f51L F w = some b ∧ (b = true ↔ ShR w) := by
  unfold f51L
  refine ex_cond (fun hc => ⟨false, rfl, ?_⟩) (fun hc => ?_)
  · simp only [Bool.false_eq_true, false_iff]
    intro s
    have := s.shp.m1; have := s.shp.m2; have := s.shp.p1; have := s.shp.p2; have := s.shp.bx; have := s.shp.hd; have := s.sd1; have := s.sd2
    simp only [Bool.or_eq_true, decide_eq_true_eq, bne_iff_ne] at hc
    omega
  simp only [Bool.or_eq_false_iff, decide_eq_false_iff_not, bne_eq_false_iff_eq] at hc
  obtain ⟨⟨⟨⟨⟨⟨⟨a1, a2⟩, a3⟩, a4⟩, a5⟩, a6⟩, a7⟩, a8⟩ := hc
  refine ex_find false (loop F (f51_b1 F w) 0) (fun k => (k : Int)) rfl (fun k => ¬ okN w (inn w k)) (n := w.in_.length) (by omega) (fun k hk => ?_) (fun next => ?_) (fun k hk hc => ?_) (fun hr => ?_)
  · by_cases ho : okN w (inn w k)
    · refine .inr ⟨fun next => ?_, fun q => q ho⟩
      have h1 := ho.1; have h2 := ho.2
      unfold f51_b0
      rw [lt_nat_t hk, cond_true, inn_geti hk]
      simp only [Option.bind_some]
      rw [decide_eq_false (by omega), decide_eq_false (by omega), Bool.or_self, cond_false, w64s (by omega)]
    · refine .inl ⟨fun next => ?_, ho⟩
      unfold f51_b0
      rw [lt_nat_t hk, cond_true, inn_geti hk]
      simp only [Option.bind_some]
      by_cases h1 : inn w (k : Int) < -1
      · rw [decide_eq_true h1]; rfl
      · rw [decide_eq_true (show inn w (k : Int) ≥ (w.in_.length : Int) by
          rcases Int.lt_or_le (inn w (k : Int)) (w.in_.length : Int) with z | z
          · exact absurd ⟨by omega, z⟩ ho
          · exact z), Bool.or_true]; rfl
  · unfold f51_b0
    rw [lt_nat_f]; rfl
  · simp only [Bool.false_eq_true, false_iff]
    intro s; exact hc (s.inn.rng k hk)
  have hr : ∀ p : Nat, p < w.in_.length → okN w (inn w p) := fun p hp => Classical.byContradiction (hr p hp)
  refine ex_find false (loop F (f51_b3 F w) 0) (fun k => (k : Int)) rfl (fun p => ∃ j, j ≤ w.in_.length ∧ up w (j + 1) p = (p : Int)) (n := w.in_.length) (by omega) (fun k hk => ?_) (fun next => ?_) (fun k hk hc => ?_) (fun hac => ?_)
  · by_cases ho : ∃ j, j ≤ w.in_.length ∧ up w (j + 1) k = (k : Int)
    · refine .inl ⟨fun next => ?_, ho⟩
      have := loop_cyc hF (by omega) hr hk next
      rw [if_pos ho] at this
      unfold f51_b1; rw [lt_nat_t hk, cond_true]; exact this
    · refine .inr ⟨fun next => ?_, ho⟩
      have := loop_cyc hF (by omega) hr hk next
      rw [if_neg ho] at this
      unfold f51_b1; rw [lt_nat_t hk, cond_true]; exact this
  · unfold f51_b1
    rw [lt_nat_f]; rfl
  · simp only [Bool.false_eq_true, false_iff]
    intro s
    obtain ⟨j, q1, q2⟩ := hc
    exact (acy_iff hr).1 s.inn.acy k hk j q1 q2
  have hinn : Inn w := ⟨hr, (acy_iff hr).2 fun p hp j hj q => hac p hp ⟨j, hj, q⟩⟩
  refine ex_find false (loop F (f51_b5 F w) 0) (fun k => (k : Int)) rfl (fun m => ¬ ((row w m).length = w.in_.length ∧ ∀ p, p < w.in_.length → EntX w m p)) (n := w.entries.length) (by omega) (fun m hm => ?_) (fun next => ?_) (fun k hk hc => ?_) (fun hen => ?_)
  · have hx : geti w.entries (m : Int) = some (row w m) := geti_d [] hm
    by_cases hl : (row w m).length = w.in_.length
    · have hgp : ∀ p, p < w.in_.length → geti (row w m) (p : Int) = some (E w m p) := fun p hp => geti_d default (by rw [hl]; exact hp)
      have step : ∀ next : Int → Option Bool, ∀ p, p < w.in_.length → ∀ nx, f51_b4 w (m : Int) next (row w m) (p : Int) nx = open Classical in if EntX w m p then nx ((p + 1 : Nat) : Int) else some false := fun next p hp nx => by
        unfold f51_b4
        rw [decide_eq_true (show (p : Int) < ((row w m).length : Int) by omega), cond_true, hgp p hp]
        simp only [Option.bind_some]
        by_cases he : EntX w m p
        · obtain ⟨e1, e2, e3, e4, e5⟩ := he
          have e6 : ((E w m p).here != ((E w m p).to_ == (m : Int))) = false := by
            rw [bne_eq_false_iff_eq, Bool.eq_iff_iff, e5, beq_iff_eq]
          rw [if_pos ⟨e1, e2, e3, e4, e5⟩, decide_eq_false (by omega), decide_eq_false (by omega), decide_eq_false (by omega), decide_eq_false (by omega), e6]
          simp only [Bool.or_self, cond_false]
          rw [w64s (by omega)]
        · rw [if_neg he]
          have : (decide ((E w m p).age < 0) || decide ((E w m p).age > 30) || decide ((E w m p).to_ < 0) || decide ((E w m p).to_ ≥ (w.entries.length : Int)) || ((E w m p).here != ((E w m p).to_ == (m : Int)))) = true := by
            rw [← Bool.not_eq_false]
            intro hf
            simp only [Bool.or_eq_false_iff, decide_eq_false_iff_not, bne_eq_false_iff_eq] at hf
            obtain ⟨⟨⟨⟨q1, q2⟩, q3⟩, q4⟩, q5⟩ := hf
            exact he ⟨by omega, by omega, by omega, by omega, by rw [q5, beq_iff_eq]⟩
          rw [this]; rfl
      have body : ∀ next nx0, f51_b3 F w (m : Int) next = loop F (f51_b4 w (m : Int) next (row w m)) nx0 ∨ nx0 ≠ 0 := fun next nx0 => by
        by_cases h0 : nx0 = 0
        · subst h0
          left
          unfold f51_b3
          rw [lt_nat_t hm, cond_true, hx]
          simp only [Option.bind_some]
          rw [hl, ne_refl, cond_false]
        · exact .inr h0
      by_cases hall : ∀ p, p < w.in_.length → EntX w m p
      · refine .inr ⟨fun next => ?_, fun q => q ⟨hl, hall⟩⟩
        rw [(body next 0).resolve_right (fun q => q rfl)]
        refine loop_tr (fun p => (p : Int)) rfl (n := w.in_.length) (by omega) (fun p hp nx => ?_) (fun nx => ?_)
        · rw [step next p hp nx, if_pos (hall p hp)]
        · unfold f51_b4
          rw [decide_eq_false (by omega), cond_false, w64s (by omega)]
      · refine .inl ⟨fun next => ?_, fun q => hall q.2⟩
        rw [(body next 0).resolve_right (fun q => q rfl)]
        have hz : ∃ p, p < w.in_.length ∧ ¬ EntX w m p := Classical.byContradiction fun q => hall fun p hp => Classical.byContradiction fun q2 => q ⟨p, hp, q2⟩
        obtain ⟨p0, hp0⟩ := hz
        obtain ⟨p1, _, hp1, hlt⟩ := first_of (c := fun p => p < w.in_.length ∧ ¬ EntX w m p) hp0
        refine loop_tr (fun p => (p : Int)) rfl (n := p1) (by omega) (fun p hp nx => ?_) (fun nx => ?_)
        · rw [step next p (by omega) nx, if_pos (Classical.byContradiction fun q => hlt p hp ⟨by omega, q⟩)]
        · rw [step next p1 hp1.1 nx, if_neg hp1.2]
    · refine .inl ⟨fun next => ?_, fun q => hl q.1⟩
      unfold f51_b3
      rw [lt_nat_t hm, cond_true, hx]
      simp only [Option.bind_some]
      rw [bne_dec, decide_eq_true (by omega)]; rfl
  · unfold f51_b3
    rw [lt_nat_f]; rfl
  · simp only [Bool.false_eq_true, false_iff]
    intro s; exact hc ⟨s.shp.len hk, s.ent k hk⟩
  have hen : ∀ m, m < w.entries.length → (row w m).length = w.in_.length ∧ ∀ p, p < w.in_.length → EntX w m p := fun m hm => Classical.byContradiction (hen m hm)
  have hshp : Shp w := ⟨by omega, by omega, by omega, by omega, by omega, by omega, fun l hl => by
    obtain ⟨k, hk, rfl⟩ := List.getElem_of_mem hl
    have := (hen k hk).1
    unfold row at this
    rwa [List.getD_eq_getElem?_getD, List.getElem?_eq_getElem hk] at this⟩
  refine ex_find false (some true) (fun k => (k : Int)) rfl (fun k => ∃ h : k < w.wire.length, ¬ LetX w w.wire[k]) (n := w.wire.length) (by have := sm.wire; omega) (fun k hk => ?_) (fun next => ?_) (fun k hk hc => ?_) (fun hlt => ⟨true, rfl, ?_⟩)
  · have hwl := sm.wire
    have hx : w.wire[k] ∈ w.wire := List.getElem_mem hk
    obtain ⟨s1, s2⟩ := sm.let_ _ hx
    generalize hX : w.wire[k] = x at *
    have hgx : geti w.wire (k : Int) = some x := by rw [geti_k hk, hX]
    have bad : (∀ next, f51_b5 F w (k : Int) next = some false) ∧ ¬ LetX w x ∨ (∀ next, f51_b5 F w (k : Int) next = next ((k + 1 : Nat) : Int)) ∧ LetX w x := by
      obtain ⟨pb, hpb, hpi⟩ := pure_ref x
      by_cases ht : 0 ≤ x.to_ ∧ x.to_ < (w.entries.length : Int)
      · have e1 : (decide (x.to_ < 0) || decide (x.to_ ≥ (w.entries.length : Int))) = false := by
          rw [decide_eq_false (by omega), decide_eq_false (by omega)]; rfl
        cases pb with
        | false =>
          have hnp : ¬ Pur x := fun q => by have := hpi.2 q; cases this
          refine .inl ⟨fun next => ?_, fun l => hnp l.pur⟩
          unfold f51_b5
          rw [lt_nat_t hk, cond_true, hgx]
          simp only [Option.bind_some]
          rw [e1, Bool.not_false, gd_true, hpb]; rfl
        | true =>
          have hp : Pur x := hpi.1 rfl
          have hal := hp.len
          have body : ∀ next, f51_b5 F w (k : Int) next = loop F (f51_b6 w (k : Int) next x) 0 := fun next => by
            unfold f51_b5
            rw [lt_nat_t hk, cond_true, hgx]
            simp only [Option.bind_some]
            rw [e1, Bool.not_false, gd_true, hpb]; rfl
          have step : ∀ (next : Int → Option Bool) (i : Nat), i < x.places.length → ∀ nx, f51_b6 w (k : Int) next x (i : Int) nx = open Classical in if PlcAt w x i then nx ((i + 1 : Nat) : Int) else some false := fun next i hi nx => by
            have := plc_test w x hi (by omega) s1 false (nx (w64 ((i : Int) + 1)))
            unfold f51_b6
            rw [lt_nat_t hi, cond_true, this, w64s (by omega)]
          by_cases hpl : Plc w x
          · have fin : ∀ next, f51_b5 F w (k : Int) next = bif ((x.kind == 3) && (((decide (x.place < 0)) || (decide (x.place ≥ (w.in_.length : Int)))) || (x.at_ == x.to_))) then some false else next ((k + 1 : Nat) : Int) := fun next => by
              rw [body]
              refine loop_tr (fun i => (i : Int)) rfl (n := x.places.length) (by omega) (fun i hi nx => ?_) (fun nx => ?_)
              · rw [step next i hi nx, if_pos (hpl i hi)]
              · unfold f51_b6
                rw [lt_nat_f, cond_false, w64s (by omega)]
            by_cases hn : NtdX w x
            · refine .inr ⟨fun next => ?_, ⟨ht.1, ht.2, hp, hpl, hn⟩⟩
              rw [fin]
              have : ((x.kind == 3) && (((decide (x.place < 0)) || (decide (x.place ≥ (w.in_.length : Int)))) || (x.at_ == x.to_))) = false := by
                by_cases h3 : x.kind = 3
                · obtain ⟨q1, q2, q3⟩ := hn h3
                  rw [decide_eq_false (by omega), decide_eq_false (by omega), beq_dec x.at_, decide_eq_false q3]; simp
                · rw [beq_dec, decide_eq_false h3]; rfl
              rw [this]; rfl
            · refine .inl ⟨fun next => ?_, fun l => hn l.ntd⟩
              rw [fin]
              have : ((x.kind == 3) && (((decide (x.place < 0)) || (decide (x.place ≥ (w.in_.length : Int)))) || (x.at_ == x.to_))) = true := by
                rw [← Bool.not_eq_false]
                intro hf
                apply hn
                intro h3
                simp only [Bool.and_eq_false_iff, Bool.or_eq_false_iff, decide_eq_false_iff_not, beq_eq_false_iff_ne] at hf
                rcases hf with q | ⟨⟨q1, q2⟩, q3⟩
                · exact absurd h3 q
                · exact ⟨by omega, by omega, q3⟩
              rw [this]; rfl
          · have hz : ∃ i, i < x.places.length ∧ ¬ PlcAt w x i := Classical.byContradiction fun q => hpl fun i hi => Classical.byContradiction fun q2 => q ⟨i, hi, q2⟩
            obtain ⟨i0, hi0⟩ := hz
            obtain ⟨i1, _, hi1, hlt⟩ := first_of (c := fun i => i < x.places.length ∧ ¬ PlcAt w x i) hi0
            refine .inl ⟨fun next => ?_, fun l => hpl l.plc⟩
            rw [body]
            refine loop_tr (fun i => (i : Int)) rfl (n := i1) (by omega) (fun i hi nx => ?_) (fun nx => ?_)
            · rw [step next i (by omega) nx, if_pos (Classical.byContradiction fun q => hlt i hi ⟨by omega, q⟩)]
            · rw [step next i1 hi1.1 nx, if_neg hi1.2]
      · refine .inl ⟨fun next => ?_, fun l => ht ⟨l.to1, l.to2⟩⟩
        have e1 : (decide (x.to_ < 0) || decide (x.to_ ≥ (w.entries.length : Int))) = true := by
          rw [← Bool.not_eq_false]
          intro hf
          simp only [Bool.or_eq_false_iff, decide_eq_false_iff_not] at hf
          exact ht ⟨by omega, by omega⟩
        unfold f51_b5
        rw [lt_nat_t hk, cond_true, hgx]
        simp only [Option.bind_some]
        rw [e1, Bool.not_true, gd_false]; rfl
    rcases bad with ⟨b1, b2⟩ | ⟨b1, b2⟩
    · exact .inl ⟨b1, hk, by rwa [hX]⟩
    · exact .inr ⟨b1, fun ⟨_, q⟩ => by rw [hX] at q; exact q b2⟩
  · unfold f51_b5
    rw [lt_nat_f]; rfl
  · simp only [Bool.false_eq_true, false_iff]
    obtain ⟨h, q⟩ := hc
    intro s; exact q (s.let_ _ (List.getElem_mem h))
  · refine ⟨fun _ => ⟨hshp, hinn, by omega, by omega, fun m hm => (hen m hm).2, fun x hx => ?_⟩, fun _ => rfl⟩
    obtain ⟨k, hk, rfl⟩ := List.getElem_of_mem hx
    exact Classical.byContradiction fun q => hlt k hk ⟨hk, q⟩
end Go.Proofs.YtbmbbcaaimehkaaGreat
end
section
set_option linter.unusedVariables false
set_option linter.unusedSimpArgs false
namespace Go.Proofs.YtbmbbcaaimehkaaGreat
open Go.Lf
def hereR (s : Spot_) : Spot := ⟨s.machine, s.age, -1, true⟩
def wayR (k : Nat) (s : Spot_) : Spot := ⟨s.machine, s.age, (k : Int), false⟩
def letN (w : FerryWorld) (i : Nat) : FerryLetter := w.wire.getD i default
def wayRs (w : FerryWorld) (p k : Nat) : List Spot := (List.range k).flatMap fun i => (wayX (letN w i) p (letN w i).places.length).map (wayR i)
def locsR (w : FerryWorld) (p : Nat) : List Spot := (hereL w p w.entries.length).map hereR ++ wayRs w p w.wire.length
def lastR (l : List Spot) : Spot := l.getLastD ⟨0, 0, 0, false⟩
theorem lastR_snoc (l : List Spot) (x : Spot) : lastR (l ++ [x]) = x := by unfold lastR; simp
theorem wayRs_succ (w : FerryWorld) (p k : Nat) : wayRs w p (k + 1) = wayRs w p k ++ (wayX (letN w k) p (letN w k).places.length).map (wayR k) := by
  unfold wayRs
  rw [List.range_succ, List.flatMap_append]
  simp
theorem wayRs_len {w : FerryWorld} {n : Nat} (h : ∀ x ∈ w.wire, x.places.length ≤ n) (p : Nat) : ∀ k, k ≤ w.wire.length → (wayRs w p k).length ≤ n * k
  | 0, _ => by simp [wayRs]
  | k + 1, hk => by
    have := wayRs_len h p k (by omega)
    have h1 := wayX_len (letN w k) p (letN w k).places.length
    have h2 := h (letN w k) (getD_mem (by omega))
    rw [wayRs_succ, List.length_append, List.length_map, Nat.mul_succ]
    omega
def stR (l : List Spot) (k : Nat) : Int × Int × Int × Int × Int × Bool := ((l.length : Int), (k : Int), (lastR l).at_, (lastR l).age, (lastR l).letter, (lastR l).is)
theorem lastR_eta (l : List Spot) : Spot.mk (lastR l).at_ (lastR l).age (lastR l).letter (lastR l).is = lastR l := rfl
theorem hereL_true (w : FerryWorld) (p k : Nat) : ∀ s ∈ hereL w p k, s.here = true := fun s hs => by
  unfold hereL at hs
  obtain ⟨m, _, hm⟩ := List.mem_filterMap.1 hs
  by_cases h : (E w m p).here = true
  · rw [if_pos h] at hm; cases hm; rfl
  · rw [if_neg h] at hm; cases hm
theorem wayX_false (x : FerryLetter) (p j : Nat) : ∀ s ∈ wayX x p j, s.here = false := fun s hs => by
  unfold wayX at hs
  obtain ⟨m, _, hm⟩ := List.mem_filterMap.1 hs
  by_cases h : x.places.getD m 0 = (p : Int)
  · rw [if_pos h] at hm; cases hm; rfl
  · rw [if_neg h] at hm; cases hm
theorem find_ref {F : Nat} (hF : 1000 ≤ F) {w : FerryWorld} (s : Shp w) (hv : ∀ x ∈ w.wire, x.ages.length = x.places.length ∧ x.places.length ≤ 900) (hw : w.wire.length < 900) {p : Nat} (hp : p < w.in_.length) :
    f52L F w (p : Int) = some (lastR (locsR w p), decide ((locsR w p).length = 1)) := by
  have h0 := s.m2
  have hh := hereL_len w p w.entries.length
  have hlen : ∀ k, k ≤ w.wire.length → (wayRs w p k).length ≤ 900 * 900 := fun k hk => by
    have := wayRs_len (fun x hx => (hv x hx).2) p k hk
    exact Nat.le_trans this (by apply Nat.mul_le_mul (Nat.le_refl _); omega)
  have h1 : loop F (f52_b1 F w (p : Int)) (stR ((hereL w p w.entries.length).map hereR) 0) = some (lastR (locsR w p), decide ((locsR w p).length = 1)) := by
    refine loop_tr (fun k => stR ((hereL w p w.entries.length).map hereR ++ wayRs w p k) k) (by simp [wayRs]) (n := w.wire.length) (by omega) (fun k hk next => ?_) (fun next => ?_)
    · have hl := hlen k (by omega)
      have hgx : geti w.wire (k : Int) = some (letN w k) := geti_d default hk
      have hx : letN w k ∈ w.wire := getD_mem hk
      obtain ⟨v1, v2⟩ := hv _ hx
      rw [wayRs_succ]
      generalize letN w k = x at *
      have hll : ((hereL w p w.entries.length).map hereR ++ wayRs w p k).length ≤ 5 + 900 * 900 := by rw [List.length_append, List.length_map]; omega
      rw [← List.append_assoc]
      generalize (hereL w p w.entries.length).map hereR ++ wayRs w p k = l at hll ⊢
      unfold f52_b1
      dsimp only [stR]
      rw [lt_nat_t hk, cond_true, hgx]
      simp only [Option.bind_some]
      refine loop_tr (fun j => stR (l ++ (wayX x p j).map (wayR k)) j) (by simp [wayX, stR]) (n := x.places.length) (by omega) (fun j hj next2 => ?_) (fun next2 => ?_)
      · have hl2 := wayX_len x p j
        rw [wayX_succ]
        unfold f52_b2
        dsimp only [stR]
        rw [lt_nat_t hj, cond_true, geti_d 0 hj]
        simp only [Option.bind_some]
        rw [decide_eq_true (show (j : Int) < (x.ages.length : Int) by omega), Bool.and_true, beq_dec, cond_dec]
        unfold f52_j1
        dsimp only
        by_cases hq : x.places.getD j 0 = (p : Int)
        · rw [if_pos hq, if_pos hq, geti_d 0 (show j < x.ages.length by omega)]
          simp only [Option.bind_some]
          rw [w64s (by rw [List.length_append, List.length_map]; omega), w64s (by omega), List.map_append, ← List.append_assoc, List.map_cons, List.map_nil, lastR_snoc]
          simp [wayR, Int.add_assoc]
        · rw [if_neg hq, if_neg hq, w64s (by omega), List.append_nil]
      · unfold f52_b2
        dsimp only [stR]
        rw [lt_nat_f, cond_false, w64s (by omega)]
    · unfold f52_b1
      dsimp only [stR]
      rw [lt_nat_f, cond_false, lastR_eta, beq_dec]
      unfold locsR
      congr 2
      by_cases h : ((hereL w p w.entries.length).map hereR ++ wayRs w p w.wire.length).length = 1
      · rw [decide_eq_true h, decide_eq_true (by omega)]
      · rw [decide_eq_false h, decide_eq_false (by omega)]
  unfold f52L
  refine loop_tr (fun k => stR ((hereL w p k).map hereR) k) (by rfl) (n := w.entries.length) (by omega) (fun k hk next => ?_) (fun next => ?_)
  · unfold f52_b0
    dsimp only [stR]
    rw [lt_nat_t hk, cond_true, s.row hk]
    simp only [Option.bind_some]
    rw [s.ent hk hp]
    simp only [Option.bind_some]
    have hl := hereL_len w p k
    rw [hereL_succ]
    unfold f52_j0
    dsimp only
    cases hE : (E w k p).here with
    | true =>
      simp only [cond_true, if_true]
      rw [w64s (by rw [List.length_map]; omega), w64s (by omega), List.map_append, List.map_cons, List.map_nil, lastR_snoc]
      simp [hereR]
    | false =>
      simp only [cond_false]
      rw [w64s (by omega)]
      simp
  · unfold f52_b0
    dsimp only [stR]
    rw [lt_nat_f]; exact h1
def toS (s : Spot) : Spot_ := ⟨s.at_, s.is, s.age⟩
theorem range_flat {α β : Type} (l : List α) (d : α) (f : α → List β) : (List.range l.length).flatMap (fun i => f (l.getD i d)) = l.flatMap f := by
  induction l with
  | nil => rfl
  | cons x l ih =>
    rw [List.length_cons, List.range_succ_eq_map, List.flatMap_cons, List.flatMap_map, List.flatMap_cons]
    have : (fun a => f ((x :: l).getD a.succ d)) = fun a => f (l.getD a d) := by funext a; simp
    rw [this, ih]; rfl
theorem locs_eq {w : FerryWorld} (hp : ∀ x ∈ w.wire, x.kind = 2 ∨ x.places = []) (p : Nat) : (locsR w p).map toS = locsP w p := by
  unfold locsR locsP wayRs wayP
  rw [List.map_append, List.map_map, List.map_flatMap]
  congr 1
  · have : ∀ s ∈ hereL w p w.entries.length, (toS ∘ hereR) s = id s := fun s hs => by
      have := hereL_true w p _ s hs
      cases s
      simp only [Function.comp, hereR, toS, id] at this ⊢
      rw [this]
    rw [List.map_congr_left this, List.map_id]
  · rw [← range_flat w.wire default]
    unfold List.flatMap
    congr 1
    apply List.map_congr_left
    intro i hi
    have hx : w.wire.getD i default ∈ w.wire := getD_mem (List.mem_range.1 hi)
    rw [List.map_map]
    unfold letN
    generalize w.wire.getD i default = x at *
    have h1 : ∀ s ∈ wayX x p x.places.length, (toS ∘ wayR i) s = id s := fun s hs => by
      have := wayX_false x p _ s hs
      cases s
      simp only [Function.comp, wayR, toS, id] at this ⊢
      rw [this]
    rw [List.map_congr_left h1, List.map_id]
    unfold wayK
    rcases hp x hx with h | h
    · rw [if_pos h]
    · rw [h]; by_cases hk : x.kind = 2
      · rw [if_pos hk]
      · rw [if_neg hk]; simp [wayX]
theorem last_eq {w : FerryWorld} (hp : ∀ x ∈ w.wire, x.kind = 2 ∨ x.places = []) (p : Nat) : toS (lastR (locsR w p)) = lastS (locsP w p) := by
  rw [← locs_eq hp]
  unfold lastR lastS
  rcases List.eq_nil_or_concat (locsR w p) with h | ⟨l, x, h⟩
  · rw [h]; rfl
  · rw [h]; simp
theorem len_eq {w : FerryWorld} (hp : ∀ x ∈ w.wire, x.kind = 2 ∨ x.places = []) (p : Nat) : (locsP w p).length = (locsR w p).length := by rw [← locs_eq hp, List.length_map]
theorem Pur.two {x : FerryLetter} (h : Pur x) : x.kind = 2 ∨ x.places = [] := by
  rcases h with ⟨_, _, _, _, a, b⟩ | ⟨a, _⟩ | ⟨_, _, a, b⟩
  · exact .inr a
  · exact .inl a
  · exact .inr a
theorem ShR.two {w : FerryWorld} (h : ShR w) : ∀ x ∈ w.wire, x.kind = 2 ∨ x.places = [] := fun x hx => (h.let_ x hx).pur.two
def MvX (w : FerryWorld) (x : FerryLetter) : Prop := x.kind = 1 ∨ x.kind = 3 ∨ (x.kind = 2 ∧ x.places ≠ [] ∧ x.ages.length = x.places.length ∧ Plc w x)
theorem moved_prog {F : Nat} (hF : 1000 ≤ F) {w : FerryWorld} (sm : SmN 900 w) : ∃ b, f69L F w = some b ∧ (b = true ↔ ∀ x ∈ w.wire, MvX w x) := by
  unfold f69L
  refine ex_find false (some true) (fun k => (k : Int)) rfl (fun k => ∃ h : k < w.wire.length, ¬ MvX w w.wire[k]) (n := w.wire.length) (by have := sm.wire; omega) (fun k hk => ?_) (fun next => ?_) (fun k hk hc => ?_) (fun hlt => ⟨true, rfl, ?_⟩)
  · have hwl := sm.wire
    have hx : w.wire[k] ∈ w.wire := List.getElem_mem hk
    obtain ⟨s1, s2⟩ := sm.let_ _ hx
    generalize hX : w.wire[k] = x at *
    have hgx : geti w.wire (k : Int) = some x := by rw [geti_k hk, hX]
    have bad : (∀ next, f69_b0 F w (k : Int) next = some false) ∧ ¬ MvX w x ∨ (∀ next, f69_b0 F w (k : Int) next = next ((k + 1 : Nat) : Int)) ∧ MvX w x := by
      by_cases h1 : x.kind = 1
      · refine .inr ⟨fun next => ?_, .inl h1⟩
        unfold f69_b0
        rw [lt_nat_t hk, cond_true, hgx]
        simp only [Option.bind_some]
        rw [h1]
        show f69_j0 (k : Int) next () = _
        unfold f69_j0; rw [w64s (by omega)]
      · have b0 : ∀ next, f69_b0 F w (k : Int) next = f69_j1 F w (k : Int) next x (x.kind == 3) := fun next => by
          unfold f69_b0
          rw [lt_nat_t hk, cond_true, hgx]
          simp only [Option.bind_some]
          rw [beq_dec x.kind 1, decide_eq_false h1]; rfl
        by_cases h3 : x.kind = 3
        · refine .inr ⟨fun next => ?_, .inr (.inl h3)⟩
          rw [b0, h3]
          show f69_j0 (k : Int) next () = _
          unfold f69_j0; rw [w64s (by omega)]
        · by_cases h2 : x.kind = 2
          · have b1 : ∀ next, f69_b0 F w (k : Int) next = bif ((decide ((x.places.length : Int) < 1)) || ((x.ages.length : Int) != (x.places.length : Int))) then some false else loop F (f69_b1 w (k : Int) next x) 0 := fun next => by
              rw [b0]
              unfold f69_j1
              rw [beq_dec x.kind 3, decide_eq_false h3, cond_false, h2]; rfl
            by_cases hl : x.places ≠ [] ∧ x.ages.length = x.places.length
            · have hpos := List.length_pos_iff.2 hl.1
              have b2 : ∀ next, f69_b0 F w (k : Int) next = loop F (f69_b1 w (k : Int) next x) 0 := fun next => by
                rw [b1, decide_eq_false (by omega), bne_dec, decide_eq_false (by omega)]; rfl
              have step : ∀ (next : Int → Option Bool) (i : Nat), i < x.places.length → ∀ nx, f69_b1 w (k : Int) next x (i : Int) nx = open Classical in if PlcAt w x i then nx ((i + 1 : Nat) : Int) else some false := fun next i hi nx => by
                have := plc_test w x hi (by omega) s1 false (nx (w64 ((i : Int) + 1)))
                unfold f69_b1
                rw [lt_nat_t hi, cond_true, this, w64s (by omega)]
              by_cases hpl : Plc w x
              · refine .inr ⟨fun next => ?_, .inr (.inr ⟨h2, hl.1, hl.2, hpl⟩)⟩
                rw [b2]
                refine loop_tr (fun i => (i : Int)) rfl (n := x.places.length) (by omega) (fun i hi nx => ?_) (fun nx => ?_)
                · rw [step next i hi nx, if_pos (hpl i hi)]
                · unfold f69_b1
                  rw [lt_nat_f, cond_false]
                  unfold f69_j0; rw [w64s (by omega)]
              · have hz : ∃ i, i < x.places.length ∧ ¬ PlcAt w x i := Classical.byContradiction fun q => hpl fun i hi => Classical.byContradiction fun q2 => q ⟨i, hi, q2⟩
                obtain ⟨i0, hi0⟩ := hz
                obtain ⟨i1, _, hi1, hlt⟩ := first_of (c := fun i => i < x.places.length ∧ ¬ PlcAt w x i) hi0
                refine .inl ⟨fun next => ?_, fun l => ?_⟩
                · rw [b2]
                  refine loop_tr (fun i => (i : Int)) rfl (n := i1) (by omega) (fun i hi nx => ?_) (fun nx => ?_)
                  · rw [step next i (by omega) nx, if_pos (Classical.byContradiction fun q => hlt i hi ⟨by omega, q⟩)]
                  · rw [step next i1 hi1.1 nx, if_neg hi1.2]
                · rcases l with q | q | ⟨_, _, _, q⟩
                  · exact h1 q
                  · exact h3 q
                  · exact hpl q
            · refine .inl ⟨fun next => ?_, fun l => ?_⟩
              · rw [b1]
                have : ((decide ((x.places.length : Int) < 1)) || ((x.ages.length : Int) != (x.places.length : Int))) = true := by
                  rw [← Bool.not_eq_false]
                  intro hf
                  simp only [Bool.or_eq_false_iff, decide_eq_false_iff_not, bne_eq_false_iff_eq] at hf
                  exact hl ⟨List.length_pos_iff.1 (by omega), by omega⟩
                rw [this]; rfl
              · rcases l with q | q | ⟨_, q1, q2, _⟩
                · exact h1 q
                · exact h3 q
                · exact hl ⟨q1, q2⟩
          · refine .inl ⟨fun next => ?_, fun l => ?_⟩
            · rw [b0]
              unfold f69_j1
              rw [beq_dec x.kind 3, decide_eq_false h3, cond_false, beq_dec x.kind 2, decide_eq_false h2]; rfl
            · rcases l with q | q | ⟨q, _⟩
              · exact h1 q
              · exact h3 q
              · exact h2 q
    rcases bad with ⟨b1, b2⟩ | ⟨b1, b2⟩
    · exact .inl ⟨b1, hk, by rwa [hX]⟩
    · exact .inr ⟨b1, fun ⟨_, q⟩ => by rw [hX] at q; exact q b2⟩
  · unfold f69_b0
    rw [lt_nat_f]; rfl
  · simp only [Bool.false_eq_true, false_iff]
    obtain ⟨h, q⟩ := hc
    intro s; exact q (s _ (List.getElem_mem h))
  · refine ⟨fun _ x hx => ?_, fun _ => rfl⟩
    obtain ⟨k, hk, rfl⟩ := List.getElem_of_mem hx
    exact Classical.byContradiction fun q => hlt k hk ⟨hk, q⟩
end Go.Proofs.YtbmbbcaaimehkaaGreat
end
section
set_option linter.unusedVariables false
set_option linter.unusedSimpArgs false
namespace Go.Proofs.YtbmbbcaaimehkaaGreat
open Go.Lf
section
variable {β γ : Type} {R : β → Prop}
theorem ex_findR {body : γ → (γ → Option β) → Option β} (r1 : Nat → β) (r2 : Option β) {s0 : γ} (S : Nat → γ) (h0 : S 0 = s0) (c : Nat → Prop) {n F : Nat} (hF : n < F)
    (hb : ∀ k, k < n → ((∀ next, body (S k) next = some (r1 k)) ∧ c k) ∨ ((∀ next, body (S k) next = next (S (k + 1))) ∧ ¬ c k)) (he : ∀ next, body (S n) next = r2)
    (h1 : ∀ k, k < n → c k → R (r1 k)) (h2 : (∀ k, k < n → ¬ c k) → ∃ b, r2 = some b ∧ R b) : ∃ b, loop F body s0 = some b ∧ R b := by
  by_cases hz : ∃ k, k < n ∧ c k
  · obtain ⟨k0, hk0⟩ := hz
    obtain ⟨m, hm, ⟨hmn, hcm⟩, hlt⟩ := first_of (c := fun k => k < n ∧ c k) hk0
    refine ⟨r1 m, loop_tr S h0 (n := m) (by omega) (fun k hk => ?_) ?_, h1 m hmn hcm⟩
    · rcases hb k (by omega) with ⟨_, q⟩ | ⟨q, _⟩
      · exact absurd ⟨by omega, q⟩ (hlt k hk)
      · exact q
    · rcases hb m hmn with ⟨q, _⟩ | ⟨_, q⟩
      · exact q
      · exact absurd hcm q
  · have hno : ∀ k, k < n → ¬ c k := fun k hk q => hz ⟨k, hk, q⟩
    obtain ⟨b, e, hR⟩ := h2 hno
    refine ⟨b, ?_, hR⟩
    rw [← e]
    exact loop_tr S h0 hF (fun k hk => (hb k hk).elim (fun q => absurd q.2 (hno k hk)) fun q => q.1) he
end
theorem contains_prog {F : Nat} (hF : 1000 ≤ F) {l : List Int} (hl : l.length ≤ 900) (x : Int) : ∃ b, f78L F l x = some b ∧ (b = true ↔ x ∈ l) := by
  have : ∃ k, f99L F l x = some k ∧ (0 ≤ k ↔ x ∈ l) := by
    unfold f99L
    refine ex_findR (fun k => (k : Int)) (some (-1)) (fun k => (k : Int)) rfl (fun k => ∃ h : k < l.length, x = l[k]) (n := l.length) (by omega) (fun k hk => ?_) (fun next => ?_) (fun k hk hc => ?_) (fun hno => ⟨-1, rfl, ?_⟩)
    · by_cases h : x = l[k]
      · refine .inl ⟨fun next => ?_, hk, h⟩
        unfold f99_b0
        rw [lt_nat_t hk, cond_true, geti_k hk]
        simp only [Option.bind_some]
        rw [beq_dec, decide_eq_true h]; rfl
      · refine .inr ⟨fun next => ?_, fun ⟨_, q⟩ => h q⟩
        unfold f99_b0
        rw [lt_nat_t hk, cond_true, geti_k hk]
        simp only [Option.bind_some]
        rw [beq_dec, decide_eq_false h, cond_false, w64s (by omega)]
    · unfold f99_b0
      rw [lt_nat_f]; rfl
    · obtain ⟨h, e⟩ := hc
      exact ⟨fun _ => e ▸ List.getElem_mem h, fun _ => by omega⟩
    · refine ⟨fun q => absurd q (by omega), fun q => ?_⟩
      obtain ⟨k, hk, e⟩ := List.getElem_of_mem q
      exact absurd ⟨hk, e.symm⟩ (hno k hk)
  obtain ⟨k, h1, h2⟩ := this
  refine ⟨decide (k ≥ 0), ?_, ?_⟩
  · unfold f78L; rw [h1]; rfl
  · rw [decide_eq_true_eq]; exact h2
def SameL (w : FerryWorld) (p q : Int) : Prop := ∃ x ∈ w.wire, x.kind = 2 ∧ p ∈ x.places ∧ q ∈ x.places
theorem same_prog {F : Nat} (hF : 1000 ≤ F) {w : FerryWorld} (sm : SmN 900 w) (l : List Spot_) (p q : Int) : ∃ b, f92L F ⟨w, l⟩ p q = some b ∧ (b = true ↔ SameL w p q) := by
  unfold f92L
  have hwl := sm.wire
  refine ex_findR (fun _ => true) (some false) (fun k => (k : Int)) rfl (fun k => ∃ h : k < w.wire.length, (w.wire[k]).kind = 2 ∧ p ∈ (w.wire[k]).places ∧ q ∈ (w.wire[k]).places) (n := w.wire.length) (by omega) (fun k hk => ?_) (fun next => ?_) (fun k hk hc => ?_) (fun hno => ⟨false, rfl, ?_⟩)
  · have hx : w.wire[k] ∈ w.wire := List.getElem_mem hk
    obtain ⟨s1, s2⟩ := sm.let_ _ hx
    obtain ⟨b1, e1, i1⟩ := contains_prog (F := F) hF (l := w.wire[k].places) (by omega) p
    obtain ⟨b2, e2, i2⟩ := contains_prog (F := F) hF (l := w.wire[k].places) (by omega) q
    have hb : ∀ next, f92_b0 F ⟨w, l⟩ p q (k : Int) next = bif (((w.wire[k].kind == 2) && b1) && b2) then some true else next ((k + 1 : Nat) : Int) := fun next => by
      unfold f92_b0
      rw [lt_nat_t hk, cond_true, geti_k hk]
      simp only [Option.bind_some]
      rw [e1, e2]
      cases h2 : (w.wire[k].kind == 2)
      · simp only [gd_false, Option.bind_some, Bool.false_and, cond_false]
        rw [w64s (by omega)]
      · simp only [gd_true, Option.bind_some, Bool.true_and]
        cases b1
        · simp only [gd_false, Option.bind_some, Bool.false_and, cond_false]
          rw [w64s (by omega)]
        · simp only [gd_true, Option.bind_some, Bool.true_and]
          cases b2
          · simp only [cond_false]; rw [w64s (by omega)]
          · simp only [cond_true]; unfold f92_j0; rw [ge0_nat]
    by_cases hc : w.wire[k].kind = 2 ∧ p ∈ w.wire[k].places ∧ q ∈ w.wire[k].places
    · refine .inl ⟨fun next => ?_, hk, hc⟩
      rw [hb, beq_dec, decide_eq_true hc.1, i1.2 hc.2.1, i2.2 hc.2.2]; rfl
    · refine .inr ⟨fun next => ?_, fun ⟨_, z⟩ => hc z⟩
      rw [hb]
      have : (((w.wire[k].kind == 2) && b1) && b2) = false := by
        rw [← Bool.not_eq_true]
        intro z
        simp only [Bool.and_eq_true, beq_iff_eq] at z
        exact hc ⟨z.1.1, i1.1 z.1.2, i2.1 z.2⟩
      rw [this]; rfl
  · unfold f92_b0
    rw [lt_nat_f]; rfl
  · obtain ⟨h, z⟩ := hc
    exact ⟨fun _ => ⟨_, List.getElem_mem h, z⟩, fun _ => rfl⟩
  · simp only [Bool.false_eq_true, false_iff]
    rintro ⟨x, hx, z⟩
    obtain ⟨k, hk, rfl⟩ := List.getElem_of_mem hx
    exact hno k hk ⟨hk, z⟩
def sp (w : FerryWorld) (p : Nat) : Spot_ := lastS (locsP w p)
def spL (w : FerryWorld) : List Spot_ := (List.range w.in_.length).map (sp w)
def TogX (w : FerryWorld) (p : Nat) : Prop := (locsP w p).length = 1 ∧ (0 ≤ inn w p → (sp w (inn w p).toNat).machine = (sp w p).machine ∧ (sp w (inn w p).toNat).here = (sp w p).here ∧ ((sp w p).here = false → SameL w p (inn w p)))
def spK (w : FerryWorld) (k : Nat) : List Spot_ := (List.range k).map (sp w) ++ List.replicate (w.in_.length - k) ⟨0, false, 0⟩
theorem spK_set {w : FerryWorld} {k : Nat} (h : k < w.in_.length) : seti (spK w k) (k : Int) (sp w k) = spK w (k + 1) := by
  unfold seti spK
  rw [Int.toNat_natCast, List.set_append_right _ _ (by simp), List.range_succ, List.map_append, List.append_assoc]
  congr 1
  rw [List.length_map, List.length_range, Nat.sub_self, show w.in_.length - k = (w.in_.length - (k + 1)) + 1 by omega, List.replicate_succ, List.set_cons_zero]; rfl
theorem spK_len {w : FerryWorld} {k : Nat} (h : k ≤ w.in_.length) : (spK w k).length = w.in_.length := by simp [spK]; omega
theorem spK_end (w : FerryWorld) : spK w w.in_.length = spL w := by simp [spK, spL]
theorem MvX.mvd {w : FerryWorld} (sm : SmN 900 w) (h : ∀ x ∈ w.wire, MvX w x) : Mvd 900 w.wire := fun x hx hk => by
  rcases h x hx with q | q | ⟨_, _, q, _⟩
  · omega
  · omega
  · exact ⟨q, by have := (sm.let_ x hx).1; omega⟩
theorem together_prog {F : Nat} (hF : 1000 ≤ F) (hM : F ≤ 1000000) {w : FerryWorld} (s : Shp w) (hi : Inn w) (sm : SmN 900 w) (hv : Mvd 900 w.wire) :
    ∃ x, f70L F ⟨w, List.replicate w.in_.length ⟨0, false, 0⟩⟩ = some x ∧ ((x.2 = true ↔ ∀ p, p < w.in_.length → TogX w p) ∧ (x.2 = true → x.1 = ⟨w, spL w⟩)) := by
  have h8 := s.p2
  have hwh : ∀ p, p < w.in_.length → f67L F w (p : Int) = some (sp w p, ((locsP w p).length : Int)) := fun p hp => where_prog hF hM s hv sm.wire hp
  unfold f70L
  let l1 : Nat → List Spot_ := fun k => if (locsP w k).length = 1 then spK w (k + 1) else spK w k
  refine ex_findR (fun k => (⟨w, l1 k⟩, false)) (some (⟨w, spL w⟩, true)) (fun k => ((k : Int), spK w k)) (by simp [spK]) (fun k => ¬ TogX w k) (n := w.in_.length) (by omega) (fun k hk => ?_) (fun next => ?_) (fun k hk hc => ?_) (fun hno => ⟨_, rfl, ?_⟩)
  · have hok := hi.rng k hk
    have b0 : ∀ next, f70_b0 F ⟨w, List.replicate w.in_.length ⟨0, false, 0⟩⟩ ((k : Int), spK w k) next = (bif (((locsP w k).length : Int) != 1) then some (⟨w, spK w k⟩, false) else (bif decide (inn w k < 0) then f70_j0 (k : Int) next (seti (spK w k) (k : Int) (sp w k)) else (f67L F w (inn w k)).bind fun x37 => (gd ((!((x37.1.machine != (sp w k).machine) || (x37.1.here != (sp w k).here))) && (!(sp w k).here)) (f92L F ⟨w, seti (spK w k) (k : Int) (sp w k)⟩ (k : Int) (inn w k)) default).bind fun x44 => (bif (((x37.1.machine != (sp w k).machine) || (x37.1.here != (sp w k).here)) || ((!(sp w k).here) && (!x44))) then some (⟨w, seti (spK w k) (k : Int) (sp w k)⟩, false) else f70_j0 (k : Int) next (seti (spK w k) (k : Int) (sp w k))))) := fun next => by
      unfold f70_b0
      dsimp only
      rw [lt_nat_t hk, cond_true, inn_geti hk]
      simp only [Option.bind_some]
      rw [hwh k hk]
      simp only [Option.bind_some]
      rw [geti_d ⟨0, false, 0⟩ (show k < (spK w k).length by rw [spK_len (by omega)]; exact hk)]
      simp only [Option.bind_some]
    by_cases h1 : (locsP w k).length = 1
    · have e1 : (((locsP w k).length : Int) != 1) = false := by rw [h1]; rfl
      have hl1 : l1 k = spK w (k + 1) := if_pos h1
      have jn : ∀ next, f70_j0 (k : Int) next (spK w (k + 1)) = next (((k + 1 : Nat) : Int), spK w (k + 1)) := fun next => by unfold f70_j0; rw [w64s (by omega)]
      by_cases h2 : inn w k < 0
      · refine .inr ⟨fun next => ?_, fun q => q ⟨h1, fun z => by omega⟩⟩
        rw [b0, e1, cond_false, decide_eq_true h2, cond_true, spK_set hk, jn]
      · obtain ⟨q, eq, hq⟩ := okN_nat hok h2
        obtain ⟨b, hb, hbi⟩ := same_prog hF sm (spK w (k + 1)) (k : Int) (inn w k)
        have b1 : ∀ next, f70_b0 F ⟨w, List.replicate w.in_.length ⟨0, false, 0⟩⟩ ((k : Int), spK w k) next = bif ((((sp w q).machine != (sp w k).machine) || ((sp w q).here != (sp w k).here)) || ((!(sp w k).here) && (!(bif ((!(((sp w q).machine != (sp w k).machine) || ((sp w q).here != (sp w k).here))) && (!(sp w k).here)) then b else default)))) then some (⟨w, spK w (k + 1)⟩, false) else next (((k + 1 : Nat) : Int), spK w (k + 1)) := fun next => by
          rw [b0, e1, cond_false, decide_eq_false h2, cond_false, spK_set hk, hb, eq, hwh q hq]
          simp only [Option.bind_some]
          have hgd : ∀ c : Bool, gd c (some b) (default : Bool) = some (bif c then b else default) := fun c => by cases c <;> rfl
          rw [hgd]
          simp only [Option.bind_some]
          rw [jn]
        have eqn : (inn w k).toNat = q := by omega
        by_cases ht : (sp w q).machine = (sp w k).machine ∧ (sp w q).here = (sp w k).here ∧ ((sp w k).here = false → SameL w k (inn w k))
        · refine .inr ⟨fun next => ?_, fun z => z ⟨h1, fun _ => by rw [eqn]; exact ht⟩⟩
          rw [b1, ht.1, ht.2.1]
          simp only [ne_refl, Bool.or_self, Bool.not_false, Bool.true_and, Bool.false_or]
          cases hh : (sp w k).here with
          | true => rfl
          | false =>
            rw [hbi.2 (ht.2.2 hh)]; rfl
        · refine .inl ⟨fun next => ?_, fun z => ht (by have := z.2 (by omega); rwa [eqn] at this)⟩
          rw [b1, hl1]
          have : ((((sp w q).machine != (sp w k).machine) || ((sp w q).here != (sp w k).here)) || ((!(sp w k).here) && (!(bif ((!(((sp w q).machine != (sp w k).machine) || ((sp w q).here != (sp w k).here))) && (!(sp w k).here)) then b else default)))) = true := by
            rw [← Bool.not_eq_false]
            intro hf
            rw [Bool.or_eq_false_iff] at hf
            obtain ⟨hf1, hf2⟩ := hf
            rw [hf1] at hf2
            rw [Bool.or_eq_false_iff, bne_eq_false_iff_eq, bne_eq_false_iff_eq] at hf1
            refine ht ⟨hf1.1, hf1.2, fun hh => ?_⟩
            rw [hh] at hf2
            simp only [Bool.not_false, Bool.and_self, cond_true, Bool.true_and, Bool.not_eq_false'] at hf2
            exact hbi.1 hf2
          rw [this]; rfl
    · refine .inl ⟨fun next => ?_, fun z => h1 z.1⟩
      have hl1 : l1 k = spK w k := if_neg h1
      rw [b0, hl1, bne_dec, decide_eq_true (by omega)]; rfl
  · unfold f70_b0
    dsimp only
    rw [lt_nat_f, cond_false, spK_end]
  · refine ⟨?_, fun q => by cases q⟩
    simp only [Bool.false_eq_true, false_iff]
    intro z; exact hc (z k hk)
  · exact ⟨⟨fun _ p hp => Classical.byContradiction (hno p hp), fun _ => rfl⟩, fun _ => rfl⟩
def RtX (w : FerryWorld) (p : Nat) (m a : Int) : Prop := 0 ≤ a ∧ a ≤ (sp w p).age ∧ 0 ≤ m ∧ m < (w.entries.length : Int) ∧ (a = (sp w p).age → m = (sp w p).machine) ∧ (a ≠ (sp w p).age → a < (E w m.toNat p).age)
instance (w : FerryWorld) (p : Nat) (m a : Int) : Decidable (RtX w p m a) := by unfold RtX; infer_instance
theorem spL_get {w : FerryWorld} {p : Nat} (hp : p < w.in_.length) : geti (spL w) (p : Int) = some (sp w p) := by
  rw [geti_d default (by simp [spL]; exact hp)]
  simp [spL, hp]
theorem right_prog {w : FerryWorld} (s : Shp w) {p : Nat} (hp : p < w.in_.length) (m a : Int) : f93L ⟨w, spL w⟩ (p : Int) m a = some (decide (RtX w p m a)) := by
  unfold f93L
  rw [spL_get hp]
  simp only [Option.bind_some]
  unfold f95L
  dsimp only
  by_cases h1 : 0 ≤ a ∧ a ≤ (sp w p).age
  · rw [decide_eq_false (show ¬ a < 0 by omega), decide_eq_false (show ¬ a > (sp w p).age by omega)]
    simp only [Bool.or_self, Bool.not_false, gd_true, Option.bind_some, Bool.false_or]
    by_cases h2 : 0 ≤ m ∧ m < (w.entries.length : Int)
    · rw [decide_eq_true h2.1, decide_eq_true h2.2]
      simp only [Bool.and_self, Bool.not_true, cond_false]
      by_cases h3 : a = (sp w p).age
      · rw [beq_dec, decide_eq_true h3, cond_true, beq_dec]
        congr 1
        by_cases h4 : m = (sp w p).machine
        · rw [decide_eq_true h4, decide_eq_true (show RtX w p m a from ⟨h1.1, h1.2, h2.1, h2.2, fun _ => h4, fun q => absurd h3 q⟩)]
        · rw [decide_eq_false h4, decide_eq_false (fun q : RtX w p m a => h4 (q.2.2.2.2.1 h3))]
      · obtain ⟨k, rfl⟩ : ∃ k : Nat, m = (k : Int) := ⟨m.toNat, by omega⟩
        rw [beq_dec, decide_eq_false h3, cond_false, s.row (by omega)]
        simp only [Option.bind_some]
        rw [s.ent (by omega) hp]
        simp only [Option.bind_some]
        congr 1
        by_cases h4 : (E w k p).age > a
        · rw [decide_eq_true h4, decide_eq_true (show RtX w p (k : Int) a from ⟨h1.1, h1.2, h2.1, h2.2, fun q => absurd q h3, fun _ => h4⟩)]
        · rw [decide_eq_false h4, decide_eq_false (fun q : RtX w p (k : Int) a => h4 (q.2.2.2.2.2 h3))]
    · have : (decide (m ≥ 0) && decide (m < (w.entries.length : Int))) = false := by
        rw [← Bool.not_eq_true]; intro z; simp only [Bool.and_eq_true, decide_eq_true_eq] at z; exact h2 z
      rw [this, decide_eq_false (fun q : RtX w p m a => h2 ⟨q.2.2.1, q.2.2.2.1⟩)]; rfl
  · have : (decide (a < 0) || decide (a > (sp w p).age)) = true := by
      rw [← Bool.not_eq_false]; intro z; simp only [Bool.or_eq_false_iff, decide_eq_false_iff_not] at z; exact h1 ⟨by omega, by omega⟩
    rw [this, decide_eq_false (fun q : RtX w p m a => h1 ⟨q.1, q.2.1⟩)]; rfl
end Go.Proofs.YtbmbbcaaimehkaaGreat
end
section
set_option linter.unusedVariables false
set_option linter.unusedSimpArgs false
namespace Go.Proofs.YtbmbbcaaimehkaaGreat
open Go.Lf
def EntP (w : FerryWorld) (m p : Nat) : Prop :=
  (E w m p = ⟨true, (m : Int), (E w m p).age⟩ ∧ 0 ≤ (E w m p).age ∧ (E w m p).age ≤ 30) ∨
  (E w m p ≠ ⟨true, (m : Int), (E w m p).age⟩ ∧ (E w m p).here = false ∧ (E w m p).to_ ≠ (m : Int) ∧ RtX w p (E w m p).to_ (E w m p).age)
theorem entries_prog {F : Nat} (hF : 1000 ≤ F) {w : FerryWorld} (s : Shp w) : ∃ b, f71L F ⟨w, spL w⟩ = some b ∧ (b = true ↔ ∀ m, m < w.entries.length → ∀ p, p < w.in_.length → EntP w m p) := by
  have h5 := s.m2; have h8 := s.p2
  unfold f71L
  refine ex_find false (some true) (fun k => (k : Int)) rfl (fun m => ¬ ∀ p, p < w.in_.length → EntP w m p) (n := w.entries.length) (by omega) (fun m hm => ?_) (fun next => ?_) (fun k hk hc => ?_) (fun hno => ⟨true, rfl, fun _ m hm => Classical.byContradiction (hno m hm), fun _ => rfl⟩)
  · have b0 : ∀ next, f71_b0 F ⟨w, spL w⟩ (m : Int) next = loop F (f71_b1 ⟨w, spL w⟩ (m : Int) next (row w m)) 0 := fun next => by
      unfold f71_b0
      rw [lt_nat_t hm, cond_true, s.row hm]; rfl
    have step : ∀ (next : Int → Option Bool) (p : Nat), p < w.in_.length → ∀ nx, f71_b1 ⟨w, spL w⟩ (m : Int) next (row w m) (p : Int) nx = open Classical in if EntP w m p then nx ((p + 1 : Nat) : Int) else some false := fun next p hp nx => by
      unfold f71_b1
      rw [s.len hm, lt_nat_t hp, cond_true, s.ent hm hp]
      simp only [Option.bind_some]
      have hj : f71_j0 (p : Int) nx () = nx ((p + 1 : Nat) : Int) := by unfold f71_j0; rw [w64s (by omega)]
      by_cases he : E w m p = ⟨true, (m : Int), (E w m p).age⟩
      · rw [(eqEntry_iff _ _).2 he, cond_true]
        by_cases ha : 0 ≤ (E w m p).age ∧ (E w m p).age ≤ 30
        · rw [if_pos (.inl ⟨he, ha⟩), decide_eq_false (by omega), decide_eq_false (by omega), Bool.or_self, cond_false, hj]
        · have : (decide ((E w m p).age < 0) || decide ((E w m p).age > 30)) = true := by
            rw [← Bool.not_eq_false]; intro z; simp only [Bool.or_eq_false_iff, decide_eq_false_iff_not] at z; exact ha ⟨by omega, by omega⟩
          rw [this, if_neg (by rintro (⟨_, q⟩ | ⟨q, _⟩); · exact ha q
                               · exact q he)]; rfl
      · have e1 : eqFerryEntry (E w m p) ⟨true, (m : Int), (E w m p).age⟩ = false := by rw [← Bool.not_eq_true, eqEntry_iff]; exact he
        rw [e1, cond_false]
        by_cases h2 : (E w m p).here = false ∧ (E w m p).to_ ≠ (m : Int)
        · have e2 : ((E w m p).here || ((E w m p).to_ == (m : Int))) = false := by rw [h2.1, beq_dec, decide_eq_false h2.2]; rfl
          rw [e2, Bool.not_false, gd_true, right_prog s hp]
          simp only [Option.bind_some, Bool.false_or]
          by_cases h3 : RtX w p (E w m p).to_ (E w m p).age
          · rw [decide_eq_true h3, if_pos (.inr ⟨he, h2.1, h2.2, h3⟩), Bool.not_true, cond_false, hj]
          · rw [decide_eq_false h3, if_neg (by rintro (⟨q, _⟩ | ⟨_, _, _, q⟩); · exact he q
                                               · exact h3 q)]; rfl
        · have e2 : ((E w m p).here || ((E w m p).to_ == (m : Int))) = true := by
            rw [← Bool.not_eq_false]; intro z; simp only [Bool.or_eq_false_iff, beq_eq_false_iff_ne] at z; exact h2 z
          rw [e2, if_neg (by rintro (⟨q, _⟩ | ⟨_, q1, q2, _⟩); · exact he q
                             · exact h2 ⟨q1, q2⟩)]; rfl
    by_cases hall : ∀ p, p < w.in_.length → EntP w m p
    · refine .inr ⟨fun next => ?_, fun q => q hall⟩
      rw [b0]
      refine loop_tr (fun p => (p : Int)) rfl (n := w.in_.length) (by omega) (fun p hp nx => ?_) (fun nx => ?_)
      · rw [step next p hp nx, if_pos (hall p hp)]
      · unfold f71_b1
        rw [s.len hm, lt_nat_f, cond_false, w64s (by omega)]
    · refine .inl ⟨fun next => ?_, hall⟩
      have hz : ∃ p, p < w.in_.length ∧ ¬ EntP w m p := Classical.byContradiction fun q => hall fun p hp => Classical.byContradiction fun q2 => q ⟨p, hp, q2⟩
      obtain ⟨p0, hp0⟩ := hz
      obtain ⟨p1, _, hp1, hlt⟩ := first_of (c := fun p => p < w.in_.length ∧ ¬ EntP w m p) hp0
      rw [b0]
      refine loop_tr (fun p => (p : Int)) rfl (n := p1) (by omega) (fun p hp nx => ?_) (fun nx => ?_)
      · rw [step next p (by omega) nx, if_pos (Classical.byContradiction fun q => hlt p hp ⟨by omega, q⟩)]
      · rw [step next p1 hp1.1 nx, if_neg hp1.2]
  · unfold f71_b0
    rw [lt_nat_f]; rfl
  · simp only [Bool.false_eq_true, false_iff]
    intro z; exact hc (z k hk)
def MailX (w : FerryWorld) (m : Int) (y : FerryMail) : Prop := 0 ≤ y.place ∧ y.place < (w.in_.length : Int) ∧ 0 ≤ y.from_ ∧ y.from_ < (w.entries.length : Int) ∧ RtX w y.place.toNat m y.age ∧ 1 ≤ y.hops ∧ y.hops ≤ w64 (1 + y.age)
theorem mail_prog {w : FerryWorld} (s : Shp w) (m : Int) (y : FerryMail) : ∃ b, f74L ⟨w, spL w⟩ m y = some b ∧ (b = true ↔ MailX w m y) := by
  unfold f74L f96L f95L
  simp only [Option.bind_some]
  by_cases h1 : 0 ≤ y.place ∧ y.place < (w.in_.length : Int)
  · obtain ⟨p, hp⟩ : ∃ p : Nat, y.place = (p : Int) := ⟨y.place.toNat, by omega⟩
    have hpl : p < w.in_.length := by omega
    rw [hp, decide_eq_true (show (p : Int) ≥ 0 by omega), decide_eq_true (show (p : Int) < (w.in_.length : Int) by omega)]
    simp only [Bool.and_self, gd_true, Option.bind_some, Bool.true_and]
    by_cases h2 : 0 ≤ y.from_ ∧ y.from_ < (w.entries.length : Int)
    · rw [decide_eq_true h2.1, decide_eq_true h2.2]
      simp only [Bool.and_self, gd_true, Option.bind_some, Bool.true_and]
      rw [right_prog s hpl]
      refine ⟨_, rfl, ?_⟩
      simp only [Bool.and_eq_true, decide_eq_true_eq]
      unfold MailX
      rw [hp, Int.toNat_natCast]
      constructor
      · rintro ⟨⟨a, b⟩, c⟩; exact ⟨by omega, by omega, h2.1, h2.2, a, b, c⟩
      · rintro ⟨_, _, _, _, a, b, c⟩; exact ⟨⟨a, b⟩, c⟩
    · have : (decide (y.from_ ≥ 0) && decide (y.from_ < (w.entries.length : Int))) = false := by
        rw [← Bool.not_eq_true]; intro z; simp only [Bool.and_eq_true, decide_eq_true_eq] at z; exact h2 z
      rw [this]
      refine ⟨_, rfl, ?_⟩
      simp only [Bool.false_and, Bool.false_eq_true, false_iff]
      rintro ⟨_, _, a, b, _⟩; exact h2 ⟨a, b⟩
  · have : (decide (y.place ≥ 0) && decide (y.place < (w.in_.length : Int))) = false := by
      rw [← Bool.not_eq_true]; intro z; simp only [Bool.and_eq_true, decide_eq_true_eq] at z; exact h1 z
    rw [this]
    refine ⟨_, rfl, ?_⟩
    simp only [Bool.false_and, Bool.false_eq_true, false_iff]
    rintro ⟨a, b, _⟩; exact h1 ⟨a, b⟩
def LetP (w : FerryWorld) (x : FerryLetter) : Prop := 0 ≤ x.to_ ∧ x.to_ < (w.entries.length : Int) ∧ (x.kind ≠ 2 → x.places = [] ∧ x.ages = []) ∧
  (x.kind = 1 → MailX w x.to_ x.mail ∧ x.place = 0 ∧ x.at_ = 0 ∧ x.age = 0) ∧
  (x.kind = 3 → x.at_ ≠ x.to_ ∧ 0 ≤ x.place ∧ x.place < (w.in_.length : Int) ∧ RtX w x.place.toNat x.at_ x.age ∧ x.mail = mail0) ∧
  (x.kind ≠ 1 → x.kind ≠ 3 → x.mail = mail0 ∧ x.place = 0 ∧ x.at_ = 0 ∧ x.age = 0)
theorem letter_prog {w : FerryWorld} (s : Shp w) {x : FerryLetter} (h9 : x.places.length ≤ 900 ∧ x.ages.length ≤ 900) : ∃ b, f73L ⟨w, spL w⟩ x = some b ∧ (b = true ↔ LetP w x) := by
  unfold f73L f95L
  simp only [Option.bind_some]
  refine ex_cond (fun hc => ⟨false, rfl, ?_⟩) (fun hc => ?_)
  · simp only [Bool.false_eq_true, false_iff]
    rintro ⟨a, b, _⟩
    rw [decide_eq_true (show x.to_ ≥ 0 from a), decide_eq_true b] at hc; cases hc
  simp only [Bool.not_eq_false', Bool.and_eq_true, decide_eq_true_eq] at hc
  refine ex_cond (fun hc2 => ⟨false, rfl, ?_⟩) (fun hc2 => ?_)
  · simp only [Bool.false_eq_true, false_iff]
    rintro ⟨_, _, a, _⟩
    simp only [Bool.and_eq_true, bne_iff_ne, decide_eq_true_eq] at hc2
    obtain ⟨a1, a2⟩ := a hc2.1
    rw [a1, a2] at hc2
    exact absurd hc2.2 (by decide)
  have hk2 : x.kind ≠ 2 → x.places = [] ∧ x.ages = [] := fun hk => by
    rw [bne_dec, decide_eq_true hk, Bool.true_and, decide_eq_false_iff_not, w64_id (by omega) (by omega)] at hc2
    exact ⟨List.length_eq_zero_iff.1 (by omega), List.length_eq_zero_iff.1 (by omega)⟩
  have hj : ∀ a b c d e f g h, f73_j0 x (a, b, c, d, e, f, g, h) = some ((((eqFerryMail (FerryMail.mk a b c d e) x.mail) && (f == x.place)) && (g == x.at_)) && (h == x.age)) := fun _ _ _ _ _ _ _ _ => rfl
  refine ex_cond (fun h1 => ?_) (fun h1 => ?_)
  · have h1 : x.kind = 1 := by simpa using h1
    obtain ⟨b, hb, hbi⟩ := mail_prog s x.to_ x.mail
    rw [hb]
    simp only [Option.bind_some]
    refine ex_cond (fun h2 => ⟨false, rfl, ?_⟩) (fun h2 => ⟨_, hj _ _ _ _ _ _ _ _, ?_⟩)
    · simp only [Bool.false_eq_true, false_iff]
      rintro ⟨_, _, _, a, _⟩
      rw [hbi.2 (a h1).1] at h2; cases h2
    · have h2 : MailX w x.to_ x.mail := hbi.1 (by simpa using h2)
      simp only [Bool.and_eq_true, eqMail_iff, beq_iff_eq]
      constructor
      · rintro ⟨⟨⟨_, a⟩, b⟩, c⟩
        exact ⟨hc.1, hc.2, hk2, fun _ => ⟨h2, a.symm, b.symm, c.symm⟩, fun q => by omega, fun q => absurd h1 q⟩
      · rintro ⟨_, _, _, a, _⟩
        obtain ⟨_, a1, a2, a3⟩ := a h1
        exact ⟨⟨⟨trivial, a1.symm⟩, a2.symm⟩, a3.symm⟩
  have h1 : x.kind ≠ 1 := by simpa using h1
  refine ex_cond (fun h3 => ?_) (fun h3 => ?_)
  · have h3 : x.kind = 3 := by simpa using h3
    unfold f96L
    dsimp only
    by_cases hat : x.at_ = x.to_
    · rw [hat, beq_dec, decide_eq_true rfl]
      refine ⟨false, rfl, ?_⟩
      simp only [Bool.false_eq_true, false_iff]
      rintro ⟨_, _, _, _, a, _⟩
      exact (a h3).1 hat
    · rw [beq_dec, decide_eq_false hat]
      simp only [Bool.not_false, gd_true, Option.bind_some, Bool.false_or]
      by_cases hp : 0 ≤ x.place ∧ x.place < (w.in_.length : Int)
      · rw [decide_eq_true (show x.place ≥ 0 from hp.1), decide_eq_true hp.2]
        obtain ⟨p, ep⟩ : ∃ p : Nat, x.place = (p : Int) := ⟨x.place.toNat, by omega⟩
        simp only [Bool.and_self, Bool.not_true, Bool.not_false, gd_true, Bool.false_or]
        rw [show f93L ⟨w, spL w⟩ x.place x.at_ x.age = some (decide (RtX w x.place.toNat x.at_ x.age)) by rw [ep, right_prog s (by omega), Int.toNat_natCast]]
        simp only [Option.bind_some]
        refine ex_cond (fun h4 => ⟨false, rfl, ?_⟩) (fun h4 => ⟨_, hj _ _ _ _ _ _ _ _, ?_⟩)
        · simp only [Bool.false_eq_true, false_iff]
          rintro ⟨_, _, _, _, a, _⟩
          rw [decide_eq_true (a h3).2.2.2.1] at h4; cases h4
        · have h4 : RtX w x.place.toNat x.at_ x.age := by simpa using h4
          simp only [Bool.and_eq_true, eqMail_iff, beq_iff_eq]
          constructor
          · rintro ⟨⟨⟨a, _⟩, _⟩, _⟩
            exact ⟨hc.1, hc.2, hk2, fun q => absurd q h1, fun _ => ⟨hat, hp.1, hp.2, h4, a.symm⟩, fun _ q => absurd h3 q⟩
          · rintro ⟨_, _, _, _, a, _⟩
            exact ⟨⟨⟨(a h3).2.2.2.2.symm, trivial⟩, trivial⟩, trivial⟩
      · have : (decide (x.place ≥ 0) && decide (x.place < (w.in_.length : Int))) = false := by
          rw [← Bool.not_eq_true]; intro z; simp only [Bool.and_eq_true, decide_eq_true_eq] at z; exact hp z
        rw [this]
        refine ⟨false, rfl, ?_⟩
        simp only [Bool.false_eq_true, false_iff]
        rintro ⟨_, _, _, _, a, _⟩
        exact hp ⟨(a h3).2.1, (a h3).2.2.1⟩
  have h3 : x.kind ≠ 3 := by simpa using h3
  refine ⟨_, hj _ _ _ _ _ _ _ _, ?_⟩
  simp only [Bool.and_eq_true, eqMail_iff, beq_iff_eq]
  constructor
  · rintro ⟨⟨⟨a, b⟩, c⟩, d⟩
    exact ⟨hc.1, hc.2, hk2, fun q => absurd q h1, fun q => absurd q h3, fun _ _ => ⟨a.symm, b.symm, c.symm, d.symm⟩⟩
  · rintro ⟨_, _, _, _, _, a⟩
    obtain ⟨a1, a2, a3, a4⟩ := a h1 h3
    exact ⟨⟨⟨a1.symm, a2.symm⟩, a3.symm⟩, a4.symm⟩
end Go.Proofs.YtbmbbcaaimehkaaGreat
end
section
set_option linter.unusedVariables false
set_option linter.unusedSimpArgs false
namespace Go.Proofs.YtbmbbcaaimehkaaGreat
open Go.Lf
def mailed (l : List FerryLetter) : List Int := (l.filter fun x => x.kind == 1).map fun x => x.mail.msg
def heldM (l : List (List FerryMail)) : List Int := l.flatMap fun x => x.map fun y => y.msg
def msgs (w : FerryWorld) : List Int := w.boxes.flatten ++ heldM w.held ++ mailed w.wire
theorem flat_take {α : Type} {l : List (List α)} {k : Nat} (h : k < l.length) : (l.take (k + 1)).flatten = (l.take k).flatten ++ l[k] := by
  rw [List.take_add_one, List.getElem?_eq_getElem h, List.flatten_append]; simp
theorem heldM_take {l : List (List FerryMail)} {k : Nat} (h : k < l.length) : heldM (l.take (k + 1)) = heldM (l.take k) ++ l[k].map fun y => y.msg := by
  unfold heldM
  rw [List.take_add_one, List.getElem?_eq_getElem h, List.flatMap_append]; simp
theorem mailed_take {l : List FerryLetter} {k : Nat} (h : k < l.length) : mailed (l.take (k + 1)) = mailed (l.take k) ++ if l[k].kind = 1 then [l[k].mail.msg] else [] := by
  unfold mailed
  rw [List.take_add_one, List.getElem?_eq_getElem h, List.filter_append, List.map_append]
  congr 1
  by_cases hk : l[k].kind = 1
  · rw [if_pos hk]; simp [hk]
  · rw [if_neg hk]; simp [hk]
theorem flat_len {α : Type} {l : List (List α)} {n : Nat} (h : ∀ x ∈ l, x.length ≤ n) : l.flatten.length ≤ n * l.length := by
  induction l with
  | nil => simp
  | cons x l ih =>
    have := ih fun y hy => h y (by simp [hy])
    have := h x (by simp)
    rw [List.flatten_cons, List.length_append, List.length_cons, Nat.mul_succ]; omega
theorem heldM_len {l : List (List FerryMail)} {n : Nat} (h : ∀ x ∈ l, x.length ≤ n) : (heldM l).length ≤ n * l.length := by
  induction l with
  | nil => simp [heldM]
  | cons x l ih =>
    have := ih fun y hy => h y (by simp [hy])
    have := h x (by simp)
    unfold heldM at *
    rw [List.flatMap_cons, List.length_append, List.length_map, List.length_cons, Nat.mul_succ]; omega
theorem mailed_len (l : List FerryLetter) : (mailed l).length ≤ l.length := by
  unfold mailed; rw [List.length_map]; exact List.length_filter_le _ _
theorem app8 {xs ys : List Int} (h : xs.length + ys.length ≤ 1000000) : app 8 xs ys = some (xs ++ ys) := app_ok h (by decide)
structure BdM (w : FerryWorld) : Prop where
  b : w.boxes.flatten.length ≤ 90000
  h : (heldM w.held).length ≤ 90000
  m : (mailed w.wire).length ≤ 300
theorem BdM.of {w : FerryWorld} (sm : SmN 300 w) : BdM w := by
  have h1 := flat_len (n := 300) fun x hx => Nat.le_of_lt (sm.box x hx)
  have h2 := heldM_len (n := 300) fun x hx => Nat.le_of_lt (sm.hel x hx)
  have h3 := mailed_len w.wire
  have := sm.boxes; have := sm.held; have := sm.wire
  exact ⟨by omega, by omega, by omega⟩
theorem take_flat_le {α : Type} (l : List (List α)) (k : Nat) : (l.take k).flatten.length ≤ l.flatten.length := by
  have := congrArg (fun z => z.flatten.length) (List.take_append_drop k l)
  simp only [List.flatten_append, List.length_append] at this; omega
theorem take_heldM_le (l : List (List FerryMail)) (k : Nat) : (heldM (l.take k)).length ≤ (heldM l).length := by
  have := congrArg (fun z => (heldM z).length) (List.take_append_drop k l)
  simp only [heldM, List.flatMap_append, List.length_append] at this ⊢; omega
theorem take_mailed_le (l : List FerryLetter) (k : Nat) : (mailed (l.take k)).length ≤ (mailed l).length := by
  have := congrArg (fun z => (mailed z).length) (List.take_append_drop k l)
  simp only [mailed, List.filter_append, List.map_append, List.length_append] at this ⊢; omega
def sortI (l : List Int) : List Int := l.mergeSort fun x y => decide (x ≤ y)
theorem sort_f94 {l : List Int} (h : l.length ≤ 1000000) : f94L l = some (sortI l) := by
  unfold f94L sortI
  rw [Nat.ble_eq_true_of_le h]; rfl
theorem sortI_perm (l : List Int) : (sortI l).Perm l := List.mergeSort_perm _ _
theorem sortI_sorted (l : List Int) : (sortI l).Pairwise (· ≤ ·) := by
  have := List.pairwise_mergeSort (le := fun x y : Int => decide (x ≤ y)) (fun a b c h1 h2 => by simp at *; omega) (fun a b => by simp; omega) l
  exact this.imp fun h => by simpa using h
theorem sortI_of_perm {l l' : List Int} (h : l.Perm l') (hs : l'.Pairwise (· ≤ ·)) : sortI l = l' :=
  List.Perm.eq_of_pairwise (le := (· ≤ ·)) (fun a b _ _ h1 h2 => by omega) (sortI_sorted l) hs ((sortI_perm l).trans h)
def rangeI (n : Nat) : List Int := (List.range n).map Int.ofNat
theorem rangeI_sorted (n : Nat) : (rangeI n).Pairwise (· ≤ ·) := by
  unfold rangeI
  rw [List.pairwise_map]
  exact List.pairwise_lt_range.imp fun {a b} h => by show (a : Int) ≤ (b : Int); omega
theorem rangeI_get {n k : Nat} (h : k < n) : (rangeI n)[k]? = some (k : Int) := by simp [rangeI, h]
theorem rangeI_len (n : Nat) : (rangeI n).length = n := by simp [rangeI]
theorem eq_rangeI {l : List Int} (h : ∀ k (hk : k < l.length), l[k] = (k : Int)) : l = rangeI l.length := by
  apply List.ext_getElem?
  intro k
  by_cases hk : k < l.length
  · rw [rangeI_get hk, List.getElem?_eq_getElem hk, h k hk]
  · rw [List.getElem?_eq_none (by omega), List.getElem?_eq_none (by rw [rangeI_len]; omega)]
def MsgX (w : FerryWorld) : Prop := 0 ≤ w.said ∧ w.said ≤ 40 ∧ (msgs w).Perm (rangeI w.said.toNat)
theorem messages_prog {F : Nat} (hF : 200000 ≤ F) {w : FerryWorld} (sm : SmN 300 w) (l : List Spot_) : ∃ b, f72L F ⟨w, l⟩ = some b ∧ (b = true ↔ MsgX w) := by
  obtain ⟨B1, B2, B3⟩ := BdM.of sm
  have W1 := sm.boxes; have W2 := sm.held; have W3 := sm.wire
  unfold f72L
  refine ex_cond (fun hc => ⟨false, rfl, ?_⟩) (fun hc => ?_)
  · simp only [Bool.false_eq_true, false_iff]
    rintro ⟨a, b, _⟩
    simp only [Bool.or_eq_true, decide_eq_true_eq] at hc; omega
  simp only [Bool.or_eq_false_iff, decide_eq_false_iff_not] at hc
  have h4 : ∃ b, loop F (f72_b4 ⟨w, l⟩ (sortI (msgs w))) 0 = some b ∧ (b = true ↔ MsgX w) := by
    have hl : (sortI (msgs w)).length = (msgs w).length := (sortI_perm _).length_eq
    have hl2 : (msgs w).length ≤ 180300 := by unfold msgs; rw [List.length_append, List.length_append]; omega
    refine ex_find false (some (((sortI (msgs w)).length : Int) == w.said)) (fun k => (k : Int)) rfl (fun k => ∃ h : k < (sortI (msgs w)).length, (sortI (msgs w))[k] ≠ (k : Int)) (n := (sortI (msgs w)).length) (by omega) (fun k hk => ?_) (fun next => ?_) (fun k hk hc => ?_) (fun hno => ⟨_, rfl, ?_⟩)
    · have b0 : ∀ next, f72_b4 ⟨w, l⟩ (sortI (msgs w)) (k : Int) next = bif ((sortI (msgs w))[k] != (k : Int)) then some false else next (w64 ((k : Int) + 1)) := fun next => by
        unfold f72_b4
        rw [lt_nat_t hk, cond_true, geti_k hk]; rfl
      by_cases h : (sortI (msgs w))[k] = (k : Int)
      · refine .inr ⟨fun next => ?_, fun ⟨_, q⟩ => q h⟩
        rw [b0, h, ne_refl, cond_false, w64s (by omega)]
      · refine .inl ⟨fun next => ?_, hk, h⟩
        rw [b0, bne_dec, decide_eq_true h]; rfl
    · unfold f72_b4
      rw [lt_nat_f]; rfl
    · obtain ⟨h, q⟩ := hc
      simp only [Bool.false_eq_true, false_iff]
      rintro ⟨_, _, hp⟩
      have e := sortI_of_perm hp (rangeI_sorted _)
      have hk' : k < w.said.toNat := by rw [e, rangeI_len] at h; exact h
      have : (sortI (msgs w))[k]? = some (k : Int) := by rw [e]; exact rangeI_get hk'
      rw [List.getElem?_eq_getElem h] at this
      exact q (by simpa using this)
    · have e := eq_rangeI fun k hk => Classical.byContradiction fun q => hno k hk ⟨hk, q⟩
      rw [beq_iff_eq]
      constructor
      · intro h
        refine ⟨by omega, by omega, ?_⟩
        have h2 : w.said.toNat = (sortI (msgs w)).length := by omega
        rw [h2, ← e]
        exact (sortI_perm _).symm
      · rintro ⟨_, _, hp⟩
        have := hp.length_eq
        rw [rangeI_len] at this
        omega
  have h3 : loop F (f72_b3 F ⟨w, l⟩) (w.boxes.flatten ++ heldM w.held, 0) = loop F (f72_b4 ⟨w, l⟩ (sortI (msgs w))) 0 := by
    refine loop_tr (fun k => (w.boxes.flatten ++ heldM w.held ++ mailed (w.wire.take k), (k : Int))) (by simp [mailed]) (n := w.wire.length) (by omega) (fun k hk next => ?_) (fun next => ?_)
    · have hm := take_mailed_le w.wire k
      have hll : (w.boxes.flatten ++ heldM w.held ++ mailed (w.wire.take k)).length ≤ 180300 := by rw [List.length_append, List.length_append]; omega
      rw [mailed_take hk]
      unfold f72_b3
      dsimp only
      rw [lt_nat_t hk, cond_true, geti_k hk]
      simp only [Option.bind_some]
      rw [beq_dec, cond_dec]
      unfold f72_j0
      by_cases h1 : w.wire[k].kind = 1
      · rw [if_pos h1, if_pos h1, app8 (by rw [List.length_singleton]; omega)]
        simp only [Option.bind_some]
        rw [w64s (by omega), ← List.append_assoc]
      · rw [if_neg h1, if_neg h1, w64s (by omega), List.append_nil]
    · unfold f72_b3
      dsimp only
      rw [lt_nat_f, cond_false, List.take_of_length_le (Nat.le_refl _)]
      show (f94L (msgs w)).bind _ = _
      rw [sort_f94 (by unfold msgs; rw [List.length_append, List.length_append]; omega)]; rfl
  have h1 : loop F (f72_b1 F ⟨w, l⟩) (w.boxes.flatten, 0) = loop F (f72_b4 ⟨w, l⟩ (sortI (msgs w))) 0 := by
    refine loop_tr (fun k => (w.boxes.flatten ++ heldM (w.held.take k), (k : Int))) (by simp [heldM]) (n := w.held.length) (by omega) (fun k hk next => ?_) (fun next => ?_)
    · have hm := take_heldM_le w.held k
      have hm2 := take_heldM_le w.held (k + 1)
      have hrow := sm.hel _ (List.getElem_mem hk)
      rw [heldM_take hk] at hm2
      rw [heldM_take hk]
      rw [List.length_append, List.length_map] at hm2
      unfold f72_b1
      dsimp only
      rw [lt_nat_t hk, cond_true, geti_k hk]
      simp only [Option.bind_some]
      refine loop_tr (fun j => (w.boxes.flatten ++ heldM (w.held.take k) ++ (w.held[k].take j).map (fun y => y.msg), (j : Int))) (by simp) (n := w.held[k].length) (by omega) (fun j hj nx => ?_) (fun nx => ?_)
      · unfold f72_b2
        dsimp only
        rw [lt_nat_t hj, cond_true, geti_k hj]
        simp only [Option.bind_some]
        rw [app8 (by rw [List.length_append, List.length_append, List.length_map, List.length_take, List.length_singleton]; omega)]
        simp only [Option.bind_some]
        rw [w64s (by omega), List.take_add_one, List.getElem?_eq_getElem hj, List.map_append]
        simp
      · unfold f72_b2
        dsimp only
        rw [lt_nat_f, cond_false, List.take_of_length_le (Nat.le_refl _), w64s (by omega), List.append_assoc]
    · unfold f72_b1
      dsimp only
      rw [lt_nat_f, cond_false, List.take_of_length_le (Nat.le_refl _)]; exact h3
  have h0 : loop F (f72_b0 F ⟨w, l⟩) ([], 0) = loop F (f72_b4 ⟨w, l⟩ (sortI (msgs w))) 0 := by
    refine loop_tr (fun k => ((w.boxes.take k).flatten, (k : Int))) (by simp) (n := w.boxes.length) (by omega) (fun k hk next => ?_) (fun next => ?_)
    · have hm := take_flat_le w.boxes k
      have hm2 := take_flat_le w.boxes (k + 1)
      rw [flat_take hk, List.length_append] at hm2
      rw [flat_take hk]
      unfold f72_b0
      dsimp only
      rw [lt_nat_t hk, cond_true, geti_k hk]
      simp only [Option.bind_some]
      rw [app8 (by omega)]
      simp only [Option.bind_some]
      rw [w64s (by omega)]
    · unfold f72_b0
      dsimp only
      rw [lt_nat_f, cond_false, List.take_of_length_le (Nat.le_refl _)]; exact h1
  rw [h0]; exact h4
end Go.Proofs.YtbmbbcaaimehkaaGreat
end
section
set_option linter.unusedVariables false
set_option linter.unusedSimpArgs false
namespace Go.Proofs.YtbmbbcaaimehkaaGreat
open Go.Lf
def heldAt (w : FerryWorld) (m : Nat) : List FerryMail := w.held.getD m []
structure Wd (w : FerryWorld) : Prop where
  shr : ShR w
  loc : ∀ p, p < w.in_.length → (locsP w p).length = 1
  tog : ∀ p, p < w.in_.length → 0 ≤ inn w p → (sp w (inn w p).toNat).machine = (sp w p).machine ∧ (sp w (inn w p).toNat).here = (sp w p).here ∧ ((sp w p).here = false → SameL w p (inn w p))
  ent : ∀ m, m < w.entries.length → ∀ p, p < w.in_.length → (E w m p).here = false → RtX w p (E w m p).to_ (E w m p).age
  hel : ∀ m, m < w.entries.length → ∀ x ∈ heldAt w m, MailX w m x ∧ sp w x.place.toNat = ⟨(m : Int), false, x.age⟩
  mai : ∀ x ∈ w.wire, x.kind = 1 → MailX w x.to_ x.mail
  ntd : ∀ x ∈ w.wire, x.kind = 3 → RtX w x.place.toNat x.at_ x.age
  msg : (msgs w).Perm (rangeI w.said.toNat)
theorem hereL_mem {w : FerryWorld} {p k : Nat} {s : Spot_} : s ∈ hereL w p k ↔ ∃ m, m < k ∧ (E w m p).here = true ∧ s = ⟨(m : Int), true, (E w m p).age⟩ := by
  unfold hereL
  rw [List.mem_filterMap]
  constructor
  · rintro ⟨m, h1, h2⟩
    by_cases h : (E w m p).here = true
    · rw [if_pos h] at h2; cases h2; exact ⟨m, List.mem_range.1 h1, h, rfl⟩
    · rw [if_neg h] at h2; cases h2
  · rintro ⟨m, h1, h2, rfl⟩
    exact ⟨m, List.mem_range.2 h1, if_pos h2⟩
theorem wayX_mem {x : FerryLetter} {p j : Nat} {s : Spot_} : s ∈ wayX x p j ↔ ∃ i, i < j ∧ x.places.getD i 0 = (p : Int) ∧ s = ⟨x.to_, false, x.ages.getD i 0⟩ := by
  unfold wayX
  rw [List.mem_filterMap]
  constructor
  · rintro ⟨m, h1, h2⟩
    by_cases h : x.places.getD m 0 = (p : Int)
    · rw [if_pos h] at h2; cases h2; exact ⟨m, List.mem_range.1 h1, h, rfl⟩
    · rw [if_neg h] at h2; cases h2
  · rintro ⟨m, h1, h2, rfl⟩
    exact ⟨m, List.mem_range.2 h1, if_pos h2⟩
theorem wayP_mem {l : List FerryLetter} {p : Nat} {s : Spot_} : s ∈ wayP l p ↔ ∃ x ∈ l, x.kind = 2 ∧ ∃ i, i < x.places.length ∧ x.places.getD i 0 = (p : Int) ∧ s = ⟨x.to_, false, x.ages.getD i 0⟩ := by
  unfold wayP
  rw [List.mem_flatMap]
  constructor
  · rintro ⟨x, h1, h2⟩
    unfold wayK at h2
    by_cases h : x.kind = 2
    · rw [if_pos h] at h2; exact ⟨x, h1, h, wayX_mem.1 h2⟩
    · rw [if_neg h] at h2; cases h2
  · rintro ⟨x, h1, h2, h3⟩
    exact ⟨x, h1, by unfold wayK; rw [if_pos h2]; exact wayX_mem.2 h3⟩
theorem sp_mem {w : FerryWorld} {p : Nat} (h : (locsP w p).length = 1) : locsP w p = [sp w p] := by
  obtain ⟨x, e⟩ := List.length_eq_one_iff.1 h
  unfold sp lastS
  rw [e]; rfl
theorem sp_cases {w : FerryWorld} {p : Nat} (h : (locsP w p).length = 1) : (∃ m, m < w.entries.length ∧ (E w m p).here = true ∧ sp w p = ⟨(m : Int), true, (E w m p).age⟩) ∨ (∃ x ∈ w.wire, x.kind = 2 ∧ ∃ i, i < x.places.length ∧ x.places.getD i 0 = (p : Int) ∧ sp w p = ⟨x.to_, false, x.ages.getD i 0⟩) := by
  have hm : sp w p ∈ locsP w p := by rw [sp_mem h]; simp
  unfold locsP at hm
  rcases List.mem_append.1 hm with q | q
  · exact .inl (hereL_mem.1 q)
  · exact .inr (wayP_mem.1 q)
structure WdP (w : FerryWorld) : Prop where
  shp : Shp w
  inn : Inn w
  mov : ∀ x ∈ w.wire, MvX w x
  tog : ∀ p, p < w.in_.length → TogX w p
  ent : ∀ m, m < w.entries.length → ∀ p, p < w.in_.length → EntP w m p
  msg : MsgX w
  let_ : ∀ x ∈ w.wire, LetP w x
  hel : ∀ m, m < w.entries.length → ∀ x ∈ heldAt w m, MailX w m x ∧ sp w x.place.toNat = ⟨(m : Int), false, x.age⟩
theorem wdp_iff {w : FerryWorld} : WdP w ↔ Wd w := by
  constructor
  · intro h
    have hage : ∀ p, p < w.in_.length → (sp w p).age ≤ 30 := fun p hp => by
      rcases sp_cases (h.tog p hp).1 with ⟨m, h1, h2, h3⟩ | ⟨x, h1, h2, i, h3, h4, h5⟩
      · rw [h3]
        rcases h.ent m h1 p hp with ⟨_, _, q⟩ | ⟨_, q, _⟩
        · exact q
        · rw [h2] at q; cases q
      · rw [h5]
        rcases h.mov x h1 with q | q | ⟨_, _, _, q⟩
        · omega
        · omega
        · exact (q i h3).2.2.2.2
    have hpur : ∀ x ∈ w.wire, LetX w x := fun x hx => by
      have hl := h.let_ x hx
      obtain ⟨a1, a2, a3, a4, a5, a6⟩ := hl
      rcases h.mov x hx with q | q | ⟨q, q1, q2, q3⟩
      · obtain ⟨b1, b2⟩ := a3 (by omega)
        obtain ⟨_, c1, c2, c3⟩ := a4 q
        refine ⟨a1, a2, .inl ⟨q, c1, c2, c3, b1, b2⟩, fun i hi => ?_, fun z => by omega⟩
        rw [b1] at hi; simp at hi
      · obtain ⟨b1, b2⟩ := a3 (by omega)
        obtain ⟨c1, c2, c3, c4, c5⟩ := a5 q
        refine ⟨a1, a2, .inr (.inr ⟨q, c5, b1, b2⟩), fun i hi => ?_, fun _ => ⟨c2, c3, c1⟩⟩
        rw [b1] at hi; simp at hi
      · obtain ⟨c1, c2, c3, c4⟩ := a6 (by omega) (by omega)
        exact ⟨a1, a2, .inr (.inl ⟨q, c2, c3, c4, c1, q1, q2.symm⟩), q3, fun z => by omega⟩
    refine ⟨⟨h.shp, h.inn, h.msg.1, h.msg.2.1, fun m hm p hp => ?_, hpur⟩, fun p hp => (h.tog p hp).1, fun p hp => (h.tog p hp).2, fun m hm p hp hh => ?_, h.hel, fun x hx hk => ((h.let_ x hx).2.2.2.1 hk).1, fun x hx hk => ((h.let_ x hx).2.2.2.2.1 hk).2.2.2.1, h.msg.2.2⟩
    · rcases h.ent m hm p hp with ⟨e, q1, q2⟩ | ⟨e, q1, q2, q3⟩
      · have e1 : (E w m p).here = true := by rw [e]
        have e2 : (E w m p).to_ = (m : Int) := by rw [e]
        exact ⟨q1, q2, by rw [e2]; omega, by rw [e2]; omega, fun _ => e2, fun _ => e1⟩
      · have := hage p hp
        refine ⟨q3.1, by have := q3.2.1; omega, q3.2.2.1, q3.2.2.2.1, fun z => ?_, fun z => absurd z q2⟩
        rw [q1] at z; cases z
    · rcases h.ent m hm p hp with ⟨e, q1, q2⟩ | ⟨e, q1, q2, q3⟩
      · have e1 : (E w m p).here = true := by rw [e]
        rw [hh] at e1; cases e1
      · exact q3
  · intro h
    refine ⟨h.shr.shp, h.shr.inn, fun x hx => ?_, fun p hp => ⟨h.loc p hp, h.tog p hp⟩, fun m hm p hp => ?_, ⟨h.shr.sd1, h.shr.sd2, h.msg⟩, fun x hx => ?_, h.hel⟩
    · have hl := h.shr.let_ x hx
      rcases hl.pur with ⟨q, _⟩ | ⟨q, _, _, _, _, q1, q2⟩ | ⟨q, _⟩
      · exact .inl q
      · exact .inr (.inr ⟨q, q1, q2.symm, hl.plc⟩)
      · exact .inr (.inl q)
    · obtain ⟨a1, a2, a3, a4, a5⟩ := h.shr.ent m hm p hp
      cases hh : (E w m p).here with
      | true =>
        have h2 := a5.1 hh
        refine .inl ⟨?_, a1, a2⟩
        have : E w m p = ⟨(E w m p).here, (E w m p).to_, (E w m p).age⟩ := rfl
        rw [hh, h2] at this; exact this
      | false =>
        have h2 : (E w m p).to_ ≠ (m : Int) := fun q => by have := a5.2 q; rw [hh] at this; cases this
        refine .inr ⟨fun q => ?_, hh, h2, h.ent m hm p hp hh⟩
        have := congrArg FerryEntry.here q
        rw [hh] at this; cases this
    · have hl := h.shr.let_ x hx
      rcases hl.pur with ⟨q, q1, q2, q3, q4, q5⟩ | ⟨q, q1, q2, q3, q4, q5, q6⟩ | ⟨q, q1, q2, q3⟩
      · exact ⟨hl.to1, hl.to2, fun _ => ⟨q4, q5⟩, fun _ => ⟨h.mai x hx q, q1, q2, q3⟩, fun z => by omega, fun z => absurd q z⟩
      · exact ⟨hl.to1, hl.to2, fun z => absurd q z, fun z => by omega, fun z => by omega, fun _ _ => ⟨q4, q1, q2, q3⟩⟩
      · have := hl.ntd q
        exact ⟨hl.to1, hl.to2, fun _ => ⟨q2, q3⟩, fun z => by omega, fun _ => ⟨this.2.2, this.1, this.2.1, h.ntd x hx q, q1⟩, fun _ z => absurd q z⟩
theorem check_prog {F : Nat} (hF : 200000 ≤ F) (hM : F ≤ 1000000) {w : FerryWorld} (sm : SmN 300 w) : ∃ e, f36L F w = some e ∧ ((e = 0 ∨ e = 2) ∧ (e = 0 ↔ Wd w)) := by
  have sm9 : SmN 900 w := sm.mono (by omega)
  have W3 := sm.wire
  suffices h : ∃ e, f36L F w = some e ∧ ((e = 0 ∨ e = 2) ∧ (e = 0 ↔ WdP w)) by
    obtain ⟨e, h1, h2, h3⟩ := h
    exact ⟨e, h1, h2, h3.trans wdp_iff⟩
  have two : ¬ WdP w → ((2 : Int) = 0 ∨ (2 : Int) = 2) ∧ ((2 : Int) = 0 ↔ WdP w) := fun h => ⟨.inr rfl, fun q => absurd q (by decide), fun q => absurd q h⟩
  unfold f36L
  obtain ⟨b1, e1, i1⟩ := shape_prog (F := F) (by omega) w
  obtain ⟨b2, e2, i2⟩ := moved_prog (F := F) (by omega) sm9
  rw [e1]
  simp only [Option.bind_some]
  cases b1 with
  | false =>
    simp only [Bool.not_false, Bool.not_true, gd_false, Option.bind_some, Bool.true_or, cond_true]
    exact ⟨2, rfl, two fun h => by have := i1.2 ⟨h.shp, h.inn⟩; cases this⟩
  | true =>
    obtain ⟨s, hi⟩ := i1.1 rfl
    have h8 := s.p2; have h5 := s.m2
    rw [e2]
    simp only [Bool.not_true, Bool.not_false, gd_true, Option.bind_some, Bool.false_or]
    cases b2 with
    | false => exact ⟨2, rfl, two fun h => by have := i2.2 h.mov; cases this⟩
    | true =>
      have hmv := i2.1 rfl
      simp only [Bool.not_true, cond_false]
      have hmk : mkL (Spot_.mk 0 false 0) 24 (w.in_.length : Int) (w.in_.length : Int) = some (List.replicate w.in_.length ⟨0, false, 0⟩) := by
        unfold mkL
        rw [decide_eq_true (by omega), decide_eq_true (by omega), Nat.ble_eq_true_of_le (by rw [Int.toNat_natCast]; omega), Int.toNat_natCast]; rfl
      rw [hmk]
      simp only [Option.bind_some]
      obtain ⟨x, e3, i3, j3⟩ := together_prog (F := F) (by omega) hM s hi sm9 (MvX.mvd sm9 hmv)
      rw [e3]
      simp only [Option.bind_some]
      cases hx : x.2 with
      | false =>
        simp only [Bool.not_false, Bool.not_true, gd_false, Option.bind_some, Bool.true_or, cond_true]
        exact ⟨2, rfl, two fun h => by have := i3.2 h.tog; rw [hx] at this; cases this⟩
      | true =>
        have htog := i3.1 hx
        have hx1 := j3 hx
        rw [hx1]
        obtain ⟨b4, e4, i4⟩ := entries_prog (F := F) (by omega) s
        obtain ⟨b5, e5, i5⟩ := messages_prog (F := F) (by omega) sm (spL w)
        rw [e4]
        simp only [Bool.not_true, Bool.not_false, gd_true, Option.bind_some, Bool.false_or]
        cases b4 with
        | false =>
          simp only [Bool.not_false, Bool.not_true, gd_false, Option.bind_some, Bool.true_or, cond_true]
          exact ⟨2, rfl, two fun h => by have := i4.2 h.ent; cases this⟩
        | true =>
          have hent := i4.1 rfl
          rw [e5]
          simp only [Bool.not_true, Bool.not_false, gd_true, Option.bind_some, Bool.false_or]
          cases b5 with
          | false => exact ⟨2, rfl, two fun h => by have := i5.2 h.msg; cases this⟩
          | true =>
            have hmsg := i5.1 rfl
            simp only [Bool.not_true, cond_false]
            refine ex_find 2 (loop F (f36_b1 F w x) 0) (fun k => (k : Int)) rfl (fun k => ∃ h : k < w.wire.length, ¬ LetP w w.wire[k]) (n := w.wire.length) (by omega) (fun k hk => ?_) (fun next => ?_) (fun k hk hc => ?_) (fun hno => ?_)
            · obtain ⟨b, eb, ib⟩ := letter_prog s (x := w.wire[k]) ⟨Nat.le_of_lt (sm9.let_ _ (List.getElem_mem hk)).1, Nat.le_of_lt (sm9.let_ _ (List.getElem_mem hk)).2⟩
              have b0 : ∀ next, f36_b0 F w x (k : Int) next = bif (!b) then some 2 else next ((k + 1 : Nat) : Int) := fun next => by
                unfold f36_b0
                rw [lt_nat_t hk, cond_true, geti_k hk]
                simp only [Option.bind_some]
                rw [hx1, eb]
                simp only [Option.bind_some]
                rw [w64s (by omega)]
              by_cases hl : LetP w w.wire[k]
              · refine .inr ⟨fun next => ?_, fun ⟨_, q⟩ => q hl⟩
                rw [b0, ib.2 hl]; rfl
              · refine .inl ⟨fun next => ?_, hk, hl⟩
                have : b = false := by cases b; · rfl
                                       · exact absurd (ib.1 rfl) hl
                rw [b0, this]; rfl
            · unfold f36_b0
              rw [lt_nat_f]; rfl
            · obtain ⟨h, q⟩ := hc
              exact two fun z => q (z.let_ _ (List.getElem_mem h))
            have hlet : ∀ x ∈ w.wire, LetP w x := fun y hy => by
              obtain ⟨k, hk, rfl⟩ := List.getElem_of_mem hy
              exact Classical.byContradiction fun q => hno k hk ⟨hk, q⟩
            have hmeq : w.held.length = w.entries.length := s.hd
            refine ex_find 2 (some 0) (fun k => (k : Int)) rfl (fun m => ¬ ∀ x ∈ heldAt w m, MailX w m x ∧ sp w x.place.toNat = ⟨(m : Int), false, x.age⟩) (n := w.held.length) (by omega) (fun m hm => ?_) (fun next => ?_) (fun k hk hc => ?_) (fun hno => ⟨0, rfl, ?_⟩)
            · have hgm : geti w.held (m : Int) = some (heldAt w m) := geti_d [] hm
              have hlen : (heldAt w m).length < 300 := sm.hel _ (getD_mem hm)
              have b0 : ∀ next, f36_b1 F w x (m : Int) next = loop F (f36_b2 x (m : Int) next (heldAt w m)) 0 := fun next => by
                unfold f36_b1
                rw [lt_nat_t hm, cond_true, hgm]; rfl
              have step : ∀ (next : Int → Option Int) (j : Nat) (hj : j < (heldAt w m).length), ∀ nx, f36_b2 x (m : Int) next (heldAt w m) (j : Int) nx = open Classical in if MailX w m (heldAt w m)[j] ∧ sp w (heldAt w m)[j].place.toNat = ⟨(m : Int), false, (heldAt w m)[j].age⟩ then nx ((j + 1 : Nat) : Int) else some 2 := fun next j hj nx => by
                obtain ⟨b, eb, ib⟩ := mail_prog s (m : Int) (heldAt w m)[j]
                unfold f36_b2
                rw [lt_nat_t hj, cond_true, geti_k hj]
                simp only [Option.bind_some]
                rw [hx1, eb]
                simp only [Option.bind_some]
                by_cases hml : MailX w m (heldAt w m)[j]
                · rw [ib.2 hml]
                  simp only [Bool.not_true, Bool.not_false, gd_true]
                  obtain ⟨p, hp⟩ : ∃ p : Nat, (heldAt w m)[j].place = (p : Int) := ⟨(heldAt w m)[j].place.toNat, by have := hml.1; omega⟩
                  have hpl : p < w.in_.length := by have := hml.2.1; omega
                  rw [hp, spL_get hpl]
                  simp only [Option.bind_some, Int.toNat_natCast, Bool.false_or]
                  by_cases hs : sp w p = ⟨(m : Int), false, (heldAt w m)[j].age⟩
                  · rw [if_pos ⟨hml, hs⟩, (eqSpot_iff _ _).2 hs, Bool.not_true, cond_false, w64s (by omega)]
                  · have : eqSpot_ (sp w p) ⟨(m : Int), false, (heldAt w m)[j].age⟩ = false := by rw [← Bool.not_eq_true, eqSpot_iff]; exact hs
                    rw [if_neg (fun q => hs q.2), this]; rfl
                · have : b = false := by cases b; · rfl
                                         · exact absurd (ib.1 rfl) hml
                  rw [this, if_neg (fun q => hml q.1)]; rfl
              by_cases hall : ∀ x ∈ heldAt w m, MailX w m x ∧ sp w x.place.toNat = ⟨(m : Int), false, x.age⟩
              · refine .inr ⟨fun next => ?_, fun q => q hall⟩
                rw [b0]
                refine loop_tr (fun p => (p : Int)) rfl (n := (heldAt w m).length) (by omega) (fun j hj nx => ?_) (fun nx => ?_)
                · rw [step next j hj nx, if_pos (hall _ (List.getElem_mem hj))]
                · unfold f36_b2
                  rw [lt_nat_f, cond_false, w64s (by omega)]
              · refine .inl ⟨fun next => ?_, hall⟩
                have hz : ∃ j, ∃ hj : j < (heldAt w m).length, ¬ (MailX w m (heldAt w m)[j] ∧ sp w (heldAt w m)[j].place.toNat = ⟨(m : Int), false, (heldAt w m)[j].age⟩) := Classical.byContradiction fun q => hall fun y hy => by
                  obtain ⟨j, hj, rfl⟩ := List.getElem_of_mem hy
                  exact Classical.byContradiction fun q2 => q ⟨j, hj, q2⟩
                obtain ⟨j0, hj0⟩ := hz
                obtain ⟨j1, _, ⟨hj1, hb1⟩, hlt⟩ := first_of (c := fun j => ∃ hj : j < (heldAt w m).length, ¬ (MailX w m (heldAt w m)[j] ∧ sp w (heldAt w m)[j].place.toNat = ⟨(m : Int), false, (heldAt w m)[j].age⟩)) hj0
                rw [b0]
                refine loop_tr (fun p => (p : Int)) rfl (n := j1) (by omega) (fun j hj nx => ?_) (fun nx => ?_)
                · rw [step next j (by omega) nx, if_pos (Classical.byContradiction fun q => hlt j hj ⟨by omega, q⟩)]
                · rw [step next j1 hj1 nx, if_neg hb1]
            · unfold f36_b1
              rw [lt_nat_f]; rfl
            · exact two fun z => hc (z.hel k (by omega))
            · exact ⟨.inl rfl, fun _ => ⟨s, hi, hmv, htog, hent, hmsg, hlet, fun m hm => Classical.byContradiction (hno m (by omega))⟩, fun _ => rfl⟩
end Go.Proofs.YtbmbbcaaimehkaaGreat
end
section
set_option linter.unusedVariables false
set_option linter.unusedSimpArgs false
namespace Go.Proofs.YtbmbbcaaimehkaaGreat
open Go.Lf
def spR (w : FerryWorld) (p : Nat) : Spot := lastR (locsR w p)
theorem spR_S {w : FerryWorld} (h : ∀ x ∈ w.wire, x.kind = 2 ∨ x.places = []) (p : Nat) : toS (spR w p) = sp w p := last_eq h p
theorem right_ref {w : FerryWorld} (s : Shp w) (h2 : ∀ x ∈ w.wire, x.kind = 2 ∨ x.places = []) {p : Nat} (hp : p < w.in_.length) (m a : Int) : f53L w (p : Int) (spR w p) m a = some (decide (RtX w p m a)) := by
  have e1 : (spR w p).age = (sp w p).age := by rw [← spR_S h2]; rfl
  have e2 : (spR w p).at_ = (sp w p).machine := by rw [← spR_S h2]; rfl
  unfold f53L
  rw [e1, e2]
  by_cases h1 : 0 ≤ a ∧ a ≤ (sp w p).age ∧ 0 ≤ m ∧ m < (w.entries.length : Int)
  · obtain ⟨a1, a2, a3, a4⟩ := h1
    rw [decide_eq_false (show ¬ m < 0 by omega), decide_eq_false (show ¬ m ≥ (w.entries.length : Int) by omega), decide_eq_false (show ¬ a < 0 by omega), decide_eq_false (show ¬ a > (sp w p).age by omega)]
    simp only [Bool.or_self, cond_false]
    by_cases h3 : a = (sp w p).age
    · rw [beq_dec, decide_eq_true h3, cond_true, beq_dec]
      congr 1
      by_cases h4 : m = (sp w p).machine
      · rw [decide_eq_true h4.symm, decide_eq_true (show RtX w p m a from ⟨a1, a2, a3, a4, fun _ => h4, fun q => absurd h3 q⟩)]
      · rw [decide_eq_false (fun q => h4 q.symm), decide_eq_false (fun q : RtX w p m a => h4 (q.2.2.2.2.1 h3))]
    · obtain ⟨k, rfl⟩ : ∃ k : Nat, m = (k : Int) := ⟨m.toNat, by omega⟩
      rw [beq_dec, decide_eq_false h3, cond_false, s.row (by omega)]
      simp only [Option.bind_some]
      rw [s.ent (by omega) hp]
      simp only [Option.bind_some]
      congr 1
      by_cases h4 : (E w k p).age > a
      · rw [decide_eq_true h4, decide_eq_true (show RtX w p (k : Int) a from ⟨a1, a2, a3, a4, fun q => absurd q h3, fun _ => h4⟩)]
      · rw [decide_eq_false h4, decide_eq_false (fun q : RtX w p (k : Int) a => h4 (q.2.2.2.2.2 h3))]
  · have : (decide (m < 0) || decide (m ≥ (w.entries.length : Int)) || decide (a < 0) || decide (a > (sp w p).age)) = true := by
      rw [← Bool.not_eq_false]; intro z; simp only [Bool.or_eq_false_iff, decide_eq_false_iff_not] at z; exact h1 ⟨by omega, by omega, by omega, by omega⟩
    rw [this, decide_eq_false (fun q : RtX w p m a => h1 ⟨q.1, q.2.1, q.2.2.1, q.2.2.2.1⟩)]; rfl
def spRL (w : FerryWorld) : List Spot := (List.range w.in_.length).map (spR w)
theorem spRL_get {w : FerryWorld} {p : Nat} (hp : p < w.in_.length) : geti (spRL w) (p : Int) = some (spR w p) := by
  rw [geti_d default (by simp [spRL]; exact hp)]
  simp [spRL, hp]
theorem w64_30 {a : Int} (h1 : 0 ≤ a) (h2 : a ≤ 30) : w64 (a + 1) = a + 1 := w64_id (by omega) (by omega)
def MailR (w : FerryWorld) (m : Int) (y : FerryMail) (waits : Bool) : Prop := 0 ≤ y.place ∧ y.place < (w.in_.length : Int) ∧ 0 ≤ y.from_ ∧ y.from_ < (w.entries.length : Int) ∧ 0 ≤ y.age ∧ y.age ≤ 30 ∧ 1 ≤ y.hops ∧ y.hops ≤ y.age + 1 ∧
  (waits = true → sp w y.place.toNat = ⟨m, false, y.age⟩) ∧ (waits = false → RtX w y.place.toNat m y.age)
theorem mail_ref {w : FerryWorld} (s : Shp w) (h2 : ∀ x ∈ w.wire, x.kind = 2 ∨ x.places = []) (m : Int) (y : FerryMail) (wt : Bool) : ∃ b, f54L w (spRL w) y m wt = some b ∧ (b = true ↔ MailR w m y wt) := by
  unfold f54L
  refine ex_cond (fun hc => ⟨false, rfl, ?_⟩) (fun hc => ?_)
  · simp only [Bool.false_eq_true, false_iff]
    rintro ⟨a1, a2, a3, a4, a5, a6, a7, a8, _⟩
    rw [w64_30 a5 a6] at hc
    simp only [Bool.or_eq_true, decide_eq_true_eq] at hc; omega
  · simp only [Bool.or_eq_false_iff, decide_eq_false_iff_not] at hc
    obtain ⟨⟨⟨⟨⟨⟨⟨a1, a2⟩, a3⟩, a4⟩, a5⟩, a6⟩, a7⟩, a8⟩ := hc
    rw [w64_30 (by omega) (by omega)] at a8
    obtain ⟨p, hp⟩ : ∃ p : Nat, y.place = (p : Int) := ⟨y.place.toNat, by omega⟩
    have hpl : p < w.in_.length := by omega
    rw [hp, spRL_get hpl]
    simp only [Option.bind_some]
    have es := spR_S h2 p
    refine ex_cond (fun hw => ⟨_, rfl, ?_⟩) (fun hw => ?_)
    · simp only [Bool.and_eq_true, Bool.not_eq_true', beq_iff_eq]
      unfold MailR
      rw [hp, Int.toNat_natCast, ← es]
      unfold toS
      rw [Spot_.mk.injEq]
      constructor
      · rintro ⟨⟨b1, b2⟩, b3⟩
        exact ⟨by omega, by omega, by omega, by omega, by omega, by omega, by omega, by omega, fun _ => ⟨b2, b1, b3⟩, fun q => (by rw [hw] at q; cases q)⟩
      · rintro ⟨_, _, _, _, _, _, _, _, b, _⟩
        obtain ⟨b1, b2, b3⟩ := b hw
        exact ⟨⟨b2, b1⟩, b3⟩
    · rw [right_ref s h2 hpl]
      refine ⟨_, rfl, ?_⟩
      rw [decide_eq_true_eq]
      unfold MailR
      rw [hp, Int.toNat_natCast]
      constructor
      · intro h
        exact ⟨by omega, by omega, by omega, by omega, by omega, by omega, by omega, by omega, fun q => (by rw [hw] at q; cases q), fun _ => h⟩
      · rintro ⟨_, _, _, _, _, _, _, _, _, b⟩
        exact b hw
theorem locsR_one {w : FerryWorld} {p : Nat} (h : (locsR w p).length = 1) : locsR w p = [spR w p] := by
  obtain ⟨x, e⟩ := List.length_eq_one_iff.1 h
  unfold spR lastR
  rw [e]; rfl
theorem wayRs_mem {w : FerryWorld} {p k : Nat} {r : Spot} : r ∈ wayRs w p k ↔ ∃ j, j < k ∧ ∃ s ∈ wayX (letN w j) p (letN w j).places.length, r = wayR j s := by
  unfold wayRs
  rw [List.mem_flatMap]
  constructor
  · rintro ⟨j, h1, h2⟩
    obtain ⟨s, h3, h4⟩ := List.mem_map.1 h2
    exact ⟨j, List.mem_range.1 h1, s, h3, h4.symm⟩
  · rintro ⟨j, h1, s, h2, h3⟩
    exact ⟨j, List.mem_range.2 h1, List.mem_map.2 ⟨s, h2, h3.symm⟩⟩
theorem spR_cases {w : FerryWorld} {p : Nat} (h : (locsR w p).length = 1) : ((spR w p).is = true ∧ (spR w p).letter = -1) ∨ ((spR w p).is = false ∧ ∃ k, k < w.wire.length ∧ (spR w p).letter = (k : Int) ∧ (p : Int) ∈ (letN w k).places) := by
  have hm : spR w p ∈ locsR w p := by rw [locsR_one h]; simp
  unfold locsR at hm
  rcases List.mem_append.1 hm with q | q
  · obtain ⟨s, h1, h2⟩ := List.mem_map.1 q
    rw [← h2]; exact .inl ⟨rfl, rfl⟩
  · obtain ⟨k, h1, s, h2, h3⟩ := wayRs_mem.1 q
    obtain ⟨i, h4, h5, _⟩ := wayX_mem.1 h2
    rw [h3]
    exact .inr ⟨rfl, k, h1, rfl, by rw [← h5]; exact getD_mem h4⟩
theorem spR_only {w : FerryWorld} {p : Nat} (h : (locsR w p).length = 1) {k : Nat} (hk : k < w.wire.length) (hp : (p : Int) ∈ (letN w k).places) : (spR w p).letter = (k : Int) := by
  obtain ⟨i, hi, e⟩ := List.getElem_of_mem hp
  have e2 : (letN w k).places.getD i 0 = (p : Int) := by rw [List.getD_eq_getElem?_getD, List.getElem?_eq_getElem hi]; exact e
  have hm : wayR k ⟨(letN w k).to_, false, (letN w k).ages.getD i 0⟩ ∈ locsR w p := by
    unfold locsR
    exact List.mem_append_right _ (wayRs_mem.2 ⟨k, hk, _, wayX_mem.2 ⟨i, hi, e2, rfl⟩, rfl⟩)
  rw [locsR_one h] at hm
  rw [← List.mem_singleton.1 hm]; rfl
theorem same_letter {w : FerryWorld} (h2 : ∀ x ∈ w.wire, x.kind = 2 ∨ x.places = []) {p q : Nat} (hp : (locsR w p).length = 1) (hq : (locsR w q).length = 1) (e : (spR w p).is = (spR w q).is) :
    (spR w p).letter = (spR w q).letter ↔ ((spR w p).is = false → SameL w p q) := by
  rcases spR_cases hp with ⟨a1, a2⟩ | ⟨a1, k, hk, a2, a3⟩
  · rcases spR_cases hq with ⟨b1, b2⟩ | ⟨b1, j, hj, b2, b3⟩
    · rw [a1, a2, b2]; simp
    · rw [a1, b1] at e; cases e
  · rcases spR_cases hq with ⟨b1, b2⟩ | ⟨b1, j, hj, b2, b3⟩
    · rw [a1, b1] at e; cases e
    · have kd : ∀ i, i < w.wire.length → ∀ x : Int, x ∈ (letN w i).places → (letN w i).kind = 2 := fun i hi x hx => by
        rcases h2 (letN w i) (getD_mem hi) with z | z
        · exact z
        · rw [z] at hx; cases hx
      constructor
      · intro h _
        rw [a2, b2] at h
        have : k = j := by omega
        subst this
        exact ⟨letN w k, getD_mem hk, kd k hk _ a3, a3, b3⟩
      · intro h
        obtain ⟨x, hx, _, h3, h4⟩ := h a1
        obtain ⟨i, hi, rfl⟩ := List.getElem_of_mem hx
        have ei : w.wire[i] = letN w i := by unfold letN; rw [List.getD_eq_getElem?_getD, List.getElem?_eq_getElem hi]; rfl
        rw [ei] at h3 h4
        rw [spR_only hp hi h3, spR_only hq hi h4]
theorem messages_ref {F : Nat} (hF : 200000 ≤ F) {w : FerryWorld} (sm : SmN 300 w) : f55L F w = some (msgs w) := by
  obtain ⟨B1, B2, B3⟩ := BdM.of sm
  have W1 := sm.boxes; have W2 := sm.held; have W3 := sm.wire
  have h3 : loop F (f55_b3 w) (w.boxes.flatten ++ heldM w.held, 0) = some (msgs w) := by
    refine loop_tr (fun k => (w.boxes.flatten ++ heldM w.held ++ mailed (w.wire.take k), (k : Int))) (by simp [mailed]) (n := w.wire.length) (by omega) (fun k hk next => ?_) (fun next => ?_)
    · have hm := take_mailed_le w.wire k
      have hll : (w.boxes.flatten ++ heldM w.held ++ mailed (w.wire.take k)).length ≤ 180300 := by rw [List.length_append, List.length_append]; omega
      rw [mailed_take hk]
      unfold f55_b3
      dsimp only
      rw [lt_nat_t hk, cond_true, geti_k hk]
      simp only [Option.bind_some]
      rw [beq_dec, cond_dec]
      unfold f55_j0
      by_cases h1 : w.wire[k].kind = 1
      · rw [if_pos h1, if_pos h1, app8 (by rw [List.length_singleton]; omega)]
        simp only [Option.bind_some]
        rw [w64s (by omega), ← List.append_assoc]
      · rw [if_neg h1, if_neg h1, w64s (by omega), List.append_nil]
    · unfold f55_b3
      dsimp only
      rw [lt_nat_f, cond_false, List.take_of_length_le (Nat.le_refl _)]; rfl
  have h1 : loop F (f55_b1 F w) (w.boxes.flatten, 0) = some (msgs w) := by
    refine loop_tr (fun k => (w.boxes.flatten ++ heldM (w.held.take k), (k : Int))) (by simp [heldM]) (n := w.held.length) (by omega) (fun k hk next => ?_) (fun next => ?_)
    · have hm := take_heldM_le w.held k
      have hm2 := take_heldM_le w.held (k + 1)
      have hrow := sm.hel _ (List.getElem_mem hk)
      rw [heldM_take hk] at hm2
      rw [heldM_take hk]
      rw [List.length_append, List.length_map] at hm2
      unfold f55_b1
      dsimp only
      rw [lt_nat_t hk, cond_true, geti_k hk]
      simp only [Option.bind_some]
      refine loop_tr (fun j => (w.boxes.flatten ++ heldM (w.held.take k) ++ (w.held[k].take j).map (fun y => y.msg), (j : Int))) (by simp) (n := w.held[k].length) (by omega) (fun j hj nx => ?_) (fun nx => ?_)
      · unfold f55_b2
        dsimp only
        rw [lt_nat_t hj, cond_true, geti_k hj]
        simp only [Option.bind_some]
        rw [app8 (by rw [List.length_append, List.length_append, List.length_map, List.length_take, List.length_singleton]; omega)]
        simp only [Option.bind_some]
        rw [w64s (by omega), List.take_add_one, List.getElem?_eq_getElem hj, List.map_append]
        simp
      · unfold f55_b2
        dsimp only
        rw [lt_nat_f, cond_false, List.take_of_length_le (Nat.le_refl _), w64s (by omega), List.append_assoc]
    · unfold f55_b1
      dsimp only
      rw [lt_nat_f, cond_false, List.take_of_length_le (Nat.le_refl _)]; exact h3
  unfold f55L
  refine loop_tr (fun k => ((w.boxes.take k).flatten, (k : Int))) (by simp) (n := w.boxes.length) (by omega) (fun k hk next => ?_) (fun next => ?_)
  · have hm := take_flat_le w.boxes k
    have hm2 := take_flat_le w.boxes (k + 1)
    rw [flat_take hk, List.length_append] at hm2
    rw [flat_take hk]
    unfold f55_b0
    dsimp only
    rw [lt_nat_t hk, cond_true, geti_k hk]
    simp only [Option.bind_some]
    rw [app8 (by omega)]
    simp only [Option.bind_some]
    rw [w64s (by omega)]
  · unfold f55_b0
    dsimp only
    rw [lt_nat_f, cond_false, List.take_of_length_le (Nat.le_refl _)]; exact h1
def seenL (n : Nat) (l : List Int) : List Bool := (List.range n).map fun i : Nat => decide (((i : Nat) : Int) ∈ l)
theorem seenL_get {n : Nat} {l : List Int} {x : Int} (h0 : 0 ≤ x) (h1 : x < (n : Int)) : geti (seenL n l) x = some (decide (x ∈ l)) := by
  obtain ⟨k, rfl⟩ : ∃ k : Nat, x = (k : Int) := ⟨x.toNat, by omega⟩
  rw [geti_d default (by simp [seenL]; omega)]
  simp [seenL, show k < n by omega]
theorem seenL_set {n : Nat} {l : List Int} {x : Int} (h0 : 0 ≤ x) (h1 : x < (n : Int)) : seti (seenL n l) x true = seenL n (l ++ [x]) := by
  obtain ⟨k, rfl⟩ : ∃ k : Nat, x = (k : Int) := ⟨x.toNat, by omega⟩
  unfold seti seenL
  rw [Int.toNat_natCast]
  apply List.ext_getElem?
  intro i
  rw [List.getElem?_set]
  by_cases hi : i < n
  · by_cases e : k = i
    · subst e
      rw [if_pos rfl]
      simp [hi]
    · rw [if_neg e]
      have : ((i : Int) = (k : Int)) ↔ False := ⟨fun q => e (by omega), False.elim⟩
      simp [hi, this]
  · by_cases e : k = i
    · subst e; omega
    · rw [if_neg e]
      simp [hi]
theorem nodup_take {α : Type} {l : List α} : l.Nodup ↔ ∀ k (h : k < l.length), l[k] ∉ l.take k := by
  constructor
  · intro hn k hk hm
    obtain ⟨j, hj, e⟩ := List.getElem_of_mem hm
    rw [List.length_take] at hj
    rw [List.getElem_take] at e
    have := (List.getElem_inj hn).1 e
    omega
  · intro h
    rw [List.nodup_iff_pairwise_ne] <;> skip
    rw [List.pairwise_iff_getElem]
    intro i j hi hj hij e
    exact h j hj (by rw [← e]; exact List.mem_take_iff_getElem.2 ⟨i, by omega, rfl⟩)
theorem perm_range_iff {l : List Int} {n : Nat} : l.Perm (rangeI n) ↔ l.Nodup ∧ (∀ x ∈ l, 0 ≤ x ∧ x < (n : Int)) ∧ l.length = n := by
  have hn : (rangeI n).Nodup := by
    unfold rangeI
    exact List.Pairwise.map _ (fun a b h q => h (by have : ((a : Nat) : Int) = ((b : Nat) : Int) := q; omega)) List.nodup_range
  constructor
  · intro h
    refine ⟨h.nodup_iff.2 hn, fun x hx => ?_, by rw [h.length_eq, rangeI_len]⟩
    have := h.mem_iff.1 hx
    unfold rangeI at this
    obtain ⟨k, hk, rfl⟩ := List.mem_map.1 this
    have := List.mem_range.1 hk
    exact ⟨by show (0 : Int) ≤ (k : Int); omega, by show (k : Int) < _; omega⟩
  · rintro ⟨h1, h2, h3⟩
    have hsub : l ⊆ rangeI n := fun x hx => by
      obtain ⟨a, b⟩ := h2 x hx
      unfold rangeI
      exact List.mem_map.2 ⟨x.toNat, List.mem_range.2 (by omega), by show ((x.toNat : Nat) : Int) = x; omega⟩
    have hsub2 : rangeI n ⊆ l := fun x hx => by
      apply Classical.byContradiction
      intro hx2
      have := (List.nodup_cons.2 ⟨hx2, h1⟩).length_le_of_subset (l₂ := rangeI n) (fun y hy => by
        rcases List.mem_cons.1 hy with z | z
        · rw [z]; exact hx
        · exact hsub z)
      rw [List.length_cons, rangeI_len] at this; omega
    exact (List.perm_ext_iff_of_nodup h1 hn).2 fun a => ⟨fun h => hsub h, fun h => hsub2 h⟩
theorem seen_ref {F : Nat} (hF : 200000 ≤ F) {w : FerryWorld} (h0 : 0 ≤ w.said) {l : List Int} (hl : l.length ≤ 190000) : ∃ b, loop F (f21_b7 w l) (0, List.replicate w.said.toNat false) = some b ∧ (b = true ↔ l.Perm (rangeI w.said.toNat)) := by
  rw [perm_range_iff]
  refine ex_find false (some ((l.length : Int) == w.said)) (fun k => ((k : Int), seenL w.said.toNat (l.take k))) (by
      simp only [List.take_zero]
      congr 1
      unfold seenL
      apply List.ext_getElem?
      intro i
      by_cases hi : i < w.said.toNat <;> simp [hi]) (fun k => ∃ h : k < l.length, ¬ (0 ≤ l[k] ∧ l[k] < w.said ∧ l[k] ∉ l.take k)) (n := l.length) (by omega) (fun k hk => ?_) (fun next => ?_) (fun k hk hc => ?_) (fun hno => ⟨_, rfl, ?_⟩)
  · by_cases hr : 0 ≤ l[k] ∧ l[k] < w.said
    · have hr2 : l[k] < (w.said.toNat : Int) := by omega
      have b0 : ∀ next, f21_b7 w l ((k : Int), seenL w.said.toNat (l.take k)) next = bif decide (l[k] ∈ l.take k) then some false else next (((k + 1 : Nat) : Int), seenL w.said.toNat (l.take (k + 1))) := fun next => by
        unfold f21_b7
        dsimp only
        rw [lt_nat_t hk, cond_true, geti_k hk]
        simp only [Option.bind_some]
        rw [decide_eq_false (show ¬ l[k] < 0 by omega), decide_eq_false (show ¬ l[k] ≥ w.said by omega)]
        simp only [Bool.or_self, Bool.not_false, gd_true]
        rw [seenL_get hr.1 hr2]
        simp only [Option.bind_some, Bool.false_or]
        rw [seenL_set hr.1 hr2, w64s (by omega), List.take_add_one, List.getElem?_eq_getElem hk]; rfl
      by_cases hs : l[k] ∈ l.take k
      · refine .inl ⟨fun next => ?_, hk, fun q => q.2.2 hs⟩
        rw [b0, decide_eq_true hs]; rfl
      · refine .inr ⟨fun next => ?_, fun ⟨_, q⟩ => q ⟨hr.1, hr.2, hs⟩⟩
        rw [b0, decide_eq_false hs]; rfl
    · refine .inl ⟨fun next => ?_, hk, fun q => hr ⟨q.1, q.2.1⟩⟩
      unfold f21_b7
      dsimp only
      rw [lt_nat_t hk, cond_true, geti_k hk]
      simp only [Option.bind_some]
      have : (decide (l[k] < 0) || decide (l[k] ≥ w.said)) = true := by
        rw [← Bool.not_eq_false]; intro z; simp only [Bool.or_eq_false_iff, decide_eq_false_iff_not] at z; exact hr ⟨by omega, by omega⟩
      rw [this]; rfl
  · unfold f21_b7
    dsimp only
    rw [lt_nat_f]; rfl
  · obtain ⟨h, q⟩ := hc
    simp only [Bool.false_eq_true, false_iff]
    rintro ⟨n1, n2, _⟩
    have := n2 _ (List.getElem_mem h)
    exact q ⟨this.1, by omega, nodup_take.1 n1 k h⟩
  · have hall : ∀ k (h : k < l.length), 0 ≤ l[k] ∧ l[k] < w.said ∧ l[k] ∉ l.take k := fun k h => Classical.byContradiction fun q => hno k h ⟨h, q⟩
    rw [beq_iff_eq]
    constructor
    · intro h
      refine ⟨nodup_take.2 fun k hk => (hall k hk).2.2, fun x hx => ?_, by omega⟩
      obtain ⟨k, hk, rfl⟩ := List.getElem_of_mem hx
      have := hall k hk
      exact ⟨this.1, by omega⟩
    · rintro ⟨_, _, h⟩; omega
end Go.Proofs.YtbmbbcaaimehkaaGreat
end
section
set_option linter.unusedVariables false
set_option linter.unusedSimpArgs false
namespace Go.Proofs.YtbmbbcaaimehkaaGreat
open Go.Lf
noncomputable def ifc {α : Sort _} (c : Prop) (a b : α) : α := @ite α c (Classical.propDecidable c) a b
theorem ifc_pos {α : Sort _} {c : Prop} (h : c) {a b : α} : ifc c a b = a := by unfold ifc; exact if_pos h
theorem ifc_neg {α : Sort _} {c : Prop} (h : ¬ c) {a b : α} : ifc c a b = b := by unfold ifc; exact if_neg h
theorem loop_if {β γ : Type} {body : γ → (γ → Option β) → Option β} {r1 r2 : Option β} {s0 : γ} (S : Nat → γ) (h0 : S 0 = s0) (c : Nat → Prop) {n F : Nat} (hF : n < F)
    (hb : ∀ k, k < n → ∀ next, body (S k) next = ifc (c k) (next (S (k + 1))) r1) (he : ∀ next, body (S n) next = r2) : loop F body s0 = ifc (∀ k, k < n → c k) r2 r1 := by
  by_cases hall : ∀ k, k < n → c k
  · rw [ifc_pos hall]
    exact loop_tr S h0 hF (fun k hk next => by rw [hb k hk, ifc_pos (hall k hk)]) he
  · rw [ifc_neg hall]
    have hz : ∃ k, k < n ∧ ¬ c k := Classical.byContradiction fun q => hall fun p hp => Classical.byContradiction fun q2 => q ⟨p, hp, q2⟩
    obtain ⟨k0, hk0⟩ := hz
    obtain ⟨m, _, hm, hlt⟩ := first_of (c := fun k => k < n ∧ ¬ c k) hk0
    exact loop_tr S h0 (n := m) (by omega) (fun k hk next => by rw [hb k (by omega), ifc_pos (Classical.byContradiction fun q => hlt k hk ⟨by omega, q⟩)]) (fun next => by rw [hb m hm.1, ifc_neg hm.2])
theorem mkL_ok {α : Type} {z : α} {c : Nat} {a : Int} (h0 : 0 ≤ a) (h : c * a.toNat ≤ 100000) : mkL z c a a = some (List.replicate a.toNat z) := by
  unfold mkL
  have e : Nat.ble (c * a.toNat) 100000 = true := by rw [Nat.ble_eq]; exact h
  rw [decide_eq_true h0, decide_eq_true (show a ≤ a by omega), e]; rfl
theorem not_if {c : Prop} {b : Bool} (h : b = true ↔ c) {β : Type} (x y : β) : (bif !b then x else y) = ifc c y x := by
  cases b with
  | true => rw [ifc_pos (h.1 rfl)]; rfl
  | false => rw [ifc_neg (fun q => by have := h.2 q; cases this)]; rfl
def TogR (w : FerryWorld) (p : Nat) : Prop := 0 ≤ inn w p → (spR w p).is = (spR w (inn w p).toNat).is ∧ (spR w p).at_ = (spR w (inn w p).toNat).at_ ∧ (spR w p).letter = (spR w (inn w p).toNat).letter
def EntR (w : FerryWorld) (m p : Nat) : Prop := (E w m p).here = false → RtX w p (E w m p).to_ (E w m p).age
def WirR (w : FerryWorld) (x : FerryLetter) : Prop := (x.kind = 1 → MailR w x.to_ x.mail false) ∧ (x.kind = 3 → RtX w x.place.toNat x.at_ x.age)
section
variable {F : Nat} {w : FerryWorld}
theorem ref_wire (hF : 200000 ≤ F) (sm : SmN 300 w) (h : ShR w) : loop F (f21_b6 F w (spRL w)) 0 = ifc (∀ k, k < w.wire.length → WirR w (letN w k)) (some (decide ((msgs w).Perm (rangeI w.said.toNat)))) (some false) := by
  have W3 := sm.wire
  have s := h.shp
  refine loop_if (fun k => (k : Int)) rfl (fun k => WirR w (letN w k)) (n := w.wire.length) (by omega) (fun k hk next => ?_) (fun next => ?_)
  · have hl := h.let_ (letN w k) (getD_mem hk)
    unfold f21_b6
    rw [lt_nat_t hk, cond_true, geti_d default hk]
    simp only [Option.bind_some]
    change (gd ((letN w k).kind == 1) (f54L w (spRL w) (letN w k).mail (letN w k).to_ false) default).bind (fun x155 => (gd ((!(((letN w k).kind == 1) && (!x155))) && ((letN w k).kind == 3)) (geti (spRL w) (letN w k).place) default).bind fun x156 => (gd ((!(((letN w k).kind == 1) && (!x155))) && ((letN w k).kind == 3)) (f53L w (letN w k).place x156 (letN w k).at_ (letN w k).age) default).bind fun x159 => (bif ((((letN w k).kind == 1) && (!x155)) || (((letN w k).kind == 3) && (!x159))) then some false else next (w64 ((k : Int) + 1)))) = _
    rw [w64s (by omega)]
    generalize letN w k = x at hl ⊢
    by_cases k1 : x.kind = 1
    · obtain ⟨b, e, i⟩ := mail_ref s h.two x.to_ x.mail false
      have k3 : (x.kind == 3) = false := by rw [beq_eq_false_iff_ne]; omega
      rw [show (x.kind == 1) = true from beq_iff_eq.2 k1, k3, gd_true, e]
      simp only [Option.bind_some, Bool.true_and, Bool.and_false, gd_false, Bool.false_and, Bool.or_false]
      have hi : b = true ↔ WirR w x := i.trans ⟨fun q => ⟨fun _ => q, fun q2 => by omega⟩, fun q => q.1 k1⟩
      exact not_if hi _ _
    · rw [show (x.kind == 1) = false from beq_eq_false_iff_ne.2 k1, gd_false]
      simp only [Option.bind_some, Bool.false_and, Bool.not_false, Bool.true_and, Bool.false_or]
      by_cases k3 : x.kind = 3
      · obtain ⟨n1, n2, n3⟩ := hl.ntd k3
        obtain ⟨p, hp⟩ : ∃ p : Nat, x.place = (p : Int) := ⟨x.place.toNat, by omega⟩
        have hpl : p < w.in_.length := by omega
        rw [show (x.kind == 3) = true from beq_iff_eq.2 k3, gd_true, hp, spRL_get hpl]
        simp only [Option.bind_some, gd_true]
        rw [right_ref s h.two hpl]
        simp only [Option.bind_some, Bool.true_and]
        have hi : decide (RtX w p x.at_ x.age) = true ↔ WirR w x := by
          rw [decide_eq_true_eq]
          unfold WirR
          rw [hp, Int.toNat_natCast]
          exact ⟨fun q => ⟨fun q2 => absurd q2 k1, fun _ => q⟩, fun q => q.2 k3⟩
        exact not_if hi _ _
      · rw [show (x.kind == 3) = false from beq_eq_false_iff_ne.2 k3, gd_false]
        simp only [Option.bind_some, gd_false, Bool.false_and, cond_false]
        rw [ifc_pos (show WirR w x from ⟨fun q => absurd q k1, fun q => absurd q k3⟩)]
  · unfold f21_b6
    rw [lt_nat_f, cond_false, messages_ref hF sm]
    simp only [Option.bind_some]
    have h1 := h.sd1; have h2 := h.sd2
    rw [mkL_ok h1 (by omega)]
    simp only [Option.bind_some]
    have hm : (msgs w).length ≤ 180300 := by
      obtain ⟨B1, B2, B3⟩ := BdM.of sm
      unfold msgs; rw [List.length_append, List.length_append]; omega
    obtain ⟨b, e, i⟩ := seen_ref hF h.sd1 (l := msgs w) (by omega)
    rw [e]
    congr 1
    by_cases hq : (msgs w).Perm (rangeI w.said.toNat)
    · rw [decide_eq_true hq]; exact i.2 hq
    · rw [decide_eq_false hq, ← Bool.not_eq_true, i]; exact hq
theorem ref_held (hF : 200000 ≤ F) (sm : SmN 300 w) (h : ShR w) : loop F (f21_b4 F w) (spRL w, 0) = ifc (∀ m, m < w.held.length → ∀ k, k < (heldAt w m).length → MailR w (m : Int) ((heldAt w m).getD k default) true) (loop F (f21_b6 F w (spRL w)) 0) (some false) := by
  have W2 := sm.held
  have s := h.shp
  refine loop_if (fun m => (spRL w, (m : Int))) rfl (fun m => ∀ k, k < (heldAt w m).length → MailR w (m : Int) ((heldAt w m).getD k default) true) (n := w.held.length) (by omega) (fun m hm next => ?_) (fun next => ?_)
  · have hrow := sm.hel (heldAt w m) (getD_mem hm)
    unfold f21_b4
    dsimp only
    rw [lt_nat_t hm, cond_true, geti_d [] hm]
    simp only [Option.bind_some]
    change loop F (f21_b5 w (m : Int) next (heldAt w m)) (spRL w, 0) = _
    refine loop_if (fun j => (spRL w, (j : Int))) rfl (fun k => MailR w (m : Int) ((heldAt w m).getD k default) true) (n := (heldAt w m).length) (by omega) (fun j hj nx => ?_) (fun nx => ?_)
    · unfold f21_b5
      dsimp only
      rw [lt_nat_t hj, cond_true, geti_d default hj]
      simp only [Option.bind_some]
      obtain ⟨b, e, i⟩ := mail_ref s h.two (m : Int) ((heldAt w m).getD j default) true
      rw [e]
      simp only [Option.bind_some]
      rw [w64s (by omega)]
      exact not_if i _ _
    · unfold f21_b5
      dsimp only
      rw [lt_nat_f, cond_false, w64s (by omega)]
  · unfold f21_b4
    dsimp only
    rw [lt_nat_f, cond_false]
theorem ref_ent (hF : 200000 ≤ F) (h : ShR w) : loop F (f21_b2 F w (spRL w)) 0 = ifc (∀ m, m < w.entries.length → ∀ p, p < w.in_.length → EntR w m p) (loop F (f21_b4 F w) (spRL w, 0)) (some false) := by
  have s := h.shp
  have h5 := s.m2; have h8 := s.p2
  refine loop_if (fun m => (m : Int)) rfl (fun m => ∀ p, p < w.in_.length → EntR w m p) (n := w.entries.length) (by omega) (fun m hm next => ?_) (fun next => ?_)
  · unfold f21_b2
    rw [lt_nat_t hm, cond_true, s.row hm]
    simp only [Option.bind_some]
    refine loop_if (fun p => (p : Int)) rfl (fun p => EntR w m p) (n := w.in_.length) (by omega) (fun p hp nx => ?_) (fun nx => ?_)
    · unfold f21_b3
      rw [s.len hm, lt_nat_t hp, cond_true, s.ent hm hp]
      simp only [Option.bind_some]
      rw [w64s (by omega)]
      cases hh : (E w m p).here with
      | true =>
        simp only [Bool.not_true, gd_false, Option.bind_some, Bool.false_and, cond_false]
        rw [ifc_pos (show EntR w m p from fun q => by rw [hh] at q; cases q)]
      | false =>
        simp only [Bool.not_false, gd_true, Bool.true_and]
        rw [spRL_get hp]
        simp only [Option.bind_some]
        rw [right_ref s h.two hp]
        simp only [Option.bind_some]
        exact not_if (show decide (RtX w p (E w m p).to_ (E w m p).age) = true ↔ EntR w m p from by rw [decide_eq_true_eq]; exact ⟨fun q _ => q, fun q => q hh⟩) _ _
    · unfold f21_b3
      rw [s.len hm, lt_nat_f, cond_false, w64s (by omega)]
  · unfold f21_b2
    rw [lt_nat_f, cond_false]
theorem ref_tog (hF : 200000 ≤ F) (h : ShR w) : loop F (f21_b1 F w (spRL w)) 0 = ifc (∀ p, p < w.in_.length → TogR w p) (loop F (f21_b2 F w (spRL w)) 0) (some false) := by
  have s := h.shp
  have h5 := s.m2; have h8 := s.p2
  refine loop_if (fun p => (p : Int)) rfl (fun p => TogR w p) (n := w.in_.length) (by omega) (fun p hp next => ?_) (fun next => ?_)
  · unfold f21_b1
    rw [lt_nat_t hp, cond_true, inn_geti hp]
    simp only [Option.bind_some]
    rw [w64s (by omega)]
    by_cases hi : 0 ≤ inn w p
    · obtain ⟨q, hq⟩ : ∃ q : Nat, inn w p = (q : Int) := ⟨(inn w p).toNat, by omega⟩
      have hr := (h.inn.rng p hp).2
      have hql : q < w.in_.length := by omega
      rw [hq, decide_eq_true (show (q : Int) ≥ 0 by omega), gd_true, spRL_get hp]
      simp only [Option.bind_some, gd_true]
      rw [spRL_get hql]
      simp only [Option.bind_some, Bool.true_and]
      have t0 : TogR w p ↔ ((spR w p).is = (spR w q).is ∧ (spR w p).at_ = (spR w q).at_ ∧ (spR w p).letter = (spR w q).letter) := by
        unfold TogR; rw [hq, Int.toNat_natCast]
        exact ⟨fun z => z (by omega), fun z _ => z⟩
      by_cases a1 : (spR w p).is = (spR w q).is
      · rw [a1, ne_refl]
        simp only [Bool.not_false, gd_true, Option.bind_some, Bool.false_or]
        by_cases a2 : (spR w p).at_ = (spR w q).at_
        · rw [a2, ne_refl]
          simp only [Bool.not_false, gd_true, Option.bind_some, Bool.false_or]
          rw [bne_dec, cond_dec]
          by_cases a3 : (spR w p).letter = (spR w q).letter
          · rw [if_neg (fun z => z a3), ifc_pos (t0.2 ⟨a1, a2, a3⟩)]
          · rw [if_pos a3, ifc_neg (fun z => a3 (t0.1 z).2.2)]
        · rw [bne_dec, decide_eq_true a2]
          simp only [Bool.not_true, gd_false, Option.bind_some, Bool.true_or, cond_true]
          rw [ifc_neg (fun z => a2 (t0.1 z).2.1)]
      · have : ((spR w p).is != (spR w q).is) = true := bne_iff_ne.2 a1
        rw [this]
        simp only [Bool.not_true, gd_false, Option.bind_some, Bool.true_or, cond_true]
        rw [ifc_neg (fun z => a1 (t0.1 z).1)]
    · rw [decide_eq_false (show ¬ inn w p ≥ 0 by omega)]
      simp only [gd_false, Option.bind_some, Bool.false_and, cond_false]
      rw [ifc_pos (show TogR w p from fun q => absurd q hi)]
  · unfold f21_b1
    rw [lt_nat_f, cond_false]
def spRK (w : FerryWorld) (k : Nat) : List Spot := (List.range k).map (spR w) ++ List.replicate (w.in_.length - k) ⟨0, 0, 0, false⟩
theorem spRK_set {w : FerryWorld} {k : Nat} (h : k < w.in_.length) : seti (spRK w k) (k : Int) (spR w k) = spRK w (k + 1) := by
  unfold seti spRK
  rw [Int.toNat_natCast, show w.in_.length - k = (w.in_.length - (k + 1)) + 1 by omega, List.replicate_succ, List.set_append_right _ _ (by simp), List.range_succ, List.map_append]
  simp
theorem spRK_len {w : FerryWorld} {k : Nat} (h : k ≤ w.in_.length) : (spRK w k).length = w.in_.length := by simp [spRK]; omega
theorem ref_spots (hF : 200000 ≤ F) (sm : SmN 300 w) (h : ShR w) : loop F (f21_b0 F w) (0, List.replicate w.in_.length ⟨0, 0, 0, false⟩) = ifc (∀ p, p < w.in_.length → (locsR w p).length = 1) (loop F (f21_b1 F w (spRL w)) 0) (some false) := by
  have s := h.shp
  have h5 := s.m2; have h8 := s.p2
  have W := sm.wire
  refine loop_if (fun p => ((p : Int), spRK w p)) (by simp [spRK]) (fun p => (locsR w p).length = 1) (n := w.in_.length) (by omega) (fun p hp next => ?_) (fun next => ?_)
  · unfold f21_b0
    dsimp only
    rw [lt_nat_t hp, cond_true, find_ref (by omega) s (fun x hx => ⟨(h.let_ x hx).pur.len, by have := (sm.let_ x hx).1; omega⟩) (by omega) hp]
    simp only [Option.bind_some]
    rw [geti_d default (by rw [spRK_len (by omega)]; exact hp)]
    simp only [Option.bind_some]
    rw [w64s (by omega), show lastR (locsR w p) = spR w p from rfl, spRK_set hp]
    exact not_if decide_eq_true_iff _ _
  · unfold f21_b0
    dsimp only
    rw [lt_nat_f, cond_false, show spRK w w.in_.length = spRL w from by simp [spRK, spRL]]
end
theorem MailR.iffX {w : FerryWorld} (hag : ∀ p, p < w.in_.length → (sp w p).age ≤ 30) {m : Int} {y : FerryMail} : MailR w m y false ↔ MailX w m y := by
  unfold MailR MailX
  constructor
  · rintro ⟨a1, a2, a3, a4, a5, a6, a7, a8, _, b⟩
    exact ⟨a1, a2, a3, a4, b rfl, a7, by rw [Int.add_comm, w64_30 a5 a6]; exact a8⟩
  · rintro ⟨a1, a2, a3, a4, b, a7, a8⟩
    have h1 := b.1
    have h2 := b.2.1
    have h3 := hag y.place.toNat (by omega)
    rw [Int.add_comm, w64_30 (by omega) (by omega)] at a8
    exact ⟨a1, a2, a3, a4, by omega, by omega, a7, a8, fun q => (by cases q), fun _ => b⟩
theorem MailR.iffW {w : FerryWorld} (hag : ∀ p, p < w.in_.length → (sp w p).age ≤ 30) {m : Nat} (hm : m < w.entries.length) {y : FerryMail} : MailR w (m : Int) y true ↔ MailX w (m : Int) y ∧ sp w y.place.toNat = ⟨(m : Int), false, y.age⟩ := by
  constructor
  · rintro ⟨a1, a2, a3, a4, a5, a6, a7, a8, b, _⟩
    have e := b rfl
    refine ⟨⟨a1, a2, a3, a4, ⟨a5, by rw [e]; exact Int.le_refl _, by omega, by omega, fun _ => by rw [e], fun q => ?_⟩, a7, by rw [Int.add_comm, w64_30 a5 a6]; exact a8⟩, e⟩
    rw [e] at q; exact absurd rfl q
  · rintro ⟨⟨a1, a2, a3, a4, b, a7, a8⟩, e⟩
    have h1 := b.1
    have h2 := b.2.1
    have h3 := hag y.place.toNat (by omega)
    rw [Int.add_comm, w64_30 (by omega) (by omega)] at a8
    exact ⟨a1, a2, a3, a4, by omega, by omega, a7, a8, fun _ => e, fun q => (by cases q)⟩
theorem sp_age {w : FerryWorld} (h : ShR w) {p : Nat} (hp : p < w.in_.length) (hl : (locsP w p).length = 1) : (sp w p).age ≤ 30 := by
  rcases sp_cases hl with ⟨m, h1, h2, h3⟩ | ⟨x, h1, h2, i, h3, h4, h5⟩
  · rw [h3]; exact (h.ent m h1 p hp).2.1
  · rw [h5]; exact ((h.let_ x h1).plc i h3).2.2.2.2
theorem TogR_iff {w : FerryWorld} (h : ShR w) (hl : ∀ p, p < w.in_.length → (locsR w p).length = 1) {p : Nat} (hp : p < w.in_.length) : TogR w p ↔ (0 ≤ inn w p → (sp w (inn w p).toNat).machine = (sp w p).machine ∧ (sp w (inn w p).toNat).here = (sp w p).here ∧ ((sp w p).here = false → SameL w p (inn w p))) := by
  unfold TogR
  by_cases hi : 0 ≤ inn w p
  · obtain ⟨q, hq⟩ : ∃ q : Nat, inn w p = (q : Int) := ⟨(inn w p).toNat, by omega⟩
    have hr := (h.inn.rng p hp).2
    have hql : q < w.in_.length := by omega
    rw [hq, Int.toNat_natCast, ← spR_S h.two p, ← spR_S h.two q]
    unfold toS
    have same := fun e => same_letter h.two (hl p hp) (hl q hql) e
    constructor
    · intro z _
      obtain ⟨a, b, c⟩ := z (by omega)
      exact ⟨b.symm, a.symm, (same a).1 c⟩
    · intro z _
      obtain ⟨a, b, c⟩ := z (by omega)
      exact ⟨b.symm, a.symm, (same b.symm).2 c⟩
  · exact ⟨fun _ q => absurd q hi, fun _ q => absurd q hi⟩
theorem mem_letN {w : FerryWorld} {P : FerryLetter → Prop} : (∀ k, k < w.wire.length → P (letN w k)) ↔ ∀ x ∈ w.wire, P x := by
  constructor
  · intro h x hx
    obtain ⟨i, hi, rfl⟩ := List.getElem_of_mem hx
    have := h i hi
    unfold letN at this
    rwa [List.getD_eq_getElem?_getD, List.getElem?_eq_getElem hi] at this
  · intro h k hk
    exact h _ (getD_mem hk)
theorem mem_getD {α : Type} {l : List α} {d : α} {P : α → Prop} : (∀ k, k < l.length → P (l.getD k d)) ↔ ∀ x ∈ l, P x := by
  constructor
  · intro h x hx
    obtain ⟨i, hi, rfl⟩ := List.getElem_of_mem hx
    have := h i hi
    rwa [List.getD_eq_getElem?_getD, List.getElem?_eq_getElem hi] at this
  · intro h k hk
    exact h _ (getD_mem hk)
theorem world_ref {F : Nat} (hF : 200000 ≤ F) {w : FerryWorld} (sm : SmN 300 w) : ∃ b, f21L F w = some b ∧ (b = true ↔ Wd w) := by
  have sm9 : SmN 900 w := sm.mono (by omega)
  obtain ⟨b, e, i⟩ := shape_ref (F := F) (by omega) sm9
  unfold f21L
  rw [e]
  simp only [Option.bind_some]
  rw [not_if i]
  by_cases h : ShR w
  · rw [ifc_pos h]
    have hz := h.shp.p2
    rw [mkL_ok (by omega) (by rw [Int.toNat_natCast]; omega), Int.toNat_natCast]
    simp only [Option.bind_some]
    rw [ref_spots hF sm h, ref_tog hF h, ref_ent hF h, ref_held hF sm h, ref_wire hF sm h]
    by_cases h1 : ∀ p, p < w.in_.length → (locsR w p).length = 1
    · have h1P : ∀ p, p < w.in_.length → (locsP w p).length = 1 := fun p hp => by rw [len_eq h.two]; exact h1 p hp
      have hag : ∀ p, p < w.in_.length → (sp w p).age ≤ 30 := fun p hp => sp_age h hp (h1P p hp)
      rw [ifc_pos h1]
      by_cases h2 : ∀ p, p < w.in_.length → TogR w p
      · rw [ifc_pos h2]
        by_cases h3 : ∀ m, m < w.entries.length → ∀ p, p < w.in_.length → EntR w m p
        · rw [ifc_pos h3]
          have hhd := h.shp.hd
          by_cases h4 : ∀ m, m < w.held.length → ∀ k, k < (heldAt w m).length → MailR w (m : Int) ((heldAt w m).getD k default) true
          · rw [ifc_pos h4]
            by_cases h5 : ∀ k, k < w.wire.length → WirR w (letN w k)
            · rw [ifc_pos h5]
              refine ⟨_, rfl, ?_⟩
              rw [decide_eq_true_eq]
              have h5' := (mem_letN (P := WirR w)).1 h5
              constructor
              · intro h6
                exact ⟨h, h1P, fun p hp => (TogR_iff h h1 hp).1 (h2 p hp), h3, fun m hm x hx => (MailR.iffW hag hm).1 ((mem_getD (P := fun x => MailR w (m : Int) x true)).1 (h4 m (by omega)) x hx), fun x hx hk => (MailR.iffX hag).1 ((h5' x hx).1 hk), fun x hx hk => (h5' x hx).2 hk, h6⟩
              · intro h6; exact h6.msg
            · rw [ifc_neg h5]
              refine ⟨_, rfl, ?_⟩
              simp only [Bool.false_eq_true, false_iff]
              intro z
              exact h5 (mem_letN.2 fun x hx => ⟨fun q => (MailR.iffX hag).2 (z.mai x hx q), fun q => z.ntd x hx q⟩)
          · rw [ifc_neg h4]
            refine ⟨_, rfl, ?_⟩
            simp only [Bool.false_eq_true, false_iff]
            intro z
            exact h4 fun m hm => (mem_getD (P := fun x => MailR w (m : Int) x true)).2 fun x hx => (MailR.iffW hag (by omega)).2 (z.hel m (by omega) x hx)
        · rw [ifc_neg h3]
          refine ⟨_, rfl, ?_⟩
          simp only [Bool.false_eq_true, false_iff]
          intro z; exact h3 z.ent
      · rw [ifc_neg h2]
        refine ⟨_, rfl, ?_⟩
        simp only [Bool.false_eq_true, false_iff]
        intro z; exact h2 fun p hp => (TogR_iff h h1 hp).2 (z.tog p hp)
    · rw [ifc_neg h1]
      refine ⟨_, rfl, ?_⟩
      simp only [Bool.false_eq_true, false_iff]
      intro z; exact h1 fun p hp => by rw [← len_eq h.two]; exact z.loc p hp
  · rw [ifc_neg h]
    refine ⟨_, rfl, ?_⟩
    simp only [Bool.false_eq_true, false_iff]
    intro z; exact h z.shr
end Go.Proofs.YtbmbbcaaimehkaaGreat
end
section
set_option linter.unusedVariables false
set_option linter.unusedSimpArgs false
namespace Go.Proofs.YtbmbbcaaimehkaaGreat
open Go.Lf
theorem small_ok {F : Nat} (hF : 200000 ≤ F) (w : FerryWorld) : ∃ b, f19L F w = some b ∧ (b = true → SmN 300 w) := by
  unfold f19L
  refine ex_cond (fun _ => ⟨false, rfl, fun q => by cases q⟩) (fun hc => ?_)
  simp only [Bool.or_eq_false_iff, decide_eq_false_iff_not] at hc
  obtain ⟨⟨⟨⟨c1, c2⟩, c3⟩, c4⟩, c5⟩ := hc
  have e3 : loop F (f19_b3 w) 0 = ifc (∀ k, k < w.wire.length → (letN w k).places.length ≤ 20 ∧ (letN w k).ages.length ≤ 20) (some true) (some false) := by
    refine loop_if (fun k => (k : Int)) rfl (fun k => (letN w k).places.length ≤ 20 ∧ (letN w k).ages.length ≤ 20) (n := w.wire.length) (by omega) (fun k hk next => ?_) (fun next => ?_)
    · unfold f19_b3
      rw [lt_nat_t hk, cond_true, geti_d default hk]
      simp only [Option.bind_some]
      rw [w64s (by omega), show w.wire.getD k default = letN w k from rfl]
      by_cases h : (letN w k).places.length ≤ 20 ∧ (letN w k).ages.length ≤ 20
      · rw [ifc_pos h, decide_eq_false (by omega), decide_eq_false (by omega)]; rfl
      · rw [ifc_neg h]
        have : (decide (((letN w k).places.length : Int) > 20) || decide (((letN w k).ages.length : Int) > 20)) = true := by
          rw [← Bool.not_eq_false]; intro z; simp only [Bool.or_eq_false_iff, decide_eq_false_iff_not] at z; exact h ⟨by omega, by omega⟩
        rw [this]; rfl
    · unfold f19_b3
      rw [lt_nat_f]; rfl
  have e2 : loop F (f19_b2 F w) 0 = ifc (∀ k, k < w.held.length → (w.held.getD k []).length ≤ 100) (loop F (f19_b3 w) 0) (some false) := by
    refine loop_if (fun k => (k : Int)) rfl (fun k => (w.held.getD k []).length ≤ 100) (n := w.held.length) (by omega) (fun k hk next => ?_) (fun next => ?_)
    · unfold f19_b2
      rw [lt_nat_t hk, cond_true, geti_d [] hk]
      simp only [Option.bind_some]
      rw [w64s (by omega)]
      by_cases h : (w.held.getD k []).length ≤ 100
      · rw [ifc_pos h, decide_eq_false (by omega)]; rfl
      · rw [ifc_neg h, decide_eq_true (by omega)]; rfl
    · unfold f19_b2
      rw [lt_nat_f]; rfl
  have e1 : loop F (f19_b1 F w) 0 = ifc (∀ k, k < w.entries.length → (w.entries.getD k []).length ≤ 20) (loop F (f19_b2 F w) 0) (some false) := by
    refine loop_if (fun k => (k : Int)) rfl (fun k => (w.entries.getD k []).length ≤ 20) (n := w.entries.length) (by omega) (fun k hk next => ?_) (fun next => ?_)
    · unfold f19_b1
      rw [lt_nat_t hk, cond_true, geti_d [] hk]
      simp only [Option.bind_some]
      rw [w64s (by omega)]
      by_cases h : (w.entries.getD k []).length ≤ 20
      · rw [ifc_pos h, decide_eq_false (by omega)]; rfl
      · rw [ifc_neg h, decide_eq_true (by omega)]; rfl
    · unfold f19_b1
      rw [lt_nat_f]; rfl
  have e0 : loop F (f19_b0 F w) 0 = ifc (∀ k, k < w.boxes.length → (w.boxes.getD k []).length ≤ 100) (loop F (f19_b1 F w) 0) (some false) := by
    refine loop_if (fun k => (k : Int)) rfl (fun k => (w.boxes.getD k []).length ≤ 100) (n := w.boxes.length) (by omega) (fun k hk next => ?_) (fun next => ?_)
    · unfold f19_b0
      rw [lt_nat_t hk, cond_true, geti_d [] hk]
      simp only [Option.bind_some]
      rw [w64s (by omega)]
      by_cases h : (w.boxes.getD k []).length ≤ 100
      · rw [ifc_pos h, decide_eq_false (by omega)]; rfl
      · rw [ifc_neg h, decide_eq_true (by omega)]; rfl
    · unfold f19_b0
      rw [lt_nat_f]; rfl
  rw [e0]
  by_cases h0 : ∀ k, k < w.boxes.length → (w.boxes.getD k []).length ≤ 100
  · rw [ifc_pos h0, e1]
    by_cases h1 : ∀ k, k < w.entries.length → (w.entries.getD k []).length ≤ 20
    · rw [ifc_pos h1, e2]
      by_cases h2 : ∀ k, k < w.held.length → (w.held.getD k []).length ≤ 100
      · rw [ifc_pos h2, e3]
        by_cases h3 : ∀ k, k < w.wire.length → (letN w k).places.length ≤ 20 ∧ (letN w k).ages.length ≤ 20
        · rw [ifc_pos h3]
          refine ⟨true, rfl, fun _ => ⟨by omega, by omega, by omega, by omega, by omega, fun l hl => ?_, fun l hl => ?_, fun l hl => ?_, fun l hl => ?_⟩⟩
          · have := (mem_getD (P := fun l : List Int => l.length ≤ 100)).1 h0 l hl; omega
          · have := (mem_getD (P := fun l : List FerryEntry => l.length ≤ 20)).1 h1 l hl; omega
          · have := (mem_getD (P := fun l : List FerryMail => l.length ≤ 100)).1 h2 l hl; omega
          · have := (mem_letN (P := fun x => x.places.length ≤ 20 ∧ x.ages.length ≤ 20)).1 h3 l hl; omega
        · rw [ifc_neg h3]; exact ⟨false, rfl, fun q => by cases q⟩
      · rw [ifc_neg h2]; exact ⟨false, rfl, fun q => by cases q⟩
    · rw [ifc_neg h1]; exact ⟨false, rfl, fun q => by cases q⟩
  · rw [ifc_neg h0]; exact ⟨false, rfl, fun q => by cases q⟩
def nx (w : FerryWorld) (p m : Nat) : Nat := (E w m p).to_.toNat
def tr (w : FerryWorld) (p m : Nat) : Nat → Nat
  | 0 => m
  | i + 1 => nx w p (tr w p m i)
structure Trl (w : FerryWorld) (p m K : Nat) : Prop where
  kM : K ≤ w.entries.length
  rng : ∀ i, i ≤ K → tr w p m i < w.entries.length
  st : ∀ i, i < K → (E w (tr w p m i) p).here = false ∧ (E w (tr w p m i) p).to_ = (tr w p m (i + 1) : Int) ∧ 0 ≤ (E w (tr w p m i) p).age ∧ (E w (tr w p m i) p).age ≤ (sp w p).age
  mid : ∀ i, 0 < i → i < K → (tr w p m i : Int) ≠ (sp w p).machine
  inc : ∀ i, i + 1 < K → (E w (tr w p m i) p).age < (E w (tr w p m (i + 1)) p).age
  stop : (K = 0 ∧ (E w m p).here = true) ∨ 0 < K
  fin : (tr w p m K : Int) = (sp w p).machine
theorem Wd.here {w : FerryWorld} (h : Wd w) {m p : Nat} (hm : m < w.entries.length) (hp : p < w.in_.length) (e : (E w m p).here = true) : sp w p = ⟨(m : Int), true, (E w m p).age⟩ := by
  have hmem : (⟨(m : Int), true, (E w m p).age⟩ : Spot_) ∈ locsP w p := by
    unfold locsP
    exact List.mem_append_left _ (hereL_mem.2 ⟨m, hm, e, rfl⟩)
  rw [sp_mem (h.loc p hp)] at hmem
  exact (List.mem_singleton.1 hmem).symm
theorem Wd.step {w : FerryWorld} (h : Wd w) {m p : Nat} (hm : m < w.entries.length) (hp : p < w.in_.length) (e : (E w m p).here = false) : nx w p m < w.entries.length ∧ (E w m p).to_ = (nx w p m : Int) ∧ 0 ≤ (E w m p).age ∧ (E w m p).age ≤ (sp w p).age ∧ ((nx w p m : Int) ≠ (sp w p).machine → (E w m p).age < (E w (nx w p m) p).age) := by
  obtain ⟨r1, r2, r3, r4, r5, r6⟩ := h.ent m hm p hp e
  have e1 : (E w m p).to_ = (nx w p m : Int) := by unfold nx; omega
  refine ⟨by omega, e1, r1, r2, fun hn => ?_⟩
  have := r6 (fun q => hn (by rw [← e1]; exact r5 q))
  rw [e1, Int.toNat_natCast] at this
  exact this
theorem trl_ex {w : FerryWorld} (h : Wd w) {m p : Nat} (hm : m < w.entries.length) (hp : p < w.in_.length) : ∃ K, Trl w p m K := by
  let c : Nat → Prop := fun i => (E w (tr w p m i) p).here = true ∨ (0 < i ∧ (tr w p m i : Int) = (sp w p).machine)
  have nh : ∀ i, ¬ c i → (E w (tr w p m i) p).here = false := fun i q => by
    cases hh : (E w (tr w p m i) p).here with
    | false => rfl
    | true => exact absurd (.inl hh) q
  have hr : ∀ n, (∀ i, i < n → ¬ c i) → tr w p m n < w.entries.length := by
    intro n
    induction n with
    | zero => intro _; exact hm
    | succ n ih =>
      intro hn
      have h0 := ih fun i hi => hn i (by omega)
      exact (h.step h0 hp (nh n (hn n (by omega)))).1
  have hinc : ∀ n, (∀ i, i < n → ¬ c i) → ∀ i, i + 1 < n → (E w (tr w p m i) p).age < (E w (tr w p m (i + 1)) p).age := by
    intro n hn i hi
    refine (h.step (hr i fun j hj => hn j (by omega)) hp (nh i (hn i (by omega)))).2.2.2.2 fun q => hn (i + 1) hi (.inr ⟨by omega, q⟩)
  have hex : ∃ i, i ≤ w.entries.length ∧ c i := by
    apply Classical.byContradiction
    intro hz
    have hn : ∀ i, i < w.entries.length + 1 → ¬ c i := fun i hi q => hz ⟨i, by omega, q⟩
    obtain ⟨i, j, hij, hj, e⟩ := pigeon w.entries.length (tr w p m) (fun i hi => hr i fun k hk => hn k (by omega))
    have mono : ∀ d, i + d ≤ w.entries.length → 0 < d → (E w (tr w p m i) p).age < (E w (tr w p m (i + d)) p).age := by
      intro d
      induction d with
      | zero => intro _ q; omega
      | succ d ih =>
        intro hd _
        have h2 := hinc _ hn (i + d) (by omega)
        by_cases hd0 : d = 0
        · subst hd0; exact h2
        · exact Int.lt_trans (ih (by omega) (by omega)) h2
    have := mono (j - i) (by omega) (by omega)
    rw [show i + (j - i) = j by omega, e] at this
    exact absurd this (Int.lt_irrefl _)
  obtain ⟨i, hi, hci⟩ := hex
  obtain ⟨K, hK, hc, hlt⟩ := first_of hci
  have hrK : ∀ i, i ≤ K → tr w p m i < w.entries.length := fun i hi => hr i fun j hj => hlt j (by omega)
  refine ⟨K, by omega, hrK, fun i hi => ?_, fun i h1 h2 q => hlt i h2 (.inr ⟨h1, q⟩), fun i hi => hinc K hlt i hi, ?_, ?_⟩
  · obtain ⟨_, s2, s3, s4, _⟩ := h.step (hrK i (by omega)) hp (nh i (hlt i hi))
    exact ⟨nh i (hlt i hi), s2, s3, s4⟩
  · rcases Nat.eq_zero_or_pos K with q | q
    · subst q
      rcases hc with c1 | ⟨c1, _⟩
      · exact .inl ⟨rfl, c1⟩
      · omega
    · exact .inr q
  · rcases hc with c1 | ⟨_, c1⟩
    · rw [h.here (hrK K (Nat.le_refl _)) hp c1]
    · exact c1
def trL (w : FerryWorld) (p m n : Nat) : List Int := (List.range n).map fun i => (tr w p m i : Int)
theorem trL_succ (w : FerryWorld) (p m n : Nat) : trL w p m (n + 1) = trL w p m n ++ [(tr w p m n : Int)] := by
  unfold trL; rw [List.range_succ, List.map_append]; rfl
theorem trL_len (w : FerryWorld) (p m n : Nat) : (trL w p m n).length = n := by simp [trL]
theorem trL_get {w : FerryWorld} {p m n i : Nat} (h : i < n) : geti (trL w p m n) (i : Int) = some (tr w p m i : Int) := by
  rw [geti_d 0 (by rw [trL_len]; exact h)]
  simp [trL, h]
section
variable {F : Nat} {w : FerryWorld}
theorem Wd.mvd (h : Wd w) (sm : SmN 900 w) : Mvd 900 w.wire := fun x hx hk => by
  have h1 := (h.shr.let_ x hx).pur.len
  have h2 := sm.let_ x hx
  first
    | exact ⟨h1, by omega⟩
    | exact ⟨by omega, h1⟩
theorem where_wd (hF : 1000 ≤ F) (hM : F ≤ 1000000) (h : Wd w) (sm : SmN 900 w) {p : Nat} (hp : p < w.in_.length) : f67L F w (p : Int) = some (sp w p, 1) := by
  rw [where_prog hF hM h.shr.shp (h.mvd sm) sm.wire hp, h.loc p hp]; rfl
theorem find_wd (hF : 1000 ≤ F) (h : Wd w) (sm : SmN 900 w) {p : Nat} (hp : p < w.in_.length) : f52L F w (p : Int) = some (spR w p, true) := by
  rw [find_ref hF h.shr.shp (fun x hx => ⟨(h.shr.let_ x hx).pur.len, by have := (sm.let_ x hx).1; omega⟩) sm.wire hp, ← len_eq h.shr.two, h.loc p hp]; rfl
theorem trail_prog (hF : 1000 ≤ F) (h : Wd w) {p m K : Nat} (hp : p < w.in_.length) (t : Trl w p m K) : loop F (f34_b0 w (p : Int) (sp w p, 1)) ((m : Int), [(m : Int)]) = some (trL w p m (K + 1), 0) := by
  have s := h.shr.shp
  have h5 := s.m2
  have hK := t.kM
  refine loop_tr (fun k => ((tr w p m k : Int), trL w p m (k + 1))) rfl (n := K - 1) (by omega) (fun k hk next => ?_) (fun next => ?_)
  · obtain ⟨a1, a2, _, _⟩ := t.st k (by omega)
    unfold f34_b0
    dsimp only
    rw [s.row (t.rng k (by omega))]
    simp only [Option.bind_some]
    rw [s.ent (t.rng k (by omega)) hp]
    simp only [Option.bind_some, a1, Bool.not_false, cond_true]
    rw [a2, app8 (by rw [trL_len, List.length_singleton]; omega)]
    simp only [Option.bind_some]
    rw [beq_dec, decide_eq_false (t.mid (k + 1) (by omega) (by omega)), cond_false, ← trL_succ]
  · unfold f34_b0
    dsimp only
    rw [s.row (t.rng (K - 1) (by omega))]
    simp only [Option.bind_some]
    rw [s.ent (t.rng (K - 1) (by omega)) hp]
    simp only [Option.bind_some]
    rcases t.stop with ⟨rfl, c⟩ | c
    · rw [show tr w p m (0 - 1) = m from rfl, c]; rfl
    · obtain ⟨a1, a2, _, _⟩ := t.st (K - 1) (by omega)
      rw [show K - 1 + 1 = K by omega] at a2 ⊢
      rw [a1]
      simp only [Option.bind_some, Bool.not_false, cond_true]
      rw [a2, app8 (by rw [trL_len, List.length_singleton]; omega)]
      simp only [Option.bind_some]
      rw [beq_dec, decide_eq_true t.fin, cond_true, ← trL_succ]; rfl
end
end Go.Proofs.YtbmbbcaaimehkaaGreat
end
section
set_option linter.unusedVariables false
set_option linter.unusedSimpArgs false
namespace Go.Proofs.YtbmbbcaaimehkaaGreat
open Go.Lf
section
variable {F : Nat} {w : FerryWorld}
theorem on_wd (hF : 200000 ≤ F) (hM : F ≤ 1000000) (sm : SmN 300 w) (h : Wd w) (p : Int) : f66L F w p = some (decide (0 ≤ p ∧ p < (w.in_.length : Int))) := by
  obtain ⟨e, h1, h2, h3⟩ := check_prog hF hM sm
  unfold f66L
  rw [h1]
  simp only [Option.bind_some]
  rw [show (e == 0) = true from beq_iff_eq.2 (h3.2 h), Bool.true_and]
  congr 1
  by_cases a : 0 ≤ p
  · by_cases b : p < (w.in_.length : Int)
    · rw [decide_eq_true a, decide_eq_true b, decide_eq_true (show 0 ≤ p ∧ p < (w.in_.length : Int) from ⟨a, b⟩)]; rfl
    · rw [decide_eq_true a, decide_eq_false b, decide_eq_false (fun q : 0 ≤ p ∧ p < (w.in_.length : Int) => b q.2)]; rfl
  · rw [decide_eq_false a, decide_eq_false (fun q : 0 ≤ p ∧ p < (w.in_.length : Int) => a q.1)]; rfl
theorem in_ok (p n : Int) : f32L p n = some (decide (0 ≤ p ∧ p < n)) := by
  unfold f32L
  congr 1
  by_cases a : 0 ≤ p
  · by_cases b : p < n
    · rw [decide_eq_true a, decide_eq_true b, decide_eq_true (show 0 ≤ p ∧ p < n from ⟨a, b⟩)]; rfl
    · rw [decide_eq_true a, decide_eq_false b, decide_eq_false (fun q : 0 ≤ p ∧ p < n => b q.2)]; rfl
  · rw [decide_eq_false a, decide_eq_false (fun q : 0 ≤ p ∧ p < n => a q.1)]; rfl
theorem world_no (hF : 200000 ≤ F) (sm : SmN 300 w) (h : ¬ Wd w) : f21L F w = some false := by
  obtain ⟨b, h1, h2⟩ := world_ref hF sm
  rw [h1]
  cases b with
  | false => rfl
  | true => exact absurd (h2.1 rfl) h
theorem world_wd (hF : 200000 ≤ F) (sm : SmN 300 w) (h : Wd w) : f21L F w = some true := by
  obtain ⟨b, h1, h2⟩ := world_ref hF sm
  rw [h1, h2.2 h]
theorem whereR_wd (hF : 200000 ≤ F) (sm : SmN 300 w) (h : Wd w) {p : Nat} (hp : p < w.in_.length) : f33L F w (p : Int) = some ((sp w p).machine, (sp w p).here, (sp w p).age) := by
  unfold f33L
  rw [find_wd (by omega) h (sm.mono (by omega)) hp, ← spR_S h.shr.two]; rfl
theorem trailp_wd (hF : 200000 ≤ F) (hM : F ≤ 1000000) (sm : SmN 300 w) (h : Wd w) {m p K : Nat} (hm : m < w.entries.length) (hp : p < w.in_.length) (t : Trl w p m K) : f34L F w (m : Int) (p : Int) = some (trL w p m (K + 1), 0) := by
  unfold f34L
  rw [on_wd hF hM sm h, decide_eq_true (show 0 ≤ (p : Int) ∧ (p : Int) < (w.in_.length : Int) by omega)]
  simp only [Option.bind_some, Bool.not_true, Bool.false_or]
  rw [decide_eq_false (show ¬ (m : Int) < 0 by omega), decide_eq_false (show ¬ (m : Int) ≥ (w.entries.length : Int) by omega)]
  simp only [Bool.or_self, cond_false]
  rw [where_wd (by omega) hM h (sm.mono (by omega)) hp]
  simp only [Option.bind_some]
  exact trail_prog (by omega) h hp t
end
theorem inj_tr {w : FerryWorld} {p m K : Nat} (t : Trl w p m K) {i j : Nat} (hij : i < j) (hj : j < K) : tr w p m i ≠ tr w p m j := by
  intro e
  have mono : ∀ d, i + d < K → 0 < d → (E w (tr w p m i) p).age < (E w (tr w p m (i + d)) p).age := by
    intro d
    induction d with
    | zero => intro _ q; omega
    | succ d ih =>
      intro hd _
      have h2 := t.inc (i + d) (by omega)
      by_cases hd0 : d = 0
      · subst hd0; exact h2
      · exact Int.lt_trans (ih (by omega) (by omega)) h2
  have := mono (j - i) (by omega) (by omega)
  rw [show i + (j - i) = j by omega, e] at this
  exact absurd this (Int.lt_irrefl _)
def prv (w : FerryWorld) (p m : Nat) : Nat → Int
  | 0 => -1
  | i + 1 => (E w (tr w p m i) p).age
theorem FerryEnds_law (F : Nat) (hF : 200000 ≤ F) (hM : F ≤ 1000000) (w : FerryWorld) (m p : Int) : f10L F w m p = some true := by
  unfold f10L f35L
  obtain ⟨b0, e0, i0⟩ := small_ok hF w
  rw [e0]
  simp only [Option.bind_some]
  cases b0 with
  | false => rfl
  | true =>
    have sm := i0 rfl
    rw [gd_true]
    by_cases h : Wd w
    · rw [world_wd hF sm h]
      simp only [Option.bind_some, Bool.and_self, Bool.not_true, Bool.not_false, gd_true, Bool.false_or]
      rw [in_ok]
      simp only [Option.bind_some]
      by_cases hm : 0 ≤ m ∧ m < (w.entries.length : Int)
      · rw [decide_eq_true hm]
        simp only [Bool.not_true, Bool.not_false, gd_true, Bool.false_or]
        rw [in_ok]
        simp only [Option.bind_some]
        by_cases hp : 0 ≤ p ∧ p < (w.in_.length : Int)
        · rw [decide_eq_true hp]
          simp only [Bool.not_true, cond_false]
          obtain ⟨k, rfl⟩ : ∃ k : Nat, p = (k : Int) := ⟨p.toNat, by omega⟩
          have hk : k < w.in_.length := by omega
          obtain ⟨j, rfl⟩ : ∃ j : Nat, m = (j : Int) := ⟨m.toNat, by omega⟩
          have hj : j < w.entries.length := by omega
          obtain ⟨K, t⟩ := trl_ex h hj hk
          have s := h.shr.shp
          have h5 := s.m2
          have hK := t.kM
          rw [trailp_wd hF hM sm h hj hk t, whereR_wd hF sm h hk]
          simp only [Option.bind_some]
          rw [trL_len, ne_refl, decide_eq_false (show ¬ ((K + 1 : Nat) : Int) < 1 by omega), w64s (by omega), decide_eq_false (show ¬ ((K + 1 : Nat) : Int) > ((w.entries.length + 1 : Nat) : Int) by omega)]
          simp only [Bool.or_self, Bool.not_false, gd_true, Bool.false_or]
          rw [show geti (trL w k j (K + 1)) 0 = some (j : Int) from trL_get (i := 0) (by omega)]
          simp only [Option.bind_some]
          rw [ne_refl]
          simp only [Bool.or_self, Bool.not_false, gd_true, Bool.false_or]
          have ew : w64 (((K + 1 : Nat) : Int) - 1) = (K : Int) := by rw [w64_id (by omega) (by omega)]; omega
          rw [ew, trL_get (show K < K + 1 by omega)]
          simp only [Option.bind_some]
          rw [t.fin, ne_refl, Bool.false_or]
          have hone : ((((sp w k).here && ((j : Int) == (sp w k).machine)) && (((K + 1 : Nat) : Int) != 1)) || (((!(sp w k).here) || ((j : Int) != (sp w k).machine)) && decide (((K + 1 : Nat) : Int) < 2))) = false := by
            cases hh : (sp w k).here with
            | false =>
              have : 0 < K := by
                rcases t.stop with ⟨_, c⟩ | c
                · rw [h.here hj hk c] at hh; cases hh
                · exact c
              rw [decide_eq_false (show ¬ ((K + 1 : Nat) : Int) < 2 by omega)]; simp
            | true =>
              by_cases e : (j : Int) = (sp w k).machine
              · have hj0 : (E w j k).here = true := by
                  rcases sp_cases (h.loc k hk) with ⟨m', h1, h2, h3⟩ | ⟨x, h1, h2, i, h3, h4, h6⟩
                  · rw [h3] at e
                    have e' : j = m' := by have : (j : Int) = (m' : Int) := e; omega
                    rw [e']; exact h2
                  · rw [h6] at hh; cases hh
                have : K = 0 := by
                  rcases Nat.eq_zero_or_pos K with q | q
                  · exact q
                  · have := (t.st 0 q).1
                    rw [show tr w k j 0 = j from rfl, hj0] at this; cases this
                subst this
                rw [show ((j : Int) != (sp w k).machine) = false from by rw [← e, ne_refl]]; simp
              · have : 0 < K := by
                  rcases t.stop with ⟨_, c⟩ | c
                  · rw [h.here hj hk c] at e; exact absurd rfl e
                  · exact c
                rw [show ((j : Int) == (sp w k).machine) = false from beq_eq_false_iff_ne.2 e, decide_eq_false (show ¬ ((K + 1 : Nat) : Int) < 2 by omega)]; simp
          rw [hone, cond_false]
          refine loop_tr (F := F) (fun i => (prv w k j i, (i : Int))) rfl (n := K) (by omega) (fun i hi next => ?_) (fun next => ?_)
          · obtain ⟨a1, a2, a3, a4⟩ := t.st i hi
            have hri := t.rng i (by omega)
            have hage : prv w k j i < (E w (tr w k j i) k).age := by
              cases i with
              | zero => show (-1 : Int) < _; omega
              | succ i => exact t.inc i (by omega)
            unfold f10_b0
            dsimp only
            rw [trL_len, w64s (by omega), decide_eq_true (show ((i + 1 : Nat) : Int) < ((K + 1 : Nat) : Int) by omega), cond_true, trL_get (show i < K + 1 by omega)]
            simp only [Option.bind_some]
            rw [in_ok, decide_eq_true (show 0 ≤ (tr w k j i : Int) ∧ (tr w k j i : Int) < (w.entries.length : Int) by omega)]
            simp only [Option.bind_some, Bool.not_true, cond_false]
            rw [s.row hri]
            simp only [Option.bind_some]
            rw [s.ent hri hk]
            simp only [Option.bind_some, a1, Bool.not_false, gd_true]
            rw [trL_get (show i + 1 < K + 1 by omega)]
            simp only [Option.bind_some]
            rw [a2, ne_refl, decide_eq_false (show ¬ (E w (tr w k j i) k).age ≤ _ from by exact Int.not_le.2 hage), decide_eq_false (show ¬ (E w (tr w k j i) k).age > (sp w k).age by omega)]
            simp only [Bool.or_self, cond_false]
            by_cases hi0 : i = 0
            · subst hi0
              refine loop_tr (fun q => ((q + 1 : Nat) : Int)) rfl (n := 0) (by omega) (fun q hq nx => by omega) (fun nx => ?_)
              unfold f10_b1
              dsimp only
              rw [decide_eq_false (show ¬ ((0 + 1 : Nat) : Int) < ((0 : Nat) : Int) by omega), decide_eq_false (show ¬ ((0 : Nat) : Int) > 0 by omega), w64s (by omega)]
              rfl
            · refine loop_tr (fun q => ((q + 1 : Nat) : Int)) rfl (n := i - 1) (by omega) (fun q hq nx => ?_) (fun nx => ?_)
              · unfold f10_b1
                dsimp only
                rw [decide_eq_true (show ((q + 1 : Nat) : Int) < (i : Int) by omega), cond_true, trL_get (show q + 1 < K + 1 by omega)]
                simp only [Option.bind_some]
                rw [trL_get (show i < K + 1 by omega)]
                simp only [Option.bind_some]
                have := inj_tr t (show q + 1 < i by omega) hi
                rw [beq_dec, decide_eq_false (by omega), cond_false, w64s (by omega)]
              · unfold f10_b1
                dsimp only
                rw [show i - 1 + 1 = i by omega, lt_nat_f, cond_false, decide_eq_true (show (i : Int) > 0 by omega), gd_true, trL_get (show i < K + 1 by omega)]
                simp only [Option.bind_some]
                have h1 := inj_tr t (show 0 < i by omega) hi
                have h1' : ¬ (tr w k j i : Int) = (j : Int) := fun q => by
                  have q2 : tr w k j i = j := by omega
                  exact h1 q2.symm
                rw [beq_dec, decide_eq_false h1']
                simp only [Bool.not_false, Bool.and_self, gd_true]
                simp only [Option.bind_some]
                rw [beq_dec, decide_eq_false (t.mid i (by omega) hi), w64s (by omega)]
                rfl
          · unfold f10_b0
            dsimp only
            rw [trL_len, w64s (by omega), lt_nat_f]; rfl
        · rw [decide_eq_false hp]; rfl
      · rw [decide_eq_false hm]; rfl
    · rw [world_no hF sm h]; rfl
end Go.Proofs.YtbmbbcaaimehkaaGreat
end
