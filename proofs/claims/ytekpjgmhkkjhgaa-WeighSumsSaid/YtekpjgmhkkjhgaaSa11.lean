/- WeighSums returns true, whatever the world and the name. No condition. Part 11 of the proof. -/
import Derived.Test.YtekpjgmhkkjhgaaSa10
section
set_option linter.unusedVariables false
set_option linter.unusedSimpArgs false
set_option maxRecDepth 20000
noncomputable section
namespace Go.Proofs.Ytekpjgmhkkjhgaa
open Go.Abs Go.Lf
theorem f54_wf {F : Nat} {wm : Nat} {h : H} {p0 : WeighWorld} {a1 : Option Addr} {c2 : Nat} {a3 : Option Addr} {c4 : Nat} {a5 : Option Addr} {c6 : Nat} {r : Bool} (hwm : wm ≤ h.size) (hsa1 : Sl (rSl rWeighCell) wm h a1 c2 p0.cells) (hsa3 : Sl rWeighNote wm h a3 c4 p0.notes) (hsa5 : Sl (rInt .i64) wm h a5 c6 p0.freed) (hL : f54L F p0 = some r) :
    WR XX 54 #[.agg [.slice a1 p0.cells.length c2, .slice a3 p0.notes.length c4, .int .i64 p0.names, .slice a5 p0.freed.length c6].toArray] wm h (fun v _ => v = .bool r) := by
  refine WF.begin (args := [_]) (fn := Try.f54) (by kernel_rfl) (by exact rfl) Try.ntmps54 (by simp) ?_
  simp only [frameOf_cons, frameOf_nil, Nat.reduceAdd]
  have hG : Grow h h := Grow.refl h
  unfold f54L at hL
  refine WC.seq ?_
  refine WC.region ?_
  refine WO.boxN h.size gN rfl (evT fh rfl) (vs := [.slice a1 p0.cells.length c2, .slice a3 p0.notes.length c4, .int .i64 p0.names, .slice a5 p0.freed.length c6]) rfl (fun h7 u8 hb9 => ?_)
  have whb9 : h.size ≤ h.size := hG.size
  have hsa1 := hsa1.mono (u8.fz hwm)
  have hsa3 := hsa3.mono (u8.fz hwm)
  have hsa5 := hsa5.mono (u8.fz hwm)
  have hG := u8.grow hG (Nat.le_refl _)
  refine WO.as gN rfl (evC rfl) ?_
  refine WO.nil ?_
  refine SeqK.nrm ?_
  refine WC.seq ?_
  refine WC.seq ?_
  refine WC.region ?_
  refine WO.fld gN rfl fld26_0 (evT (fskip rfl fh) rfl) ?_
  refine WO.ld gN rfl agg22 (evT fh rfl) (At.box hb9) (j := 0) rfl (v := .slice a1 p0.cells.length c2) rfl ?_
  refine WO.len gN rfl und22 (evT fh rfl) ?_
  refine WO.bin gN rfl (evT fh rfl) (evC rfl) abin_lss ?_
  refine WO.mv gN rfl (evT fh rfl) ?_
  refine WO.gfld (GuardIs.no rfl rfl rfl fh) rfl fld26_0 (fun hg => (evT (fs4 rfl (fs2 rfl fh)) rfl)) ?_
  refine WO.gld (GuardIs.no rfl rfl rfl (fskip rfl fh)) rfl agg22 (fun hg => (evG fh rfl hg)) (fun hg => (At.box hb9)) (j := 0) rfl (v := .slice a1 p0.cells.length c2) rfl ?_
  refine WO.glen (GuardIs.no rfl rfl rfl (fs2 rfl fh)) rfl und22 (fun hg => (evG fh rfl hg)) ?_
  refine WO.gbin (GuardIs.no rfl rfl rfl (fs2 rfl (fskip rfl fh))) rfl (fun hg => (evG fh rfl hg)) (fun hg => (evC rfl)) (fun hg => abin_gtr) ?_
  refine WO.por gN rfl (evT (fs4 rfl fh) rfl) (evC rfl) (evGU fh) ?_
  refine WO.mv gN rfl (evT fh rfl) ?_
  refine WO.gfld (GuardIs.no rfl rfl rfl fh) rfl fld26_2 (fun hg => (evT (fs8 rfl (fs4 rfl fh)) rfl)) ?_
  refine WO.gld (GuardIs.no rfl rfl rfl (fskip rfl fh)) rfl agg3 (fun hg => (evG fh rfl hg)) (fun hg => (At.box hb9)) (j := 2) rfl (v := .int .i64 p0.names) rfl ?_
  refine WO.gbin (GuardIs.no rfl rfl rfl (fs2 rfl fh)) rfl (fun hg => (evG fh rfl hg)) (fun hg => (evC rfl)) (fun hg => abin_lss) ?_
  refine WO.por gN rfl (evT (fs2 rfl (fskip rfl fh)) rfl) (evC rfl) (evGU fh) ?_
  refine WO.mv gN rfl (evT fh rfl) ?_
  refine WO.gfld (GuardIs.no rfl rfl rfl fh) rfl fld26_2 (fun hg => (evT (fs8 rfl (fs8 rfl (fskip rfl fh))) rfl)) ?_
  refine WO.gld (GuardIs.no rfl rfl rfl (fskip rfl fh)) rfl agg3 (fun hg => (evG fh rfl hg)) (fun hg => (At.box hb9)) (j := 2) rfl (v := .int .i64 p0.names) rfl ?_
  refine WO.gbin (GuardIs.no rfl rfl rfl (fs2 rfl fh)) rfl (fun hg => (evG fh rfl hg)) (fun hg => (evC rfl)) (fun hg => abin_gtr) ?_
  refine WO.por gN rfl (evT (fs2 rfl (fskip rfl fh)) rfl) (evC rfl) (evGU fh) ?_
  refine WO.mv gN rfl (evT fh rfl) ?_
  refine WO.gfld (GuardIs.no rfl rfl rfl fh) rfl fld26_1 (fun hg => (evT (fs8 rfl (fs8 rfl (fs4 rfl (fs2 rfl fh)))) rfl)) ?_
  refine WO.gld (GuardIs.no rfl rfl rfl (fskip rfl fh)) rfl agg23 (fun hg => (evG fh rfl hg)) (fun hg => (At.box hb9)) (j := 1) rfl (v := .slice a3 p0.notes.length c4) rfl ?_
  refine WO.glen (GuardIs.no rfl rfl rfl (fs2 rfl fh)) rfl und23 (fun hg => (evG fh rfl hg)) ?_
  refine WO.gbin (GuardIs.no rfl rfl rfl (fs2 rfl (fskip rfl fh))) rfl (fun hg => (evG fh rfl hg)) (fun hg => (evC rfl)) (fun hg => abin_gtr) ?_
  refine WO.por gN rfl (evT (fs4 rfl fh) rfl) (evC rfl) (evGU fh) ?_
  refine WO.mv gN rfl (evT fh rfl) ?_
  refine WO.gfld (GuardIs.no rfl rfl rfl fh) rfl fld26_3 (fun hg => (evT (fs8 rfl (fs8 rfl (fs8 rfl (fs4 rfl fh)))) rfl)) ?_
  refine WO.gld (GuardIs.no rfl rfl rfl (fskip rfl fh)) rfl agg24 (fun hg => (evG fh rfl hg)) (fun hg => (At.box hb9)) (j := 3) rfl (v := .slice a5 p0.freed.length c6) rfl ?_
  refine WO.glen (GuardIs.no rfl rfl rfl (fs2 rfl fh)) rfl und24 (fun hg => (evG fh rfl hg)) ?_
  refine WO.gfld (GuardIs.no rfl rfl rfl (fs2 rfl (fskip rfl fh))) rfl fld26_2 (fun hg => (evT (fs8 rfl (fs8 rfl (fs8 rfl (fs4 rfl (fs2 rfl (fskip rfl fh)))))) rfl)) ?_
  refine WO.gld (GuardIs.no rfl rfl rfl (fs4 rfl fh)) rfl agg3 (fun hg => (evG fh rfl hg)) (fun hg => (At.box hb9)) (j := 2) rfl (v := .int .i64 p0.names) rfl ?_
  refine WO.gbin (GuardIs.no rfl rfl rfl (fs4 rfl (fskip rfl fh))) rfl (fun hg => (evG (fs2 rfl fh) rfl hg)) (fun hg => (evG fh rfl hg)) (fun hg => abin_gtr) ?_
  refine WO.por gN rfl (evT (fs4 rfl (fs2 rfl fh)) rfl) (evC rfl) (evGU fh) ?_
  refine WO.nil ?_
  refine SeqK.nrm ?_
  refine WC.condN (evT fh rfl) (fun hc => ?_) (fun hc => ?_)
  · replace hL := cond_tt hc hL
    refine WC.seq ?_
    refine WC.region ?_
    refine WO.as gN rfl (evC rfl) ?_
    refine WO.nil ?_
    refine SeqK.nrm ?_
    refine WC.ret ?_
    refine SeqK.ret ?_
    have hr := Option.some.inj hL
    subst hr
    exact RetK.gen1 rfl (ares_tmp (evT fh rfl) ares_nil) rfl
  · replace hL := cond_ff hc hL
    refine WC.skip ?_
    refine SeqK.nrm ?_
    refine WC.seq ?_
    refine WC.seq ?_
    refine WC.region ?_
    refine WO.fld gN rfl fld26_3 (evT (fs8 rfl (fs8 rfl (fs8 rfl (fs8 rfl (fs2 rfl (fskip rfl fh)))))) rfl) ?_
    refine WO.ld gN rfl agg24 (evT fh rfl) (At.box hb9) (j := 3) rfl (v := .slice a5 p0.freed.length c6) rfl ?_
    refine WO.len gN rfl und24 (evT fh rfl) ?_
    refine WO.mv gN rfl (evC rfl) ?_
    refine WO.nil ?_
    refine SeqK.nrm ?_
    refine WC.block ?_
    refine WC.loop (WL.lift hL (fun (v15 : Int) (s : Fs) => ∃ (fr11 : Fr) (h10 : H), s = ⟨fr11, [], h10, none⟩ ∧ Grow h h10 ∧ fr11.at 1 = .pointer (some ⟨h.size, 0, none⟩) ∧ fr11.at 47 = .slice a5 p0.freed.length c6 ∧ fr11.at 48 = .int .i64 (p0.freed.length : Int) ∧ fr11.at 49 = .int .i64 v15 ∧ h10.at (h.size) = .row [.slice a1 p0.cells.length c2, .slice a3 p0.notes.length c4, .int .i64 p0.names, .slice a5 p0.freed.length c6] true 0 ∧ Sl (rInt .i64) wm h10 a5 c6 p0.freed ∧ Sl (rSl rWeighCell) wm h10 a1 c2 p0.cells ∧ Sl rWeighNote wm h10 a3 c4 p0.notes) ⟨_, _, rfl, hG, (fs8 rfl (fs8 rfl (fs8 rfl (fs8 rfl (fs4 rfl (fs2 rfl (fskip rfl fh))))))), (fs2 rfl fh), (fskip rfl fh), fh, hb9, hsa5, hsa1, hsa3⟩ ?_)
    clear hL
    rintro next21 v15 s hnext21 hL ⟨fr11, h10, rfl, hG, e12, e13, e14, e16, hb17, hs18, hs19, hs20⟩
    dsimp only [f54_b0] at hL
    refine WC.seq ?_
    refine WC.region ?_
    refine WO.bin gN rfl (evT e16 rfl) (evT e14 rfl) abin_lss ?_
    refine WO.nil ?_
    refine SeqK.nrm ?_
    refine WC.seq ?_
    refine WC.condN (evT fh rfl) (fun hc => ?_) (fun hc => ?_)
    · replace hL := cond_tt hc hL
      refine WC.skip ?_
      refine SeqK.nrm ?_
      refine WC.seq ?_
      refine WC.block ?_
      refine WC.seq ?_
      refine WC.region ?_
      refine WO.mv gN rfl (evT (fskip rfl e16) rfl) ?_
      obtain ⟨x22, hx22, hL⟩ := bind_some hL
      obtain ⟨b23, o24, _, hab23, hAb23, hSb23, hFb23⟩ := Sl.at_ hs18 hx22
      refine WO.ix gN rfl und24 size3 (evT (fs2 rfl e13) rfl) (evT (fs2 rfl e16) rfl) hab23 hx22 ?_
      refine WO.ld gN rfl agg3 (evT fh rfl) hAb23 (j := 0) rfl (v := .int .i64 x22) rfl ?_
      refine WO.as gN rfl (evT (fs2 rfl fh) rfl) ?_
      refine WO.as gN rfl (evT (fskip rfl fh) rfl) ?_
      refine WO.nil ?_
      refine SeqK.nrm ?_
      refine WC.seq ?_
      refine WC.region ?_
      refine WO.mv gN rfl (evT fh rfl) ?_
      refine WO.bin gN rfl (evT fh rfl) (evC rfl) abin_lss ?_
      refine WO.mv gN rfl (evT fh rfl) ?_
      refine WO.gmv (GuardIs.no rfl rfl rfl fh) rfl (fun hg => (evT (fs2 rfl (fskip rfl fh)) rfl)) ?_
      refine WO.gfld (GuardIs.no rfl rfl rfl (fskip rfl fh)) rfl fld26_2 (fun hg => (evT (fs8 rfl (fs2 rfl e12)) rfl)) ?_
      refine WO.gld (GuardIs.no rfl rfl rfl (fs2 rfl fh)) rfl agg3 (fun hg => (evG fh rfl hg)) (fun hg => (At.box hb17)) (j := 2) rfl (v := .int .i64 p0.names) rfl ?_
      refine WO.gbin (GuardIs.no rfl rfl rfl (fs2 rfl (fskip rfl fh))) rfl (fun hg => (evG (fs2 rfl fh) rfl hg)) (fun hg => (evG fh rfl hg)) (fun hg => abin_geq) ?_
      refine WO.por gN rfl (evT (fs4 rfl fh) rfl) (evC rfl) (evGU fh) ?_
      refine WO.mv gN rfl (evT fh rfl) ?_
      refine WO.gmv (GuardIs.no rfl rfl rfl fh) rfl (fun hg => (evT (fs8 rfl (fs2 rfl fh)) rfl)) ?_
      refine WO.gbin (GuardIs.no rfl rfl rfl (fskip rfl fh)) rfl (fun hg => (evG fh rfl hg)) (fun hg => (evC rfl)) (fun hg => abin_gtr) ?_
      refine WO.gmv (GuardIs.no rfl rfl rfl (fs2 rfl fh)) rfl (fun hg => (evG fh rfl hg)) ?_
      refine WO.gmv (GuardIs.yes2 rfl rfl rfl fh) rfl (fun hg => (evT (fs8 rfl (fs4 rfl fh)) rfl)) ?_
      refine WO.gfld (GuardIs.yes2 rfl rfl rfl (fskip rfl fh)) rfl fld26_3 (fun hg => (evT (fs8 rfl (fs8 rfl (fs2 rfl (fskip rfl e12)))) rfl)) ?_
      refine WO.gld (GuardIs.yes2 rfl rfl rfl (fs2 rfl fh)) rfl agg24 (fun hg => (evG fh rfl hg)) (fun hg => (At.box hb17)) (j := 3) rfl (v := .slice a5 p0.freed.length c6) rfl ?_
      refine WO.gmv (GuardIs.yes2 rfl rfl rfl (fs2 rfl (fskip rfl fh))) rfl (fun hg => (evT (fs8 rfl (fs8 rfl fh)) rfl)) ?_
      refine WO.gbin (GuardIs.yes2 rfl rfl rfl (fs4 rfl fh)) rfl (fun hg => (evG fh rfl hg)) (fun hg => (evC rfl)) (fun hg => abin_subw) ?_
      obtain ⟨x25, hx25, hL⟩ := gd_some hL
      obtain ⟨b26, o27, _, hQ⟩ := Sl.atG (fun hg => hs18) hx25
      have hab26 := fun hg => (hQ hg).1
      have hAb26 := fun hg => (hQ hg).2.1
      have hSb26 := fun hg => (hQ hg).2.2.1
      have hFb26 := fun hg => (hQ hg).2.2.2
      refine WO.gix (GuardIs.yes2 rfl rfl rfl (fs4 rfl (fskip rfl fh))) rfl und24 size3 (fun hg => (evG (fs2 rfl fh) rfl hg)) (fun hg => (evG fh rfl hg)) hab26 hx25 ?_
      refine WO.gld (GuardIs.yes2 rfl rfl rfl (fs4 rfl (fs2 rfl fh))) rfl agg3 (fun hg => (evG fh rfl hg)) (fun hg => (hAb26 hg)) (j := 0) rfl (v := .int .i64 x25) rfl ?_
      refine WO.gbin (GuardIs.yes2 rfl rfl rfl (fs4 rfl (fs2 rfl (fskip rfl fh)))) rfl (fun hg => (evG (fs4 rfl (fs2 rfl fh)) rfl hg)) (fun hg => (evG fh rfl hg)) (fun hg => abin_leq) ?_
      refine WO.gand (GuardIs.no rfl rfl rfl (fs8 rfl (fs2 rfl (fskip rfl fh)))) rfl (fun hg => (evG (fs8 rfl fh) rfl hg)) (fun hg => evGU2 fh hg) (fun hg => (evC rfl)) ?_
      refine WO.por gN rfl (evT (fs8 rfl (fs4 rfl fh)) rfl) (evC rfl) (evGU fh) ?_
      refine WO.nil ?_
      refine SeqK.nrm ?_
      refine WC.condN (evT fh rfl) (fun hc => ?_) (fun hc => ?_)
      · replace hL := cond_tt hc hL
        refine WC.seq ?_
        refine WC.region ?_
        refine WO.as gN rfl (evC rfl) ?_
        refine WO.nil ?_
        refine SeqK.nrm ?_
        refine WC.ret ?_
        refine BlkK.ret ?_
        refine SeqK.ret ?_
        refine LoopK.ret ?_
        refine BlkK.ret ?_
        refine SeqK.ret ?_
        have hr := Option.some.inj hL
        subst hr
        exact RetK.gen1 rfl (ares_tmp (evT fh rfl) ares_nil) rfl
      · replace hL := cond_ff hc hL
        refine WC.skip ?_
        refine BlkK.nrm ?_
        refine SeqK.nrm ?_
        refine WC.region ?_
        refine WO.bin gN rfl (evT (fs8 rfl (fs8 rfl (fs8 rfl (fs4 rfl e16)))) rfl) (evC rfl) abin_addw ?_
        refine WO.mv gN rfl (evT fh rfl) ?_
        refine WO.nil ?_
        exact LoopK.nrm (hnext21 _ _ hL ⟨_, _, rfl, hG, (fs8 rfl (fs8 rfl (fs8 rfl (fs4 rfl (fs2 rfl e12))))), (fs8 rfl (fs8 rfl (fs8 rfl (fs4 rfl (fs2 rfl e13))))), (fs8 rfl (fs8 rfl (fs8 rfl (fs4 rfl (fs2 rfl e14))))), fh, hb17, hs18, hs19, hs20⟩)
    · replace hL := cond_ff hc hL
      refine WC.exit ?_
      refine SeqK.exit ?_
      refine LoopK.exit ?_
      refine BlkK.here ?_
      refine SeqK.nrm ?_
      refine WC.seq ?_
      refine WC.region ?_
      refine WO.fld gN rfl fld26_0 (evT (fskip rfl e12) rfl) ?_
      refine WO.ld gN rfl agg22 (evT fh rfl) (At.box hb17) (j := 0) rfl (v := .slice a1 p0.cells.length c2) rfl ?_
      refine WO.len gN rfl und22 (evT fh rfl) ?_
      refine WO.fld gN rfl fld26_2 (evT (fs4 rfl e12) rfl) ?_
      refine WO.ld gN rfl agg3 (evT fh rfl) (At.box hb17) (j := 2) rfl (v := .int .i64 p0.names) rfl ?_
      refine WO.fld gN rfl fld26_3 (evT (fs4 rfl (fs2 rfl e12)) rfl) ?_
      refine WO.ld gN rfl agg24 (evT fh rfl) (At.box hb17) (j := 3) rfl (v := .slice a5 p0.freed.length c6) rfl ?_
      refine WO.bld gN rfl bld97 (evp_cons (evT (fs4 rfl fh) rfl) (evp_cons (evT (fs2 rfl fh) rfl) (evp_cons (evT fh rfl) evp_nil))) rfl (cs' := [.int .i64 (p0.cells.length : Int), .int .i64 p0.names, .map none, .slice none 0 0, .slice a5 p0.freed.length c6]) rfl ?_
      refine WO.boxN h.size gN rfl (evT fh rfl) (vs := [.int .i64 (p0.cells.length : Int), .int .i64 p0.names, .map none, .slice none 0 0, .slice a5 p0.freed.length c6]) rfl (fun h28 u29 hb30 => ?_)
      have whb30 : h.size ≤ h10.size := hG.size
      have ne31 := Nat.ne_of_lt (live_lt hb17 rfl)
      have hb17 := u29.row (fun z => z) hb17
      have hs18 := hs18.mono (u29.fz hwm)
      have hs19 := hs19.mono (u29.fz hwm)
      have hs20 := hs20.mono (u29.fz hwm)
      have hG := u29.grow hG (Nat.le_refl _)
      refine WO.as gN rfl (evT fh rfl) ?_
      refine WO.nil ?_
      refine SeqK.nrm ?_
      refine WC.seq ?_
      refine WC.seq ?_
      refine WC.region ?_
      refine WO.mv gN rfl (evT fh rfl) ?_
      refine WO.ldA gN rfl agg26 size26 (evT (fs8 rfl (fs4 rfl e12)) rfl) (At.box hb17) (j := 0) rfl rfl (ws := [.slice a1 p0.cells.length c2, .slice a3 p0.notes.length c4, .int .i64 p0.names, .slice a5 p0.freed.length c6]) rfl ?_
      obtain ⟨x32, hx32, hL⟩ := bind_some hL
      refine WO.cf gN rfl has88 (evs_cons (evT (fskip rfl fh) rfl) (evs_cons (evT fh rfl) evs_nil)) (f88_ok (At.box hb30) (.inl (live_lt hb30 rfl)) (MapAt.all (MapS.at_ (wm := wm) MapS.nil)) (Src.sl (Sl.src Sl.nil) (Nat.le_trans hwm hG.size)) (Src.sl (Sl.src hs18) (Nat.le_trans hwm hG.size)) (Src.sl (Sl.src hs19) (Nat.le_trans hwm hG.size)) (Src.sl (Sl.src hs20) (Nat.le_trans hwm hG.size)) (Src.sl (Sl.src hs18) (Nat.le_trans hwm hG.size)) hx32 _) ?_
      refine WO.not gN rfl (evT fh rfl) ?_
      refine WO.nil ?_
      refine SeqK.nrm ?_
      refine WC.condN (evT fh rfl) (fun hc => ?_) (fun hc => ?_)
      · replace hL := cond_tt hc hL
        refine WC.seq ?_
        refine WC.region ?_
        refine WO.as gN rfl (evC rfl) ?_
        refine WO.nil ?_
        refine SeqK.nrm ?_
        refine WC.ret ?_
        refine SeqK.ret ?_
        have hr := Option.some.inj hL
        subst hr
        exact RetK.gen1 rfl (ares_tmp (evT fh rfl) ares_nil) rfl
      · replace hL := cond_ff hc hL
        refine WC.skip ?_
        refine SeqK.nrm ?_
        refine WC.seq ?_
        refine WC.region ?_
        refine WO.ldA gN rfl agg26 size26 (evT (fs8 rfl (fs4 rfl (fs2 rfl (fskip rfl e12)))) rfl) (At.box hb17) (j := 0) rfl rfl (ws := [.slice a1 p0.cells.length c2, .slice a3 p0.notes.length c4, .int .i64 p0.names, .slice a5 p0.freed.length c6]) rfl ?_
        obtain ⟨x33, hx33, hL⟩ := bind_some hL
        refine WO.cw gN rfl has56 (evs_cons (evT fh rfl) evs_nil) (f56_wf (Nat.le_trans hwm hG.size) hs19 hs20 hs18 hx33) (fun y49 h40 hr42 => ?_)
        obtain ⟨b39, m34, a35, c36, a37, c38, rfl, gr41, hb47, hw48, ho44, ho45, ho46, dj50⟩ := hr42
        have u43 := Up.of_grow h.size gr41
        have ho44 := MapO.lower hG.size ho44
        have ho45 := OwnS.lower hG.size ho45
        have ho46 := OwnS.lower hG.size ho46
        have ne51 : h.size ≠ b39 := Nat.ne_of_lt (Nat.lt_of_lt_of_le (live_lt hb17 rfl) hw48)
        have ne52 : h10.size ≠ b39 := Nat.ne_of_lt (Nat.lt_of_lt_of_le (live_lt hb30 rfl) hw48)
        have hw48 := Nat.le_trans hG.size hw48
        have hb17 := u43.row (fun z => z) hb17
        have hb30 := u43.row (fun z => z) hb30
        have hs18 := hs18.mono (u43.fz hwm)
        have hs19 := hs19.mono (u43.fz hwm)
        have hs20 := hs20.mono (u43.fz hwm)
        have hG := u43.grow hG (Nat.le_refl _)
        refine WO.as gN rfl (evT fh rfl) ?_
        refine WO.nil ?_
        refine SeqK.nrm ?_
        refine WC.seq ?_
        refine WC.region ?_
        refine WO.mv gN rfl (evT fh rfl) ?_
        obtain ⟨x53, hx53, hL⟩ := bind_some hL
        refine WO.cw gN rfl has68 (evs_cons (evT fh rfl) evs_nil) (WR.weaken (Nat.le_trans hwm hG.size) (Nat.le_refl _) (f68_wf (Nat.le_refl _) (At.box hb47) (.inl (live_lt hb47 rfl)) (MapAt.all (ho44).at_) (Src.sl (OwnS.src ho45) (Nat.le_trans hwm hG.size)) (Src.sl (OwnS.src ho46) (Nat.le_trans hwm hG.size)) hx53)) (fun y62 h56 hr58 => ?_)
        obtain ⟨m54, m55, rfl, gr57, ho60, ho61, dj63⟩ := hr58
        have u59 := Up.of_grow h.size gr57
        have dj64 := MapO.calldj ho60 ho44
        have ho60 := MapO.lower hG.size ho60
        have dj65 := MapO.calldj ho61 ho44
        have ho61 := MapO.lower hG.size ho61
        have hb17 := u59.row (fun z => z) hb17
        have hb30 := u59.row (fun z => z) hb30
        have hb47 := u59.row (fun z => z) hb47
        have hs18 := hs18.mono (u59.fz hwm)
        have hs19 := hs19.mono (u59.fz hwm)
        have hs20 := hs20.mono (u59.fz hwm)
        have ho44 := MapO.step u59 (fun _ _ z => z) ho44
        have ho45 := OwnS.step u59 hwm (fun _ _ z => z) ho45
        have ho46 := OwnS.step u59 hwm (fun _ _ z => z) ho46
        have hG := u59.grow hG (Nat.le_refl _)
        refine WO.mv gN rfl (evT fh rfl) ?_
        refine WO.v gN rfl (av_extract (evT fh rfl) (v := .map m54) rfl) rfl ?_
        refine WO.v gN rfl (av_extract (evT (fskip rfl fh) rfl) (v := .map m55) rfl) rfl ?_
        refine WO.as gN rfl (evT (fskip rfl fh) rfl) ?_
        refine WO.as gN rfl (evT (fskip rfl fh) rfl) ?_
        refine WO.nil ?_
        refine SeqK.nrm ?_
        refine WC.seq ?_
        refine WC.seq ?_
        refine WC.region ?_
        refine WO.mv gN rfl (evT (fs4 rfl (fs2 rfl (fskip rfl fh))) rfl) ?_
        refine WO.nck gN rfl (evT fh rfl) ?_
        refine WO.fld gN rfl fld97_1 (evT fh rfl) ?_
        refine WO.ld gN rfl agg3 (evT fh rfl) (At.box hb47) (j := 1) rfl (v := .int .i64 x33.names) rfl ?_
        refine WO.mv gN rfl (evC rfl) ?_
        refine WO.nil ?_
        refine SeqK.nrm ?_
        refine WC.block ?_
        refine WC.loop (WL.lift hL (fun (v72 : Int) (s : Fs) => ∃ (fr67 : Fr) (h66 : H), s = ⟨fr67, [], h66, none⟩ ∧ Grow h h66 ∧ fr67.at 5 = .pointer (some ⟨b39, 0, none⟩) ∧ fr67.at 6 = .map m54 ∧ fr67.at 7 = .map m55 ∧ fr67.at 100 = .int .i64 x33.names ∧ fr67.at 101 = .int .i64 v72 ∧ h66.at (b39) = .row [.int .i64 x33.machines, .int .i64 x33.names, .map m34, .slice a35 x33.notes.length c36, .slice a37 x33.freed.length c38] true 0 ∧ MapO wvArr2Int (Value.int .i64) h.size h66 m54 x53.1 ∧ MapO wvArr2Int (Value.int .i64) h.size h66 m55 x53.2 ∧ MapO wvArr2Int wvWeighCell h.size h66 m34 x33.cells ∧ OwnS rWeighNote wm h.size h66 a35 c36 x33.notes ∧ OwnS (rInt .i64) wm h.size h66 a37 c38 x33.freed ∧ (∀ i : Nat, m55 = some i → m54 = some i → False) ∧ (∀ i : Nat, m34 = some i → m54 = some i → False) ∧ (∀ i : Nat, m34 = some i → m55 = some i → False) ∧ (∀ i, BaseA a37 i → BaseA a35 i → False)) ⟨_, _, rfl, hG, (fs8 rfl (fs4 rfl fh)), (fs4 rfl (fs2 rfl fh)), (fs4 rfl (fskip rfl fh)), (fskip rfl fh), fh, hb47, ho60, ho61, ho44, ho45, ho46, dj63, (fun i p q => dj64 i q p), (fun i p q => dj65 i q p), dj50⟩ ?_)
        clear hL
        rintro next84 v72 s hnext84 hL ⟨fr67, h66, rfl, hG, e68, e69, e70, e71, e73, hb74, ho75, ho76, ho77, ho78, ho79, dj80, dj81, dj82, dj83⟩
        dsimp only [f54_b1] at hL
        refine WC.seq ?_
        refine WC.region ?_
        refine WO.bin gN rfl (evT e73 rfl) (evT e71 rfl) abin_lss ?_
        refine WO.nil ?_
        refine SeqK.nrm ?_
        refine WC.seq ?_
        refine WC.condN (evT fh rfl) (fun hc => ?_) (fun hc => ?_)
        · replace hL := cond_tt hc hL
          refine WC.skip ?_
          refine SeqK.nrm ?_
          refine WC.seqJ (r := r) (fun (p : Unit) (s : Fs) => ∃ (fr86 : Fr) (h85 : H), s = ⟨fr86, [], h85, none⟩ ∧ Grow h h85 ∧ fr86.at 5 = .pointer (some ⟨b39, 0, none⟩) ∧ fr86.at 6 = .map m54 ∧ fr86.at 7 = .map m55 ∧ fr86.at 100 = .int .i64 x33.names ∧ fr86.at 101 = .int .i64 v72 ∧ h85.at (b39) = .row [.int .i64 x33.machines, .int .i64 x33.names, .map m34, .slice a35 x33.notes.length c36, .slice a37 x33.freed.length c38] true 0 ∧ MapO wvArr2Int (Value.int .i64) h.size h85 m54 x53.1 ∧ MapO wvArr2Int (Value.int .i64) h.size h85 m55 x53.2 ∧ MapO wvArr2Int wvWeighCell h.size h85 m34 x33.cells ∧ OwnS rWeighNote wm h.size h85 a35 c36 x33.notes ∧ OwnS (rInt .i64) wm h.size h85 a37 c38 x33.freed ∧ (∀ i : Nat, m55 = some i → m54 = some i → False) ∧ (∀ i : Nat, m34 = some i → m54 = some i → False) ∧ (∀ i : Nat, m34 = some i → m55 = some i → False) ∧ (∀ i, BaseA a37 i → BaseA a35 i → False)) (f54_j0 v72 next84) ?_ ?_
          · clear hL
            rintro _ s hL ⟨fr86, h85, rfl, hG, e87, e88, e89, e90, e91, hb92, ho93, ho94, ho95, ho96, ho97, dj98, dj99, dj100, dj101⟩
            dsimp only [f54_j0] at hL
            refine WC.region ?_
            refine WO.bin gN rfl (evT e91 rfl) (evC rfl) abin_addw ?_
            refine WO.mv gN rfl (evT fh rfl) ?_
            refine WO.nil ?_
            exact LoopK.nrm (hnext84 _ _ hL ⟨_, _, rfl, hG, (fs2 rfl e87), (fs2 rfl e88), (fs2 rfl e89), (fs2 rfl e90), fh, hb92, ho93, ho94, ho95, ho96, ho97, dj98, dj99, dj100, dj101⟩)
          · skip
            refine WC.block ?_
            refine WC.seq ?_
            refine WC.region ?_
            refine WO.mv gN rfl (evT (fskip rfl e73) rfl) ?_
            refine WO.as gN rfl (evT fh rfl) ?_
            refine WO.nil ?_
            refine SeqK.nrm ?_
            refine WC.seq ?_
            refine WC.seq ?_
            refine WC.region ?_
            refine WO.mv gN rfl (evT (fs2 rfl (fskip rfl e68)) rfl) ?_
            refine WO.mv gN rfl (evT (fskip rfl fh) rfl) ?_
            obtain ⟨x102, hx102, hL⟩ := bind_some hL
            refine WO.cf gN rfl has89 (evs_cons (evT (fskip rfl fh) rfl) (evs_cons (evT fh rfl) evs_nil)) (f89_ok (At.box hb74) (.inl (live_lt hb74 rfl)) (MapAt.all (ho77).at_) (Src.sl (OwnS.src ho78) (Nat.le_trans hwm hG.size)) (Src.sl (OwnS.src ho79) (Nat.le_trans hwm hG.size)) hx102 _) ?_
            refine WO.not gN rfl (evT fh rfl) ?_
            refine WO.nil ?_
            refine SeqK.nrm ?_
            refine WC.condN (evT fh rfl) (fun hc => ?_) (fun hc => ?_)
            · replace hL := cond_tt hc hL
              refine WC.exit ?_
              refine SeqK.exit ?_
              refine BlkK.here ?_
              exact SeqJ.nrm _ hL ⟨_, _, rfl, hG, (fs4 rfl (fs2 rfl (fskip rfl e68))), (fs4 rfl (fs2 rfl (fskip rfl e69))), (fs4 rfl (fs2 rfl (fskip rfl e70))), (fs4 rfl (fs2 rfl (fskip rfl e71))), (fs4 rfl (fs2 rfl (fskip rfl e73))), hb74, ho75, ho76, ho77, ho78, ho79, dj80, dj81, dj82, dj83⟩
            · replace hL := cond_ff hc hL
              refine WC.skip ?_
              refine SeqK.nrm ?_
              refine WC.seq ?_
              refine WC.region ?_
              refine WO.mv gN rfl (evT (fs4 rfl (fs2 rfl (fskip rfl e68))) rfl) ?_
              refine WO.mv gN rfl (evT (fs4 rfl (fskip rfl fh)) rfl) ?_
              obtain ⟨x103, hx103, hL⟩ := bind_some hL
              refine WO.cw gN rfl has90 (evs_cons (evT (fskip rfl fh) rfl) (evs_cons (evT fh rfl) evs_nil)) (WR.weaken (Nat.le_trans hwm hG.size) (Nat.le_refl _) (f90_wf (Nat.le_refl _) (At.box hb74) (.inl (live_lt hb74 rfl)) (MapAt.all (ho77).at_) (Src.sl (OwnS.src ho78) (Nat.le_trans hwm hG.size)) (Src.sl (OwnS.src ho79) (Nat.le_trans hwm hG.size)) hx103)) (fun y111 h106 hr108 => ?_)
              obtain ⟨a104, c105, rfl, gr107, ho110⟩ := hr108
              have u109 := Up.of_grow h.size gr107
              have dj112 := OwnS.calldj ho110 ho78
              have dj113 := OwnS.calldj ho110 ho79
              have ho110 := OwnS.flat (wm' := wm) (by intro _ _ _ _; trivial) ho110
              have ho110 := OwnS.lower hG.size ho110
              have hb74 := u109.row (fun z => z) hb74
              have ho75 := MapO.step u109 (fun _ _ z => z) ho75
              have ho76 := MapO.step u109 (fun _ _ z => z) ho76
              have ho77 := MapO.step u109 (fun _ _ z => z) ho77
              have ho78 := OwnS.step u109 hwm (fun _ _ z => z) ho78
              have ho79 := OwnS.step u109 hwm (fun _ _ z => z) ho79
              have hG := u109.grow hG (Nat.le_refl _)
              refine WO.as gN rfl (evT fh rfl) ?_
              refine WO.nil ?_
              refine SeqK.nrm ?_
              refine WC.seq ?_
              refine WC.seq ?_
              refine WC.region ?_
              refine WO.mv gN rfl (evT fh rfl) ?_
              refine WO.len gN rfl und24 (evT fh rfl) ?_
              refine WO.bin gN rfl (evT fh rfl) (evC rfl) abin_neq ?_
              refine WO.mv gN rfl (evT fh rfl) ?_
              refine WO.gmv (GuardIs.no rfl rfl rfl fh) rfl (fun hg => (evT (fs8 rfl (fs4 rfl (fs2 rfl (fskip rfl e68)))) rfl)) ?_
              refine WO.gmv (GuardIs.no rfl rfl rfl (fskip rfl fh)) rfl (fun hg => (evT (fs8 rfl (fs4 rfl (fskip rfl fh))) rfl)) ?_
              refine WO.gmv (GuardIs.no rfl rfl rfl (fs2 rfl fh)) rfl (fun hg => (evT (fs4 rfl (fs2 rfl fh)) rfl)) ?_
              obtain ⟨x114, hx114, hL⟩ := gd_some hL
              obtain ⟨b115, o116, _, hQ⟩ := Src.atG (fun hg => (OwnS.src ho110)) hx114
              have hab115 := fun hg => (hQ hg).1
              have hAb115 := fun hg => (hQ hg).2.1
              have hFb115 := fun hg => (hQ hg).2.2
              refine WO.gix (GuardIs.no rfl rfl rfl (fs2 rfl (fskip rfl fh))) rfl und24 size3 (fun hg => (evG fh rfl hg)) (fun hg => (evC rfl)) hab115 hx114 ?_
              refine WO.gld (GuardIs.no rfl rfl rfl (fs4 rfl fh)) rfl agg3 (fun hg => (evG fh rfl hg)) (fun hg => (hAb115 hg)) (j := 0) rfl (v := .int .i64 x114) rfl ?_
              obtain ⟨x117, hx117, hL⟩ := gd_some hL
              refine WO.gcf (GuardIs.no rfl rfl rfl (fs4 rfl (fskip rfl fh))) rfl has91 (fun hg => (evs_cons (evG (fs4 rfl fh) rfl hg) (evs_cons (evG (fs2 rfl (fskip rfl fh)) rfl hg) (evs_cons (evG fh rfl hg) evs_nil)))) (fun hg => f91_ok (At.box hb74) (.inl (live_lt hb74 rfl)) (MapAt.all (ho77).at_) (Src.sl (OwnS.src ho78) (Nat.le_trans hwm hG.size)) (Src.sl (OwnS.src ho79) (Nat.le_trans hwm hG.size)) (hx117 hg) _) ?_
              refine WO.gnot (GuardIs.no rfl rfl rfl (fs4 rfl (fs2 rfl fh))) rfl (fun hg => (evG fh rfl hg)) ?_
              refine WO.por gN rfl (evT (fs4 rfl (fs2 rfl (fskip rfl fh))) rfl) (evC rfl) (evGU fh) ?_
              refine WO.nil ?_
              refine SeqK.nrm ?_
              refine WC.condN (evT fh rfl) (fun hc => ?_) (fun hc => ?_)
              · replace hL := cond_tt hc hL
                refine WC.seq ?_
                refine WC.region ?_
                refine WO.as gN rfl (evC rfl) ?_
                refine WO.nil ?_
                refine SeqK.nrm ?_
                refine WC.ret ?_
                refine SeqK.ret ?_
                refine BlkK.ret ?_
                refine SeqJ.ret ?_
                refine LoopK.ret ?_
                refine BlkK.ret ?_
                refine SeqK.ret ?_
                have hr := Option.some.inj hL
                subst hr
                exact RetK.gen1 rfl (ares_tmp (evT fh rfl) ares_nil) rfl
              · replace hL := cond_ff hc hL
                refine WC.skip ?_
                refine SeqK.nrm ?_
                refine WC.seq ?_
                refine WC.region ?_
                refine WO.mv gN rfl (evT (fs8 rfl (fs8 rfl (fs4 rfl (fs2 rfl (fskip rfl e68))))) rfl) ?_
                refine WO.nck gN rfl (evT fh rfl) ?_
                refine WO.fld gN rfl fld97_0 (evT fh rfl) ?_
                refine WO.ld gN rfl agg3 (evT fh rfl) (At.box hb74) (j := 0) rfl (v := .int .i64 x33.machines) rfl ?_
                refine WO.mv gN rfl (evC rfl) ?_
                refine WO.nil ?_
                refine SeqK.nrm ?_
                refine WC.block ?_
                refine WC.loop (WL.lift hL (fun (v127 : Int) (s : Fs) => ∃ (fr119 : Fr) (h118 : H), s = ⟨fr119, [], h118, none⟩ ∧ Grow h h118 ∧ fr119.at 5 = .pointer (some ⟨b39, 0, none⟩) ∧ fr119.at 6 = .map m54 ∧ fr119.at 7 = .map m55 ∧ fr119.at 8 = .int .i64 v72 ∧ fr119.at 100 = .int .i64 x33.names ∧ fr119.at 101 = .int .i64 v72 ∧ fr119.at 126 = .int .i64 x33.machines ∧ fr119.at 127 = .int .i64 v127 ∧ h118.at (b39) = .row [.int .i64 x33.machines, .int .i64 x33.names, .map m34, .slice a35 x33.notes.length c36, .slice a37 x33.freed.length c38] true 0 ∧ MapO wvArr2Int (Value.int .i64) h.size h118 m54 x53.1 ∧ MapO wvArr2Int (Value.int .i64) h.size h118 m55 x53.2 ∧ MapO wvArr2Int wvWeighCell h.size h118 m34 x33.cells ∧ OwnS rWeighNote wm h.size h118 a35 c36 x33.notes ∧ OwnS (rInt .i64) wm h.size h118 a37 c38 x33.freed ∧ (∀ i : Nat, m55 = some i → m54 = some i → False) ∧ (∀ i : Nat, m34 = some i → m54 = some i → False) ∧ (∀ i : Nat, m34 = some i → m55 = some i → False) ∧ (∀ i, BaseA a37 i → BaseA a35 i → False)) ⟨_, _, rfl, hG, (fs8 rfl (fs8 rfl (fs8 rfl (fs4 rfl e68)))), (fs8 rfl (fs8 rfl (fs8 rfl (fs4 rfl e69)))), (fs8 rfl (fs8 rfl (fs8 rfl (fs4 rfl e70)))), (fs8 rfl (fs8 rfl (fs8 rfl (fskip rfl fh)))), (fs8 rfl (fs8 rfl (fs8 rfl (fs4 rfl e71)))), (fs8 rfl (fs8 rfl (fs8 rfl (fs4 rfl e73)))), (fskip rfl fh), fh, hb74, ho75, ho76, ho77, ho78, ho79, dj80, dj81, dj82, dj83⟩ ?_)
                clear hL
                rintro next139 v127 s hnext139 hL ⟨fr119, h118, rfl, hG, e120, e121, e122, e123, e124, e125, e126, e128, hb129, ho130, ho131, ho132, ho133, ho134, dj135, dj136, dj137, dj138⟩
                dsimp only [f54_b2] at hL
                refine WC.seq ?_
                refine WC.region ?_
                refine WO.bin gN rfl (evT e128 rfl) (evT e126 rfl) abin_lss ?_
                refine WO.nil ?_
                refine SeqK.nrm ?_
                refine WC.seq ?_
                refine WC.condN (evT fh rfl) (fun hc => ?_) (fun hc => ?_)
                · replace hL := cond_tt hc hL
                  refine WC.skip ?_
                  refine SeqK.nrm ?_
                  refine WC.seq ?_
                  refine WC.block ?_
                  refine WC.seq ?_
                  refine WC.region ?_
                  refine WO.mv gN rfl (evT (fskip rfl e128) rfl) ?_
                  refine WO.as gN rfl (evT fh rfl) ?_
                  refine WO.nil ?_
                  refine SeqK.nrm ?_
                  refine WC.seq ?_
                  refine WC.region ?_
                  refine WO.mv gN rfl (evT fh rfl) ?_
                  refine WO.mv gN rfl (evT (fs4 rfl e123) rfl) ?_
                  refine WO.bldA gN rfl bld113 (evp_cons (evT (fskip rfl fh) rfl) (evp_cons (evT fh rfl) evp_nil)) rfl (cs' := [.int .i64 v127, .int .i64 v72]) rfl ?_
                  refine WO.alcN h.size gN rfl zero113 (vs := [.int .i64 0, .int .i64 0]) rfl (fun h140 u141 hb142 => ?_)
                  have whb142 : h.size ≤ h118.size := hG.size
                  have ne143 := Nat.ne_of_lt (live_lt hb129 rfl)
                  have hb129 := u141.row (fun z => z) hb129
                  have ho130 := MapO.step u141 (fun _ _ z => z) ho130
                  have ho131 := MapO.step u141 (fun _ _ z => z) ho131
                  have ho132 := MapO.step u141 (fun _ _ z => z) ho132
                  have ho133 := OwnS.step u141 hwm (fun _ _ z => z) ho133
                  have ho134 := OwnS.step u141 hwm (fun _ _ z => z) ho134
                  have hG := u141.grow hG (Nat.le_refl _)
                  refine WO.stN h.size gN size113 (evT fh rfl) (evT (fskip rfl fh) rfl) hb142 whb142 hwm (vs := [.int .i64 v127, .int .i64 v72]) rfl rfl rfl rfl (cs' := [.int .i64 v127, .int .i64 v72]) rfl (fun h144 u145 hb146 => ?_)
                  have hb129 := u145.row ne143 hb129
                  have ho130 := MapO.step u145 (fun i e z => MapO.notBox ho130.at_ hb142 (z ▸ e)) ho130
                  have ho131 := MapO.step u145 (fun i e z => MapO.notBox ho131.at_ hb142 (z ▸ e)) ho131
                  have ho132 := MapO.step u145 (fun i e z => MapO.notBox ho132.at_ hb142 (z ▸ e)) ho132
                  have ho133 := OwnS.step u145 hwm (fun i hb z => by subst z; exact OwnS.notBox ho133 hb142 hb) ho133
                  have ho134 := OwnS.step u145 hwm (fun i hb z => by subst z; exact OwnS.notBox ho134 hb142 hb) ho134
                  have hG := u145.grow hG (Nat.le_refl _)
                  refine WO.nil ?_
                  refine SeqK.nrm ?_
                  refine WC.seq ?_
                  refine WC.drawQ mixed (by kernel_rfl) ?_
                  refine WQ.mv gN rfl (evT (fs4 rfl (fs2 rfl (fskip rfl e121))) rfl) ?_
                  refine WQ.ldA gN rfl agg113 size113 (evT (fskip rfl fh) rfl) (At.box hb146) (j := 0) rfl rfl (ws := [.int .i64 v127, .int .i64 v72]) rfl ?_
                  obtain ⟨x147, hx147, hL⟩ := bind_some hL
                  refine WQ.v gN rfl (av_lkpx (kv := wvArr2Int) (vv := (Value.int .i64)) (k := (Arr2Int.mk v127 v72)) (z := 0) key113 und110 zero3 (evT (fskip rfl fh) rfl) (evT fh rfl) (ho130).at_ hx147 (w := .int .i64 x147) rfl) ?_
                  refine WQ.mv gN rfl (evT (fs8 rfl (fs2 rfl e122)) rfl) ?_
                  refine WQ.ldA gN rfl agg113 size113 (evT (fs4 rfl fh) rfl) (At.box hb146) (j := 0) rfl rfl (ws := [.int .i64 v127, .int .i64 v72]) rfl ?_
                  obtain ⟨x148, hx148, hL⟩ := bind_some hL
                  refine WQ.v gN rfl (av_lkpx (kv := wvArr2Int) (vv := (Value.int .i64)) (k := (Arr2Int.mk v127 v72)) (z := 0) key113 und110 zero3 (evT (fskip rfl fh) rfl) (evT fh rfl) (ho131).at_ hx148 (w := .int .i64 x148) rfl) ?_
                  refine WQ.bin gN rfl (evT (fs2 rfl (fskip rfl fh)) rfl) (evT fh rfl) abin_neq ?_
                  refine WQ.mv gN rfl (evT fh rfl) ?_
                  refine WQ.gmv (GuardIs.no rfl rfl rfl fh) rfl (fun hg => (evT (fs8 rfl (fs4 rfl (fs2 rfl (fskip rfl e121)))) rfl)) ?_
                  refine WQ.gldA (GuardIs.no rfl rfl rfl (fskip rfl fh)) rfl agg113 size113 (fun hg => (evT (fs8 rfl (fskip rfl fh)) rfl)) (fun hg => (At.box hb146)) (j := 0) rfl rfl (ws := [.int .i64 v127, .int .i64 v72]) rfl ?_
                  obtain ⟨x149, hx149, hL⟩ := gd_some hL
                  refine WQ.gv (GuardIs.no rfl rfl rfl (fs2 rfl fh)) rfl (fun hg => av_lkpx (kv := wvArr2Int) (vv := (Value.int .i64)) (k := (Arr2Int.mk v127 v72)) (z := 0) key113 und110 zero3 (evG (fskip rfl fh) rfl hg) (evG fh rfl hg) (ho130).at_ (hx149 hg) (w := .int .i64 x149) rfl) ?_
                  refine WQ.gbin (GuardIs.no rfl rfl rfl (fs2 rfl (fskip rfl fh))) rfl (fun hg => (evG fh rfl hg)) (fun hg => (evC rfl)) (fun hg => abin_gtr) ?_
                  refine WQ.or gN rfl (evT (fs4 rfl fh) rfl) (evC rfl) (evGU fh) ?_
                  refine WQ.nil ?_
                  refine SeqK.nrm ?_
                  refine WC.condN (evT fh rfl) (fun hc => ?_) (fun hc => ?_)
                  · replace hL := cond_tt hc hL
                    refine WC.seq ?_
                    refine WC.region ?_
                    refine WO.as gN rfl (evC rfl) ?_
                    refine WO.nil ?_
                    refine SeqK.nrm ?_
                    refine WC.ret ?_
                    refine BlkK.ret ?_
                    refine SeqK.ret ?_
                    refine LoopK.ret ?_
                    refine BlkK.ret ?_
                    refine BlkK.ret ?_
                    refine SeqJ.ret ?_
                    refine LoopK.ret ?_
                    refine BlkK.ret ?_
                    refine SeqK.ret ?_
                    have hr := Option.some.inj hL
                    subst hr
                    exact RetK.gen1 rfl (ares_tmp (evT fh rfl) ares_nil) rfl
                  · replace hL := cond_ff hc hL
                    refine WC.skip ?_
                    refine BlkK.nrm ?_
                    refine SeqK.nrm ?_
                    refine WC.region ?_
                    refine WO.bin gN rfl (evT (fs8 rfl (fs8 rfl (fs4 rfl e128))) rfl) (evC rfl) abin_addw ?_
                    refine WO.mv gN rfl (evT fh rfl) ?_
                    refine WO.nil ?_
                    exact LoopK.nrm (hnext139 _ _ hL ⟨_, _, rfl, hG, (fs8 rfl (fs8 rfl (fs4 rfl (fs2 rfl e120)))), (fs8 rfl (fs8 rfl (fs4 rfl (fs2 rfl e121)))), (fs8 rfl (fs8 rfl (fs4 rfl (fs2 rfl e122)))), (fs8 rfl (fs8 rfl (fs4 rfl (fs2 rfl e123)))), (fs8 rfl (fs8 rfl (fs4 rfl (fs2 rfl e124)))), (fs8 rfl (fs8 rfl (fs4 rfl (fs2 rfl e125)))), (fs8 rfl (fs8 rfl (fs4 rfl (fs2 rfl e126)))), fh, hb129, ho130, ho131, ho132, ho133, ho134, dj135, dj136, dj137, dj138⟩)
                · replace hL := cond_ff hc hL
                  refine WC.exit ?_
                  refine SeqK.exit ?_
                  refine LoopK.exit ?_
                  refine BlkK.here ?_
                  refine BlkK.nrm ?_
                  exact SeqJ.nrm _ hL ⟨_, _, rfl, hG, (fskip rfl e120), (fskip rfl e121), (fskip rfl e122), (fskip rfl e124), (fskip rfl e125), hb129, ho130, ho131, ho132, ho133, ho134, dj135, dj136, dj137, dj138⟩
        · replace hL := cond_ff hc hL
          refine WC.exit ?_
          refine SeqK.exit ?_
          refine LoopK.exit ?_
          refine BlkK.here ?_
          refine SeqK.nrm ?_
          refine WC.seq ?_
          refine WC.region ?_
          refine WO.as gN rfl (evC rfl) ?_
          refine WO.nil ?_
          refine SeqK.nrm ?_
          refine WC.ret ?_
          have hr := Option.some.inj hL
          subst hr
          exact RetK.gen1 rfl (ares_tmp (evT fh rfl) ares_nil) rfl
theorem f54_ok {F : Nat} {h : H} {p0 : WeighWorld} {a1 : Option Addr} {c2 : Nat} {a3 : Option Addr} {c4 : Nat} {a5 : Option Addr} {c6 : Nat} {r : Bool} (hsa1 : Sl (rSl rWeighCell) h.size h a1 c2 p0.cells) (hsa3 : Sl rWeighNote h.size h a3 c4 p0.notes) (hsa5 : Sl (rInt .i64) h.size h a5 c6 p0.freed) (hL : f54L F p0 = some r) : Pure XX 54 #[.agg [.slice a1 p0.cells.length c2, .slice a3 p0.notes.length c4, .int .i64 p0.names, .slice a5 p0.freed.length c6].toArray] h (.bool r) :=
  WF.pureR rfl (f54_wf (Nat.le_refl _) hsa1 hsa3 hsa5 hL)
theorem f25_wf {F : Nat} {wm : Nat} {h : H} {p0 : WeighWorld} {a1 : Option Addr} {c2 : Nat} {a3 : Option Addr} {c4 : Nat} {a5 : Option Addr} {c6 : Nat} {r : ((List WeighSum) × Int)} (hwm : wm ≤ h.size) (hsa1 : Sl (rSl rWeighCell) wm h a1 c2 p0.cells) (hsa3 : Sl rWeighNote wm h a3 c4 p0.notes) (hsa5 : Sl (rInt .i64) wm h a5 c6 p0.freed) (hL : f25L F p0 = some r) :
    WR XX 25 #[.agg [.slice a1 p0.cells.length c2, .slice a3 p0.notes.length c4, .int .i64 p0.names, .slice a5 p0.freed.length c6].toArray] wm h (fun v h' => ∃ (ra0_0 : Option Addr) (rc0_0 : Nat), v = .tuple [.slice ra0_0 r.1.length rc0_0, .int .i64 r.2].toArray ∧ Grow h h' ∧ OwnS rWeighSum wm h.size h' ra0_0 rc0_0 r.1) := by
  refine WF.begin (args := [_]) (fn := Try.f25) (by kernel_rfl) (by exact rfl) Try.ntmps25 (by simp) ?_
  simp only [frameOf_cons, frameOf_nil, Nat.reduceAdd]
  have hG : Grow h h := Grow.refl h
  unfold f25L at hL
  refine WC.seq ?_
  refine WC.region ?_
  refine WO.boxN h.size gN rfl (evT fh rfl) (vs := [.slice a1 p0.cells.length c2, .slice a3 p0.notes.length c4, .int .i64 p0.names, .slice a5 p0.freed.length c6]) rfl (fun h7 u8 hb9 => ?_)
  have whb9 : h.size ≤ h.size := hG.size
  have hsa1 := hsa1.mono (u8.fz hwm)
  have hsa3 := hsa3.mono (u8.fz hwm)
  have hsa5 := hsa5.mono (u8.fz hwm)
  have hG := u8.grow hG (Nat.le_refl _)
  refine WO.as gN rfl (evC rfl) ?_
  refine WO.as gN rfl (evC rfl) ?_
  refine WO.nil ?_
  refine SeqK.nrm ?_
  refine WC.seq ?_
  refine WC.seq ?_
  refine WC.region ?_
  refine WO.ldA gN rfl agg26 size26 (evT (fs2 rfl fh) rfl) (At.box hb9) (j := 0) rfl rfl (ws := [.slice a1 p0.cells.length c2, .slice a3 p0.notes.length c4, .int .i64 p0.names, .slice a5 p0.freed.length c6]) rfl ?_
  obtain ⟨x10, hx10, hL⟩ := bind_some hL
  refine WO.cf gN rfl has54 (evs_cons (evT fh rfl) evs_nil) (f54_ok (Src.sl (Sl.src hsa1) (Nat.le_trans hwm hG.size)) (Src.sl (Sl.src hsa3) (Nat.le_trans hwm hG.size)) (Src.sl (Sl.src hsa5) (Nat.le_trans hwm hG.size)) hx10 _) ?_
  refine WO.not gN rfl (evT fh rfl) ?_
  refine WO.nil ?_
  refine SeqK.nrm ?_
  refine WC.condN (evT fh rfl) (fun hc => ?_) (fun hc => ?_)
  · replace hL := cond_tt hc hL
    refine WC.seq ?_
    refine WC.region ?_
    refine WO.as gN rfl (evC rfl) ?_
    refine WO.as gN rfl (evC rfl) ?_
    refine WO.nil ?_
    refine SeqK.nrm ?_
    refine WC.ret ?_
    refine SeqK.ret ?_
    have hr := Option.some.inj hL
    subst hr
    exact RetK.gen (vs := [.slice none 0 0, .int .i64 2]) rfl (ares_tmp (evT (fskip rfl fh) rfl) (ares_tmp (evT fh rfl) ares_nil)) rfl ⟨none, 0, rfl, hG, OwnS.nil⟩
  · replace hL := cond_ff hc hL
    refine WC.skip ?_
    refine SeqK.nrm ?_
    refine WC.seq ?_
    refine WC.region ?_
    refine WO.ldA gN rfl agg26 size26 (evT (fs4 rfl (fskip rfl fh)) rfl) (At.box hb9) (j := 0) rfl rfl (ws := [.slice a1 p0.cells.length c2, .slice a3 p0.notes.length c4, .int .i64 p0.names, .slice a5 p0.freed.length c6]) rfl ?_
    obtain ⟨x11, hx11, hL⟩ := bind_some hL
    refine WO.cw gN rfl has56 (evs_cons (evT fh rfl) evs_nil) (f56_wf (Nat.le_trans hwm hG.size) hsa1 hsa3 hsa5 hx11) (fun y27 h18 hr20 => ?_)
    obtain ⟨b17, m12, a13, c14, a15, c16, rfl, gr19, hb25, hw26, ho22, ho23, ho24, dj28⟩ := hr20
    have u21 := Up.of_grow h.size gr19
    have ho22 := MapO.lower hG.size ho22
    have ho23 := OwnS.lower hG.size ho23
    have ho24 := OwnS.lower hG.size ho24
    have ne29 : h.size ≠ b17 := Nat.ne_of_lt (Nat.lt_of_lt_of_le (live_lt hb9 rfl) hw26)
    have hw26 := Nat.le_trans hG.size hw26
    have hb9 := u21.row (fun z => z) hb9
    have hsa1 := hsa1.mono (u21.fz hwm)
    have hsa3 := hsa3.mono (u21.fz hwm)
    have hsa5 := hsa5.mono (u21.fz hwm)
    have hG := u21.grow hG (Nat.le_refl _)
    obtain ⟨x30, hx30, hL⟩ := bind_some hL
    refine WO.cw gN rfl has68 (evs_cons (evT fh rfl) evs_nil) (WR.weaken (Nat.le_trans hwm hG.size) (Nat.le_refl _) (f68_wf (Nat.le_refl _) (At.box hb25) (.inl (live_lt hb25 rfl)) (MapAt.all (ho22).at_) (Src.sl (OwnS.src ho23) (Nat.le_trans hwm hG.size)) (Src.sl (OwnS.src ho24) (Nat.le_trans hwm hG.size)) hx30)) (fun y39 h33 hr35 => ?_)
    obtain ⟨m31, m32, rfl, gr34, ho37, ho38, dj40⟩ := hr35
    have u36 := Up.of_grow h.size gr34
    have dj41 := MapO.calldj ho37 ho22
    have ho37 := MapO.lower hG.size ho37
    have dj42 := MapO.calldj ho38 ho22
    have ho38 := MapO.lower hG.size ho38
    have hb9 := u36.row (fun z => z) hb9
    have hb25 := u36.row (fun z => z) hb25
    have hsa1 := hsa1.mono (u36.fz hwm)
    have hsa3 := hsa3.mono (u36.fz hwm)
    have hsa5 := hsa5.mono (u36.fz hwm)
    have ho22 := MapO.step u36 (fun _ _ z => z) ho22
    have ho23 := OwnS.step u36 hwm (fun _ _ z => z) ho23
    have ho24 := OwnS.step u36 hwm (fun _ _ z => z) ho24
    have hG := u36.grow hG (Nat.le_refl _)
    refine WO.mv gN rfl (evT fh rfl) ?_
    refine WO.v gN rfl (av_extract (evT fh rfl) (v := .map m31) rfl) rfl ?_
    refine WO.v gN rfl (av_extract (evT (fskip rfl fh) rfl) (v := .map m32) rfl) rfl ?_
    refine WO.as gN rfl (evT (fskip rfl fh) rfl) ?_
    refine WO.as gN rfl (evT (fskip rfl fh) rfl) ?_
    refine WO.nil ?_
    refine SeqK.nrm ?_
    refine WC.seq ?_
    refine WC.region ?_
    refine WO.as gN rfl (evC rfl) ?_
    refine WO.nil ?_
    refine SeqK.nrm ?_
    refine WC.seq ?_
    refine WC.seq ?_
    refine WC.region ?_
    refine WO.fld gN rfl fld26_0 (evT (fs8 rfl (fs4 rfl (fs2 rfl fh))) rfl) ?_
    refine WO.ld gN rfl agg22 (evT fh rfl) (At.box hb9) (j := 0) rfl (v := .slice a1 p0.cells.length c2) rfl ?_
    refine WO.len gN rfl und22 (evT fh rfl) ?_
    refine WO.mv gN rfl (evC rfl) ?_
    refine WO.nil ?_
    refine SeqK.nrm ?_
    refine WC.block ?_
    refine WC.loop (WL.lift hL (fun (p : (List WeighSum) × Int) (s : Fs) => match p with | (v48, v53) => ∃ (fr44 : Fr) (h43 : H) (a49 : Option Addr) (c50 : Nat), s = ⟨fr44, [], h43, none⟩ ∧ Grow h h43 ∧ fr44.at 1 = .pointer (some ⟨h.size, 0, none⟩) ∧ fr44.at 4 = .map m31 ∧ fr44.at 5 = .map m32 ∧ fr44.at 6 = .slice a49 v48.length c50 ∧ fr44.at 21 = .int .i64 (p0.cells.length : Int) ∧ fr44.at 22 = .int .i64 v53 ∧ h43.at (h.size) = .row [.slice a1 p0.cells.length c2, .slice a3 p0.notes.length c4, .int .i64 p0.names, .slice a5 p0.freed.length c6] true 0 ∧ MapO wvArr2Int (Value.int .i64) h.size h43 m31 x30.1 ∧ MapO wvArr2Int (Value.int .i64) h.size h43 m32 x30.2 ∧ OwnS rWeighSum wm h.size h43 a49 c50 v48 ∧ Sl (rSl rWeighCell) wm h43 a1 c2 p0.cells ∧ Sl rWeighNote wm h43 a3 c4 p0.notes ∧ Sl (rInt .i64) wm h43 a5 c6 p0.freed ∧ (∀ i : Nat, m32 = some i → m31 = some i → False)) ⟨_, _, none, 0, rfl, hG, (fs8 rfl (fs8 rfl (fs2 rfl fh))), (fs4 rfl (fs2 rfl fh)), (fs4 rfl (fskip rfl fh)), (fs4 rfl fh), (fskip rfl fh), fh, hb9, ho37, ho38, OwnS.nil, hsa1, hsa3, hsa5, dj40⟩ ?_)
    clear hL
    rintro next63 ⟨v48, v53⟩ s hnext63 hL ⟨fr44, h43, a49, c50, rfl, hG, e45, e46, e47, e51, e52, e54, hb55, ho56, ho57, ho58, hs59, hs60, hs61, dj62⟩
    dsimp only [f25_b0] at hL
    refine WC.seq ?_
    refine WC.region ?_
    refine WO.bin gN rfl (evT e54 rfl) (evT e52 rfl) abin_lss ?_
    refine WO.nil ?_
    refine SeqK.nrm ?_
    refine WC.seq ?_
    refine WC.condN (evT fh rfl) (fun hc => ?_) (fun hc => ?_)
    · replace hL := cond_tt hc hL
      refine WC.skip ?_
      refine SeqK.nrm ?_
      refine WC.seq ?_
      refine WC.block ?_
      refine WC.seq ?_
      refine WC.region ?_
      refine WO.mv gN rfl (evT (fskip rfl e54) rfl) ?_
      refine WO.as gN rfl (evT fh rfl) ?_
      refine WO.nil ?_
      refine SeqK.nrm ?_
      refine WC.seq ?_
      refine WC.region ?_
      refine WO.fld gN rfl fld26_2 (evT (fs2 rfl (fskip rfl e45)) rfl) ?_
      refine WO.ld gN rfl agg3 (evT fh rfl) (At.box hb55) (j := 2) rfl (v := .int .i64 p0.names) rfl ?_
      refine WO.mv gN rfl (evC rfl) ?_
      refine WO.nil ?_
      refine SeqK.nrm ?_
      refine WC.block ?_
      refine WC.loop (WL.lift hL (fun (p : (List WeighSum) × Int) (s : Fs) => match p with | (v69, v77) => ∃ (fr65 : Fr) (h64 : H) (a70 : Option Addr) (c71 : Nat), s = ⟨fr65, [], h64, none⟩ ∧ Grow h h64 ∧ fr65.at 1 = .pointer (some ⟨h.size, 0, none⟩) ∧ fr65.at 4 = .map m31 ∧ fr65.at 5 = .map m32 ∧ fr65.at 6 = .slice a70 v69.length c71 ∧ fr65.at 7 = .int .i64 v53 ∧ fr65.at 21 = .int .i64 (p0.cells.length : Int) ∧ fr65.at 22 = .int .i64 v53 ∧ fr65.at 26 = .int .i64 p0.names ∧ fr65.at 27 = .int .i64 v77 ∧ h64.at (h.size) = .row [.slice a1 p0.cells.length c2, .slice a3 p0.notes.length c4, .int .i64 p0.names, .slice a5 p0.freed.length c6] true 0 ∧ MapO wvArr2Int (Value.int .i64) h.size h64 m31 x30.1 ∧ MapO wvArr2Int (Value.int .i64) h.size h64 m32 x30.2 ∧ OwnS rWeighSum wm h.size h64 a70 c71 v69 ∧ Sl (rSl rWeighCell) wm h64 a1 c2 p0.cells ∧ Sl rWeighNote wm h64 a3 c4 p0.notes ∧ Sl (rInt .i64) wm h64 a5 c6 p0.freed ∧ (∀ i : Nat, m32 = some i → m31 = some i → False)) ⟨_, _, a49, c50, rfl, hG, (fs4 rfl (fs2 rfl e45)), (fs4 rfl (fs2 rfl e46)), (fs4 rfl (fs2 rfl e47)), (fs4 rfl (fs2 rfl e51)), (fs2 rfl (fskip rfl fh)), (fs4 rfl (fs2 rfl e52)), (fs4 rfl (fs2 rfl e54)), (fskip rfl fh), fh, hb55, ho56, ho57, ho58, hs59, hs60, hs61, dj62⟩ ?_)
      clear hL
      rintro next87 ⟨v69, v77⟩ s hnext87 hL ⟨fr65, h64, a70, c71, rfl, hG, e66, e67, e68, e72, e73, e74, e75, e76, e78, hb79, ho80, ho81, ho82, hs83, hs84, hs85, dj86⟩
      dsimp only [f25_b1] at hL
      refine WC.seq ?_
      refine WC.region ?_
      refine WO.bin gN rfl (evT e78 rfl) (evT e76 rfl) abin_lss ?_
      refine WO.nil ?_
      refine SeqK.nrm ?_
      refine WC.seq ?_
      refine WC.condN (evT fh rfl) (fun hc => ?_) (fun hc => ?_)
      · replace hL := cond_tt hc hL
        refine WC.skip ?_
        refine SeqK.nrm ?_
        refine WC.seqJ (r := r) (fun (v93 : (List WeighSum)) (s : Fs) => ∃ (fr89 : Fr) (h88 : H) (a94 : Option Addr) (c95 : Nat), s = ⟨fr89, [], h88, none⟩ ∧ Grow h h88 ∧ fr89.at 1 = .pointer (some ⟨h.size, 0, none⟩) ∧ fr89.at 4 = .map m31 ∧ fr89.at 5 = .map m32 ∧ fr89.at 6 = .slice a94 v93.length c95 ∧ fr89.at 7 = .int .i64 v53 ∧ fr89.at 21 = .int .i64 (p0.cells.length : Int) ∧ fr89.at 22 = .int .i64 v53 ∧ fr89.at 26 = .int .i64 p0.names ∧ fr89.at 27 = .int .i64 v77 ∧ h88.at (h.size) = .row [.slice a1 p0.cells.length c2, .slice a3 p0.notes.length c4, .int .i64 p0.names, .slice a5 p0.freed.length c6] true 0 ∧ MapO wvArr2Int (Value.int .i64) h.size h88 m31 x30.1 ∧ MapO wvArr2Int (Value.int .i64) h.size h88 m32 x30.2 ∧ OwnS rWeighSum wm h.size h88 a94 c95 v93 ∧ Sl (rSl rWeighCell) wm h88 a1 c2 p0.cells ∧ Sl rWeighNote wm h88 a3 c4 p0.notes ∧ Sl (rInt .i64) wm h88 a5 c6 p0.freed ∧ (∀ i : Nat, m32 = some i → m31 = some i → False)) (f25_j0 v77 next87) ?_ ?_
        · clear hL
          rintro v93 s hL ⟨fr89, h88, a94, c95, rfl, hG, e90, e91, e92, e96, e97, e98, e99, e100, e101, hb102, ho103, ho104, ho105, hs106, hs107, hs108, dj109⟩
          dsimp only [f25_j0] at hL
          refine WC.region ?_
          refine WO.bin gN rfl (evT e101 rfl) (evC rfl) abin_addw ?_
          refine WO.mv gN rfl (evT fh rfl) ?_
          refine WO.nil ?_
          exact LoopK.nrm (hnext87 _ _ hL ⟨_, _, a94, c95, rfl, hG, (fs2 rfl e90), (fs2 rfl e91), (fs2 rfl e92), (fs2 rfl e96), (fs2 rfl e97), (fs2 rfl e98), (fs2 rfl e99), (fs2 rfl e100), fh, hb102, ho103, ho104, ho105, hs106, hs107, hs108, dj109⟩)
        · skip
          refine WC.block ?_
          refine WC.seq ?_
          refine WC.region ?_
          refine WO.mv gN rfl (evT (fskip rfl e78) rfl) ?_
          refine WO.as gN rfl (evT fh rfl) ?_
          refine WO.nil ?_
          refine SeqK.nrm ?_
          refine WC.seq ?_
          refine WC.region ?_
          refine WO.mv gN rfl (evT (fs2 rfl (fskip rfl e73)) rfl) ?_
          refine WO.mv gN rfl (evT (fskip rfl fh) rfl) ?_
          refine WO.bldA gN rfl bld113 (evp_cons (evT (fskip rfl fh) rfl) (evp_cons (evT fh rfl) evp_nil)) rfl (cs' := [.int .i64 v53, .int .i64 v77]) rfl ?_
          refine WO.alcN h.size gN rfl zero113 (vs := [.int .i64 0, .int .i64 0]) rfl (fun h110 u111 hb112 => ?_)
          have whb112 : h.size ≤ h64.size := hG.size
          have ne113 := Nat.ne_of_lt (live_lt hb79 rfl)
          have hb79 := u111.row (fun z => z) hb79
          have ho80 := MapO.step u111 (fun _ _ z => z) ho80
          have ho81 := MapO.step u111 (fun _ _ z => z) ho81
          have ho82 := OwnS.step u111 hwm (fun _ _ z => z) ho82
          have hs83 := hs83.mono (u111.fz hwm)
          have hs84 := hs84.mono (u111.fz hwm)
          have hs85 := hs85.mono (u111.fz hwm)
          have hG := u111.grow hG (Nat.le_refl _)
          refine WO.stN h.size gN size113 (evT fh rfl) (evT (fskip rfl fh) rfl) hb112 whb112 hwm (vs := [.int .i64 v53, .int .i64 v77]) rfl rfl rfl rfl (cs' := [.int .i64 v53, .int .i64 v77]) rfl (fun h114 u115 hb116 => ?_)
          have hb79 := u115.row ne113 hb79
          have ho80 := MapO.step u115 (fun i e z => MapO.notBox ho80.at_ hb112 (z ▸ e)) ho80
          have ho81 := MapO.step u115 (fun i e z => MapO.notBox ho81.at_ hb112 (z ▸ e)) ho81
          have ho82 := OwnS.step u115 hwm (fun i hb z => by subst z; exact OwnS.notBox ho82 hb112 hb) ho82
          have hs83 := hs83.mono (u115.fz hwm)
          have hs84 := hs84.mono (u115.fz hwm)
          have hs85 := hs85.mono (u115.fz hwm)
          have hG := u115.grow hG (Nat.le_refl _)
          refine WO.nil ?_
          refine SeqK.nrm ?_
          refine WC.seq ?_
          refine WC.region ?_
          refine WO.mv gN rfl (evT (fs4 rfl (fs2 rfl (fskip rfl e67))) rfl) ?_
          refine WO.ldA gN rfl agg113 size113 (evT (fskip rfl fh) rfl) (At.box hb116) (j := 0) rfl rfl (ws := [.int .i64 v53, .int .i64 v77]) rfl ?_
          obtain ⟨x117, hx117, hL⟩ := bind_some hL
          refine WO.v gN rfl (av_lkpx (kv := wvArr2Int) (vv := (Value.int .i64)) (k := (Arr2Int.mk v53 v77)) (z := 0) key113 und110 zero3 (evT (fskip rfl fh) rfl) (evT fh rfl) (ho80).at_ hx117 (w := .int .i64 x117) rfl) rfl ?_
          refine WO.bin gN rfl (evT fh rfl) (evC rfl) abin_neq ?_
          refine WO.mv gN rfl (evT fh rfl) ?_
          refine WO.gmv (GuardIs.no rfl rfl rfl fh) rfl (fun hg => (evT (fs8 rfl (fs4 rfl e68)) rfl)) ?_
          refine WO.gldA (GuardIs.no rfl rfl rfl (fskip rfl fh)) rfl agg113 size113 (fun hg => (evT (fs4 rfl (fs2 rfl fh)) rfl)) (fun hg => (At.box hb116)) (j := 0) rfl rfl (ws := [.int .i64 v53, .int .i64 v77]) rfl ?_
          obtain ⟨x118, hx118, hL⟩ := gd_some hL
          refine WO.gv (GuardIs.no rfl rfl rfl (fs2 rfl fh)) rfl (fun hg => av_lkpx (kv := wvArr2Int) (vv := (Value.int .i64)) (k := (Arr2Int.mk v53 v77)) (z := 0) key113 und110 zero3 (evG (fskip rfl fh) rfl hg) (evG fh rfl hg) (ho81).at_ (hx118 hg) (w := .int .i64 x118) rfl) ?_
          refine WO.gbin (GuardIs.no rfl rfl rfl (fs2 rfl (fskip rfl fh))) rfl (fun hg => (evG fh rfl hg)) (fun hg => (evC rfl)) (fun hg => abin_neq) ?_
          refine WO.por gN rfl (evT (fs4 rfl fh) rfl) (evC rfl) (evGU fh) ?_
          refine WO.nil ?_
          refine SeqK.nrm ?_
          refine WC.condN (evT fh rfl) (fun hc => ?_) (fun hc => ?_)
          · replace hL := cond_tt hc hL
            refine WC.drawD mixed (by kernel_rfl) ?_
            refine WD.mv gN rfl (evT (fs8 rfl (fs8 rfl (fskip rfl e72))) rfl) ?_
            refine WD.mv gN rfl (evT (fs8 rfl (fs8 rfl (fs2 rfl e73))) rfl) ?_
            refine WD.mv gN rfl (evT (fs8 rfl (fs8 rfl fh)) rfl) ?_
            refine WD.mv gN rfl (evT (fs8 rfl (fs8 rfl (fs4 rfl e67))) rfl) ?_
            refine WD.ldA gN rfl agg113 size113 (evT (fs8 rfl (fs4 rfl (fs2 rfl fh))) rfl) (At.box hb116) (j := 0) rfl rfl (ws := [.int .i64 v53, .int .i64 v77]) rfl ?_
            obtain ⟨x119, hx119, hL⟩ := bind_some hL
            refine WD.v gN rfl (av_lkpx (kv := wvArr2Int) (vv := (Value.int .i64)) (k := (Arr2Int.mk v53 v77)) (z := 0) key113 und110 zero3 (evT (fskip rfl fh) rfl) (evT fh rfl) (ho80).at_ hx119 (w := .int .i64 x119) rfl) ?_
            refine WD.mv gN rfl (evT (fs8 rfl (fs8 rfl (fs4 rfl (fs2 rfl (fskip rfl e68))))) rfl) ?_
            refine WD.ldA gN rfl agg113 size113 (evT (fs8 rfl (fs8 rfl (fskip rfl fh))) rfl) (At.box hb116) (j := 0) rfl rfl (ws := [.int .i64 v53, .int .i64 v77]) rfl ?_
            obtain ⟨x120, hx120, hL⟩ := bind_some hL
            refine WD.v gN rfl (av_lkpx (kv := wvArr2Int) (vv := (Value.int .i64)) (k := (Arr2Int.mk v53 v77)) (z := 0) key113 und110 zero3 (evT (fskip rfl fh) rfl) (evT fh rfl) (ho81).at_ hx120 (w := .int .i64 x120) rfl) ?_
            refine WD.bld gN rfl bld91 (evp_cons (evT (fs4 rfl (fs2 rfl (fskip rfl fh))) rfl) (evp_cons (evT (fs4 rfl (fs2 rfl fh)) rfl) (evp_cons (evT (fs2 rfl (fskip rfl fh)) rfl) (evp_cons (evT fh rfl) evp_nil)))) rfl (cs' := [.int .i64 v53, .int .i64 v77, .int .i64 x119, .int .i64 x120]) rfl ?_
            refine WD.bsN (e := rWeighSum) h.size gN rfl und43 size91 zero91 rfl rfl rfl (evp_cons (evT fh rfl) evp_nil) rfl [((), (WeighSum.mk v53 v77 x119 x120))] rfl (xs := [(WeighSum.mk v53 v77 x119 x120)]) rfl (by intro q hq; simp only [List.mem_cons, List.not_mem_nil, or_false] at hq; subst hq; exact trivial) hwm hG.size rfl (fun h121 u122 ho123 => ?_)
            have dj124 := OwnS.newdj ho82
            have hb79 := u122.row (fun z => z) hb79
            have hb116 := u122.row (fun z => z) hb116
            have ho80 := MapO.step u122 (fun _ _ z => z) ho80
            have ho81 := MapO.step u122 (fun _ _ z => z) ho81
            have ho82 := OwnS.step u122 hwm (fun _ _ z => z) ho82
            have hs83 := hs83.mono (u122.fz hwm)
            have hs84 := hs84.mono (u122.fz hwm)
            have hs85 := hs85.mono (u122.fz hwm)
            have hG := u122.grow hG (Nat.le_refl _)
            obtain ⟨z125, hz125, hL⟩ := bind_some hL
            refine WD.apN (e := rWeighSum) h.size gN rfl app43_43 hwm hG.size (evT (fs8 rfl (fs2 rfl fh)) rfl) (evT fh rfl) ho82 (OwnS.src ho123) hz125 (fun a126 c127 h128 u129 ho130 sb131 => ?_) (by kernel_rfl)
            have dj132 := OwnS.apdj sb131 (fun i p q => dj124 i q p) ho123
            have hb79 := u129.row (OwnS.notBox ho82 hb79) hb79
            have hb116 := u129.row (OwnS.notBox ho82 hb116) hb116
            have ho80 := MapO.step u129 (fun i e z => MapO.notRow ho80.at_ ho82 i z e) ho80
            have ho81 := MapO.step u129 (fun i e z => MapO.notRow ho81.at_ ho82 i z e) ho81
            have hs83 := hs83.mono (u129.fz hwm)
            have hs84 := hs84.mono (u129.fz hwm)
            have hs85 := hs85.mono (u129.fz hwm)
            have ho123 := OwnS.step u129 hwm dj124 ho123
            have hG := u129.grow hG (Nat.le_refl _)
            refine WD.as gN rfl (evT fh rfl) ?_
            refine WD.nil ?_
            refine BlkK.nrm ?_
            exact SeqJ.nrm _ hL ⟨_, _, a126, c127, rfl, hG, (fs8 rfl (fs8 rfl (fs8 rfl (fs4 rfl (fs2 rfl e66))))), (fs8 rfl (fs8 rfl (fs8 rfl (fs4 rfl (fs2 rfl e67))))), (fs8 rfl (fs8 rfl (fs8 rfl (fs4 rfl (fs2 rfl e68))))), fh, (fs8 rfl (fs8 rfl (fs8 rfl (fs4 rfl (fs2 rfl e73))))), (fs8 rfl (fs8 rfl (fs8 rfl (fs4 rfl (fs2 rfl e74))))), (fs8 rfl (fs8 rfl (fs8 rfl (fs4 rfl (fs2 rfl e75))))), (fs8 rfl (fs8 rfl (fs8 rfl (fs4 rfl (fs2 rfl e76))))), (fs8 rfl (fs8 rfl (fs8 rfl (fs4 rfl (fs2 rfl e78))))), hb79, ho80, ho81, ho130, hs83, hs84, hs85, dj86⟩
          · replace hL := cond_ff hc hL
            refine WC.skip ?_
            refine BlkK.nrm ?_
            exact SeqJ.nrm _ hL ⟨_, _, a70, c71, rfl, hG, (fs8 rfl (fs8 rfl (fskip rfl e66))), (fs8 rfl (fs8 rfl (fskip rfl e67))), (fs8 rfl (fs8 rfl (fskip rfl e68))), (fs8 rfl (fs8 rfl (fskip rfl e72))), (fs8 rfl (fs8 rfl (fskip rfl e73))), (fs8 rfl (fs8 rfl (fskip rfl e74))), (fs8 rfl (fs8 rfl (fskip rfl e75))), (fs8 rfl (fs8 rfl (fskip rfl e76))), (fs8 rfl (fs8 rfl (fskip rfl e78))), hb79, ho80, ho81, ho82, hs83, hs84, hs85, dj86⟩
      · replace hL := cond_ff hc hL
        refine WC.exit ?_
        refine SeqK.exit ?_
        refine LoopK.exit ?_
        refine BlkK.here ?_
        refine BlkK.nrm ?_
        refine SeqK.nrm ?_
        refine WC.region ?_
        refine WO.bin gN rfl (evT (fskip rfl e75) rfl) (evC rfl) abin_addw ?_
        refine WO.mv gN rfl (evT fh rfl) ?_
        refine WO.nil ?_
        exact LoopK.nrm (hnext63 _ _ hL ⟨_, _, a70, c71, rfl, hG, (fs2 rfl (fskip rfl e66)), (fs2 rfl (fskip rfl e67)), (fs2 rfl (fskip rfl e68)), (fs2 rfl (fskip rfl e72)), (fs2 rfl (fskip rfl e74)), fh, hb79, ho80, ho81, ho82, hs83, hs84, hs85, dj86⟩)
    · replace hL := cond_ff hc hL
      refine WC.exit ?_
      refine SeqK.exit ?_
      refine LoopK.exit ?_
      refine BlkK.here ?_
      refine SeqK.nrm ?_
      refine WC.seq ?_
      refine WC.region ?_
      refine WO.mv gN rfl (evT (fskip rfl e51) rfl) ?_
      refine WO.as gN rfl (evT fh rfl) ?_
      refine WO.as gN rfl (evC rfl) ?_
      refine WO.nil ?_
      refine SeqK.nrm ?_
      refine WC.ret ?_
      have hr := Option.some.inj hL
      subst hr
      exact RetK.gen (vs := [.slice a49 v48.length c50, .int .i64 0]) rfl (ares_tmp (evT (fskip rfl fh) rfl) (ares_tmp (evT fh rfl) ares_nil)) rfl ⟨a49, c50, rfl, hG, ho58⟩
theorem f27_wf {F : Nat} {wm : Nat} {h : H} {p0 : WeighWorld} {p1 : Int} {a1 : Option Addr} {c2 : Nat} {a3 : Option Addr} {c4 : Nat} {a5 : Option Addr} {c6 : Nat} {r : ((List Int) × (List Int) × Int)} (hwm : wm ≤ h.size) (hsa1 : Sl (rSl rWeighCell) wm h a1 c2 p0.cells) (hsa3 : Sl rWeighNote wm h a3 c4 p0.notes) (hsa5 : Sl (rInt .i64) wm h a5 c6 p0.freed) (hL : f27L F p0 p1 = some r) :
    WR XX 27 #[.agg [.slice a1 p0.cells.length c2, .slice a3 p0.notes.length c4, .int .i64 p0.names, .slice a5 p0.freed.length c6].toArray, .int .i64 p1] wm h (fun v h' => ∃ (ra0_0 : Option Addr) (rc0_0 : Nat) (ra1_0 : Option Addr) (rc1_0 : Nat), v = .tuple [.slice ra0_0 r.1.length rc0_0, .slice ra1_0 r.2.1.length rc1_0, .int .i64 r.2.2].toArray ∧ Grow h h' ∧ OwnS (rInt .i64) wm h.size h' ra0_0 rc0_0 r.1 ∧ OwnS (rInt .i64) wm h.size h' ra1_0 rc1_0 r.2.1 ∧ (∀ i, BaseA ra1_0 i → BaseA ra0_0 i → False)) := by
  refine WF.beginL (args := [_, _]) (fn := Try.f27) (by kernel_rfl) (by exact rfl) Try.ntmps27 (by simp) ?_
  simp only [frameOf_cons, frameOf_nil, Nat.reduceAdd]
  have hG : Grow h h := Grow.refl h
  unfold f27L at hL
  refine WC.seq ?_
  refine WC.region ?_
  refine WO.boxN h.size gN rfl (evT (fskip rfl fh) rfl) (vs := [.slice a1 p0.cells.length c2, .slice a3 p0.notes.length c4, .int .i64 p0.names, .slice a5 p0.freed.length c6]) rfl (fun h7 u8 hb9 => ?_)
  have whb9 : h.size ≤ h.size := hG.size
  have hsa1 := hsa1.mono (u8.fz hwm)
  have hsa3 := hsa3.mono (u8.fz hwm)
  have hsa5 := hsa5.mono (u8.fz hwm)
  have hG := u8.grow hG (Nat.le_refl _)
  refine WO.boxN h.size gN rfl (evT (fskip rfl fh) rfl) (vs := [.int .i64 p1]) rfl (fun h10 u11 hb12 => ?_)
  have whb12 : h.size ≤ h7.size := hG.size
  have ne13 := Nat.ne_of_lt (live_lt hb9 rfl)
  have hb9 := u11.row (fun z => z) hb9
  have hsa1 := hsa1.mono (u11.fz hwm)
  have hsa3 := hsa3.mono (u11.fz hwm)
  have hsa5 := hsa5.mono (u11.fz hwm)
  have hG := u11.grow hG (Nat.le_refl _)
  refine WO.alcN h.size gN rfl zero24 (vs := [.slice none 0 0]) rfl (fun h14 u15 hb16 => ?_)
  have whb16 : h.size ≤ h10.size := hG.size
  have ne17 := Nat.ne_of_lt (live_lt hb9 rfl)
  have ne18 := Nat.ne_of_lt (live_lt hb12 rfl)
  have hb9 := u15.row (fun z => z) hb9
  have hb12 := u15.row (fun z => z) hb12
  have hsa1 := hsa1.mono (u15.fz hwm)
  have hsa3 := hsa3.mono (u15.fz hwm)
  have hsa5 := hsa5.mono (u15.fz hwm)
  have hG := u15.grow hG (Nat.le_refl _)
  refine WO.as gN rfl (evC rfl) ?_
  refine WO.as gN rfl (evC rfl) ?_
  refine WO.nil ?_
  refine SeqK.nrm ?_
  refine WC.seq ?_
  refine WC.seq ?_
  refine WC.region ?_
  refine WO.ldA gN rfl agg26 size26 (evT (fs4 rfl fh) rfl) (At.box hb9) (j := 0) rfl rfl (ws := [.slice a1 p0.cells.length c2, .slice a3 p0.notes.length c4, .int .i64 p0.names, .slice a5 p0.freed.length c6]) rfl ?_
  obtain ⟨x19, hx19, hL⟩ := bind_some hL
  refine WO.cf gN rfl has54 (evs_cons (evT fh rfl) evs_nil) (f54_ok (Src.sl (Sl.src hsa1) (Nat.le_trans hwm hG.size)) (Src.sl (Sl.src hsa3) (Nat.le_trans hwm hG.size)) (Src.sl (Sl.src hsa5) (Nat.le_trans hwm hG.size)) hx19 _) ?_
  refine WO.not gN rfl (evT fh rfl) ?_
  refine WO.mv gN rfl (evT fh rfl) ?_
  refine WO.gld (GuardIs.no rfl rfl rfl fh) rfl agg3 (fun hg => (evT (fs4 rfl (fs2 rfl (fskip rfl fh))) rfl)) (fun hg => (At.box hb12)) (j := 0) rfl (v := .int .i64 p1) rfl ?_
  refine WO.gbin (GuardIs.no rfl rfl rfl (fskip rfl fh)) rfl (fun hg => (evG fh rfl hg)) (fun hg => (evC rfl)) (fun hg => abin_lss) ?_
  refine WO.por gN rfl (evT (fs2 rfl fh) rfl) (evC rfl) (evGU fh) ?_
  refine WO.mv gN rfl (evT fh rfl) ?_
  refine WO.gld (GuardIs.no rfl rfl rfl fh) rfl agg3 (fun hg => (evT (fs8 rfl (fs2 rfl (fskip rfl fh))) rfl)) (fun hg => (At.box hb12)) (j := 0) rfl (v := .int .i64 p1) rfl ?_
  refine WO.gfld (GuardIs.no rfl rfl rfl (fskip rfl fh)) rfl fld26_2 (fun hg => (evT (fs8 rfl (fs4 rfl (fskip rfl fh))) rfl)) ?_
  refine WO.gld (GuardIs.no rfl rfl rfl (fs2 rfl fh)) rfl agg3 (fun hg => (evG fh rfl hg)) (fun hg => (At.box hb9)) (j := 2) rfl (v := .int .i64 p0.names) rfl ?_
  refine WO.gbin (GuardIs.no rfl rfl rfl (fs2 rfl (fskip rfl fh))) rfl (fun hg => (evG (fs2 rfl fh) rfl hg)) (fun hg => (evG fh rfl hg)) (fun hg => abin_geq) ?_
  refine WO.por gN rfl (evT (fs4 rfl fh) rfl) (evC rfl) (evGU fh) ?_
  refine WO.nil ?_
  refine SeqK.nrm ?_
  refine WC.condN (evT fh rfl) (fun hc => ?_) (fun hc => ?_)
  · replace hL := cond_tt hc hL
    refine WC.seq ?_
    refine WC.region ?_
    refine WO.stN h.size gN size24 (evT (fs8 rfl (fs4 rfl (fs2 rfl (fskip rfl fh)))) rfl) (evC rfl) hb16 whb16 hwm (vs := [.slice none 0 0]) rfl rfl rfl rfl (cs' := [.slice none 0 0]) rfl (fun h20 u21 hb22 => ?_)
    have hb9 := u21.row ne17 hb9
    have hb12 := u21.row ne18 hb12
    have hsa1 := hsa1.mono (u21.fz hwm)
    have hsa3 := hsa3.mono (u21.fz hwm)
    have hsa5 := hsa5.mono (u21.fz hwm)
    have hG := u21.grow hG (Nat.le_refl _)
    refine WO.as gN rfl (evC rfl) ?_
    refine WO.as gN rfl (evC rfl) ?_
    refine WO.nil ?_
    refine SeqK.nrm ?_
    refine WC.ret ?_
    refine SeqK.ret ?_
    have hr := Option.some.inj hL
    subst hr
    exact RetL.gen rfl (ares_cell (fs8 rfl (fs8 rfl (fskip rfl fh))) (aload_at1 agg24 (At.box hb22) (j := 0) rfl (v := .slice none 0 0) rfl) (ares_tmp (evT (fskip rfl fh) rfl) (ares_tmp (evT fh rfl) ares_nil))) rfl ⟨none, 0, none, 0, rfl, hG, OwnS.nil, OwnS.nil, (fun _ z _ => (BaseA.none z).elim)⟩
  · replace hL := cond_ff hc hL
    refine WC.skip ?_
    refine SeqK.nrm ?_
    refine WC.seq ?_
    refine WC.seq ?_
    refine WC.region ?_
    refine WO.ldA gN rfl agg26 size26 (evT (fs8 rfl (fs8 rfl (fskip rfl fh))) rfl) (At.box hb9) (j := 0) rfl rfl (ws := [.slice a1 p0.cells.length c2, .slice a3 p0.notes.length c4, .int .i64 p0.names, .slice a5 p0.freed.length c6]) rfl ?_
    obtain ⟨x23, hx23, hL⟩ := bind_some hL
    refine WO.cw gN rfl has56 (evs_cons (evT fh rfl) evs_nil) (f56_wf (Nat.le_trans hwm hG.size) hsa1 hsa3 hsa5 hx23) (fun y39 h30 hr32 => ?_)
    obtain ⟨b29, m24, a25, c26, a27, c28, rfl, gr31, hb37, hw38, ho34, ho35, ho36, dj40⟩ := hr32
    have u33 := Up.of_grow h.size gr31
    have ho34 := MapO.lower hG.size ho34
    have ho35 := OwnS.lower hG.size ho35
    have ho36 := OwnS.lower hG.size ho36
    have ne41 : h.size ≠ b29 := Nat.ne_of_lt (Nat.lt_of_lt_of_le (live_lt hb9 rfl) hw38)
    have ne42 : h7.size ≠ b29 := Nat.ne_of_lt (Nat.lt_of_lt_of_le (live_lt hb12 rfl) hw38)
    have ne43 : h10.size ≠ b29 := Nat.ne_of_lt (Nat.lt_of_lt_of_le (live_lt hb16 rfl) hw38)
    have hw38 := Nat.le_trans hG.size hw38
    have hb9 := u33.row (fun z => z) hb9
    have hb12 := u33.row (fun z => z) hb12
    have hb16 := u33.row (fun z => z) hb16
    have hsa1 := hsa1.mono (u33.fz hwm)
    have hsa3 := hsa3.mono (u33.fz hwm)
    have hsa5 := hsa5.mono (u33.fz hwm)
    have hG := u33.grow hG (Nat.le_refl _)
    refine WO.cw gN rfl has71 (evs_cons (evT fh rfl) evs_nil) (f71_wf (Nat.le_trans hwm hG.size)) (fun y51 h44 hr46 => ?_)
    obtain ⟨b48, rfl, gr45, hb49, hw50⟩ := hr46
    have u47 := Up.of_grow h.size gr45
    have ne52 : h.size ≠ b48 := Nat.ne_of_lt (Nat.lt_of_lt_of_le (live_lt hb9 rfl) hw50)
    have ne53 : h7.size ≠ b48 := Nat.ne_of_lt (Nat.lt_of_lt_of_le (live_lt hb12 rfl) hw50)
    have ne54 : h10.size ≠ b48 := Nat.ne_of_lt (Nat.lt_of_lt_of_le (live_lt hb16 rfl) hw50)
    have ne55 : b29 ≠ b48 := Nat.ne_of_lt (Nat.lt_of_lt_of_le (live_lt hb37 rfl) hw50)
    have hw50 := Nat.le_trans hG.size hw50
    have hb9 := u47.row (fun z => z) hb9
    have hb12 := u47.row (fun z => z) hb12
    have hb16 := u47.row (fun z => z) hb16
    have hb37 := u47.row (fun z => z) hb37
    have hsa1 := hsa1.mono (u47.fz hwm)
    have hsa3 := hsa3.mono (u47.fz hwm)
    have hsa5 := hsa5.mono (u47.fz hwm)
    have ho34 := MapO.step u47 (fun _ _ z => z) ho34
    have ho35 := OwnS.step u47 hwm (fun _ _ z => z) ho35
    have ho36 := OwnS.step u47 hwm (fun _ _ z => z) ho36
    have hG := u47.grow hG (Nat.le_refl _)
    refine WO.nil ?_
    refine SeqK.nrm ?_
    refine WC.block ?_
    obtain ⟨q62, hq62, hL⟩ := bind_some hL
    have wd60 : h.size ≤ h44.size := hG.size
    have wl61 : h.size ≤ (h44.size + 1) := Nat.le_succ_of_le hG.size
    refine WC.rangeF h.size (evT fh rfl) has110 (fun h56 u57 hd58 hl59 => ?_)
    have hb9 := u57.row (fun z => z) hb9
    have hb12 := u57.row (fun z => z) hb12
    have hb16 := u57.row (fun z => z) hb16
    have hb37 := u57.row (fun z => z) hb37
    have hb49 := u57.row (fun z => z) hb49
    have hsa1 := hsa1.mono (u57.fz hwm)
    have hsa3 := hsa3.mono (u57.fz hwm)
    have hsa5 := hsa5.mono (u57.fz hwm)
    have ho34 := MapO.step u57 (fun _ _ z => z) ho34
    have ho35 := OwnS.step u57 hwm (fun _ _ z => z) ho35
    have ho36 := OwnS.step u57 hwm (fun _ _ z => z) ho36
    have hG := u57.grow hG (Nat.le_refl _)
    have lt92 := live_lt hb9 rfl
    have lt93 := live_lt hb12 rfl
    have lt94 := live_lt hb16 rfl
    have lt95 := live_lt hb37 rfl
    have lt96 := live_lt hb49 rfl
    have hw2 : wm ≤ h56.size := (Nat.le_trans hwm hG.size)
    have hl0 : h.size ≤ h56.size := hG.size
    refine ⟨_, f110_wf (b := b29) (o := 0) (m1 := m24) (a2 := a25) (c3 := c26) (a4 := a27) (c5 := c28) (J := fun (v75 : (List Int)) (h65 : H) => ∃ (a76 : Option Addr) (c77 : Nat), Grow h h65 ∧ h65.at (h.size) = .row [.slice a1 p0.cells.length c2, .slice a3 p0.notes.length c4, .int .i64 p0.names, .slice a5 p0.freed.length c6] true 0 ∧ h65.at (h7.size) = .row [.int .i64 p1] true 0 ∧ h65.at (h10.size) = .row [.slice a76 v75.length c77] true 0 ∧ h65.at (b29) = .row [.int .i64 x23.machines, .int .i64 x23.names, .map m24, .slice a25 x23.notes.length c26, .slice a27 x23.freed.length c28] true 0 ∧ h65.at (b48) = .row [.pointer (some ⟨b29, 0, none⟩)] true 0 ∧ h65.at (h44.size) = .deferred ∧ h65.at (h44.size + 1) = h56.at (h44.size + 1) ∧ SzLe h56 h65 ∧ Sl (rSl rWeighCell) wm h65 a1 c2 p0.cells ∧ Sl rWeighNote wm h65 a3 c4 p0.notes ∧ Sl (rInt .i64) wm h65 a5 c6 p0.freed ∧ OwnS (rInt .i64) wm h.size h65 a76 c77 v75 ∧ MapO wvArr2Int wvWeighCell h.size h65 m24 x23.cells ∧ OwnS rWeighNote wm h.size h65 a25 c26 x23.notes ∧ OwnS (rInt .i64) wm h.size h65 a27 c28 x23.freed ∧ (∀ i, BaseA a25 i → BaseA a76 i → False) ∧ (∀ i, BaseA a27 i → BaseA a76 i → False) ∧ (∀ i, BaseA a27 i → BaseA a25 i → False)) (y := (f27_y0 p1)) (s0 := []) hw2 ?_ ?_ ?_ ⟨none, 0, hG, hb9, hb12, hb16, hb37, hb49, hd58, rfl, ⟨Nat.le_refl _⟩, hsa1, hsa3, hsa5, OwnS.nil, ho34, ho35, ho36, (fun _ _ z => (BaseA.none z).elim), (fun _ _ z => (BaseA.none z).elim), dj40⟩ hq62, fun y99 h97 hR98 => ?_⟩
    · rintro v75 h65 ⟨a76, c77, hG, hb73, hb74, hb78, hb79, hb80, hd81, hl63, hz64, hs82, hs83, hs84, ho85, ho86, ho87, ho88, dj89, dj90, dj91⟩
      exact ⟨hb80, (At.box hb79), (ho86).at_, ⟨_, _, _, _, _, _, _, _, hl63.trans hl59, rfl⟩, hz64⟩
    · rintro v75 h65 h101 t104 ⟨a76, c77, hG, hb73, hb74, hb78, hb79, hb80, hd81, hl63, hz64, hs82, hs83, hs84, ho85, ho86, ho87, ho88, dj89, dj90, dj91⟩ u102 ht103
      have u105 := Up.lower hl0 u102
      have hz64 := SzLe.step hz64 u105
      have hlk := u105.keep _ (live_lt (hl63.trans hl59) rfl) (fun z => by obtain ⟨cs, e⟩ := ht103 _ z; exact row_ne_loop e (hl63.trans hl59) rfl)
      have hl63 := hlk.trans hl63
      have hb73 := u105.row (fun z => absurd (u102.own _ z).1 (Nat.not_le_of_lt lt92)) hb73
      have hb74 := u105.row (fun z => absurd (u102.own _ z).1 (Nat.not_le_of_lt lt93)) hb74
      have hb78 := u105.row (fun z => absurd (u102.own _ z).1 (Nat.not_le_of_lt lt94)) hb78
      have hb79 := u105.row (fun z => absurd (u102.own _ z).1 (Nat.not_le_of_lt lt95)) hb79
      have hb80 := u105.row (fun z => absurd (u102.own _ z).1 (Nat.not_le_of_lt lt96)) hb80
      have hs82 := hs82.mono (u105.fz hwm)
      have hs83 := hs83.mono (u105.fz hwm)
      have hs84 := hs84.mono (u105.fz hwm)
      have ho85 := OwnS.step u105 hwm (fun i hb z => by obtain ⟨cs, e⟩ := ht103 i z; exact OwnS.notBox ho85 e hb) ho85
      have ho86 := MapO.step u105 (fun i e z => by obtain ⟨cs, e2⟩ := ht103 i z; exact MapO.notBox ho86.at_ e2 e) ho86
      have ho87 := OwnS.step u105 hwm (fun i hb z => by obtain ⟨cs, e⟩ := ht103 i z; exact OwnS.notBox ho87 e hb) ho87
      have ho88 := OwnS.step u105 hwm (fun i hb z => by obtain ⟨cs, e⟩ := ht103 i z; exact OwnS.notBox ho88 e hb) ho88
      have hd81 := u105.at_ hd81 rfl (fun z => by obtain ⟨cs, e⟩ := ht103 _ z; exact row_ne_def e hd81 rfl)
      have hG := u105.grow hG (Nat.le_refl _)
      exact ⟨a76, c77, hG, hb73, hb74, hb78, hb79, hb80, hd81, hl63, hz64, hs82, hs83, hs84, ho85, ho86, ho87, ho88, dj89, dj90, dj91⟩
    · rintro v75 s108 x106 x107 h65 ⟨a76, c77, hG, hb73, hb74, hb78, hb79, hb80, hd81, hl63, hz64, hs82, hs83, hs84, ho85, ho86, ho87, ho88, dj89, dj90, dj91⟩ hL
      dsimp only [f27_y0] at hL
      refine RdOK.mk' h.size (hl63.trans hl59) (Nat.le_trans hwm wl61) rfl rfl ?_
      have hl63 := hl63.trans hl59
      refine WC.seq ?_
      refine WC.region ?_
      refine WO.as gN rfl (evT (fskip rfl fh) rfl) ?_
      refine WO.nil ?_
      refine SeqK.nrm ?_
      refine WC.region ?_
      refine WO.alcN h.size gN rfl zero61 (vs := [.int .i64 0, .bool false, .int .i64 0, .int .i64 0, .int .i64 0, .bool false]) rfl (fun h109 u110 hb111 => ?_)
      have whb111 : h.size ≤ h65.size := hG.size
      have ne112 := Nat.ne_of_lt (live_lt hb73 rfl)
      have ne113 := Nat.ne_of_lt (live_lt hb74 rfl)
      have ne114 := Nat.ne_of_lt (live_lt hb78 rfl)
      have ne115 := Nat.ne_of_lt (live_lt hb79 rfl)
      have ne116 := Nat.ne_of_lt (live_lt hb80 rfl)
      have hb73 := u110.row (fun z => z) hb73
      have hb74 := u110.row (fun z => z) hb74
      have hb78 := u110.row (fun z => z) hb78
      have hb79 := u110.row (fun z => z) hb79
      have hb80 := u110.row (fun z => z) hb80
      have hs82 := hs82.mono (u110.fz hwm)
      have hs83 := hs83.mono (u110.fz hwm)
      have hs84 := hs84.mono (u110.fz hwm)
      have ho85 := OwnS.step u110 hwm (fun _ _ z => z) ho85
      have ho86 := MapO.step u110 (fun _ _ z => z) ho86
      have ho87 := OwnS.step u110 hwm (fun _ _ z => z) ho87
      have ho88 := OwnS.step u110 hwm (fun _ _ z => z) ho88
      have hd81 := u110.at_ hd81 rfl (fun z => z)
      have hl63 := u110.at_ hl63 rfl (fun z => z)
      have hz64 := SzLe.step hz64 u110
      have hG := u110.grow hG (Nat.le_refl _)
      refine WO.stN h.size gN size61 (evT fh rfl) (evT (fs2 rfl fh) rfl) hb111 whb111 hwm (vs := [.int .i64 x107.name, .bool x107.root, .int .i64 x107.from_, .int .i64 x107.has, .int .i64 x107.out, .bool x107.use]) rfl rfl rfl rfl (cs' := [.int .i64 x107.name, .bool x107.root, .int .i64 x107.from_, .int .i64 x107.has, .int .i64 x107.out, .bool x107.use]) rfl (fun h117 u118 hb119 => ?_)
      have hb73 := u118.row ne112 hb73
      have hb74 := u118.row ne113 hb74
      have hb78 := u118.row ne114 hb78
      have hb79 := u118.row ne115 hb79
      have hb80 := u118.row ne116 hb80
      have hs82 := hs82.mono (u118.fz hwm)
      have hs83 := hs83.mono (u118.fz hwm)
      have hs84 := hs84.mono (u118.fz hwm)
      have ho85 := OwnS.step u118 hwm (fun i hb z => by subst z; exact OwnS.notBox ho85 hb111 hb) ho85
      have ho86 := MapO.step u118 (fun i e z => MapO.notBox ho86.at_ hb111 (z ▸ e)) ho86
      have ho87 := OwnS.step u118 hwm (fun i hb z => by subst z; exact OwnS.notBox ho87 hb111 hb) ho87
      have ho88 := OwnS.step u118 hwm (fun i hb z => by subst z; exact OwnS.notBox ho88 hb111 hb) ho88
      have hd81 := u118.at_ hd81 rfl (fun e => row_ne_def hb111 hd81 e.symm)
      have hl63 := u118.at_ hl63 rfl (fun e => row_ne_loop hb111 hl63 e.symm)
      have hz64 := SzLe.step hz64 u118
      have hG := u118.grow hG (Nat.le_refl _)
      refine WO.nil ?_
      refine AsK.mk' hl63 (fun h120 u121 hl122 => ?_)
      have u121 := u121 wl61
      have hz64 := SzLe.step hz64 u121
      have hb73 := u121.row (row_ne_loop hb73 hl63) hb73
      have hb74 := u121.row (row_ne_loop hb74 hl63) hb74
      have hb78 := u121.row (row_ne_loop hb78 hl63) hb78
      have hb79 := u121.row (row_ne_loop hb79 hl63) hb79
      have hb80 := u121.row (row_ne_loop hb80 hl63) hb80
      have hb119 := u121.row (row_ne_loop hb119 hl63) hb119
      have hs82 := hs82.mono (u121.fz hwm)
      have hs83 := hs83.mono (u121.fz hwm)
      have hs84 := hs84.mono (u121.fz hwm)
      have ho85 := OwnS.step u121 hwm (own_ne_loop ho85 hl63) ho85
      have ho86 := MapO.step u121 (map_ne_loop ho86.at_ hl63) ho86
      have ho87 := OwnS.step u121 hwm (own_ne_loop ho87 hl63) ho87
      have ho88 := OwnS.step u121 hwm (own_ne_loop ho88 hl63) ho88
      have hd81 := u121.at_ hd81 rfl (def_ne_loop hd81 hl63)
      have hG := u121.grow hG (Nat.le_refl _)
      have hl63 := hl122
      refine WC.block ?_
      refine WC.seq ?_
      refine WC.region ?_
      refine WO.fld gN rfl fld61_0 (evT fh rfl) ?_
      refine WO.ld gN rfl agg3 (evT fh rfl) (At.box hb119) (j := 0) rfl (v := .int .i64 x107.name) rfl ?_
      refine WO.ld gN rfl agg3 (evT (fs8 rfl (fs8 rfl (fs8 rfl (fskip rfl fh)))) rfl) (At.box hb74) (j := 0) rfl (v := .int .i64 p1) rfl ?_
      refine WO.bin gN rfl (evT (fskip rfl fh) rfl) (evT fh rfl) abin_eql ?_
      refine WO.mv gN rfl (evT fh rfl) ?_
      refine WO.gfld (GuardIs.yes rfl rfl rfl fh) rfl fld61_5 (fun hg => (evT (fs4 rfl (fskip rfl fh)) rfl)) ?_
      refine WO.gld (GuardIs.yes rfl rfl rfl (fskip rfl fh)) rfl agg4 (fun hg => (evG fh rfl hg)) (fun hg => (At.box hb119)) (j := 5) rfl (v := .bool x107.use) rfl ?_
      refine WO.pand gN rfl (evT (fs2 rfl fh) rfl) (evGU fh) (evC rfl) ?_
      refine WO.nil ?_
      refine SeqK.nrm ?_
      refine WC.condN (evT fh rfl) (fun hc => ?_) (fun hc => ?_)
      · replace hL := cond_tt hc hL
        refine WC.region ?_
        refine WO.ld gN rfl agg24 (evT (fs8 rfl (fs8 rfl (fs8 rfl (fs4 rfl (fs2 rfl fh))))) rfl) (At.box hb78) (j := 0) rfl (v := .slice a76 v75.length c77) rfl ?_
        refine WO.mv gN rfl (evT (fs8 rfl (fs2 rfl fh)) rfl) ?_
        refine WO.bsN (e := (rInt .i64)) h.size gN rfl und24 size3 zero3 rfl rfl rfl (evp_cons (evT fh rfl) evp_nil) rfl [((), x106)] rfl (xs := [x106]) rfl (by intro q hq; simp only [List.mem_cons, List.not_mem_nil, or_false] at hq; subst hq; exact trivial) hwm hG.size rfl (fun h123 u124 ho125 => ?_)
        have dj126 := OwnS.newdj ho85
        have dj127 := OwnS.newdj ho87
        have dj128 := OwnS.newdj ho88
        have hb73 := u124.row (fun z => z) hb73
        have hb74 := u124.row (fun z => z) hb74
        have hb78 := u124.row (fun z => z) hb78
        have hb79 := u124.row (fun z => z) hb79
        have hb80 := u124.row (fun z => z) hb80
        have hb119 := u124.row (fun z => z) hb119
        have hs82 := hs82.mono (u124.fz hwm)
        have hs83 := hs83.mono (u124.fz hwm)
        have hs84 := hs84.mono (u124.fz hwm)
        have ho85 := OwnS.step u124 hwm (fun _ _ z => z) ho85
        have ho86 := MapO.step u124 (fun _ _ z => z) ho86
        have ho87 := OwnS.step u124 hwm (fun _ _ z => z) ho87
        have ho88 := OwnS.step u124 hwm (fun _ _ z => z) ho88
        have hd81 := u124.at_ hd81 rfl (fun z => z)
        have hl63 := u124.at_ hl63 rfl (fun z => z)
        have hz64 := SzLe.step hz64 u124
        have hG := u124.grow hG (Nat.le_refl _)
        obtain ⟨z129, hz129, hL⟩ := bind_some hL
        refine WO.apN (e := (rInt .i64)) h.size gN rfl app24_24 hwm hG.size (evT (fs2 rfl fh) rfl) (evT fh rfl) ho85 (OwnS.src ho125) hz129 (fun a130 c131 h132 u133 ho134 sb135 => ?_)
        have dj136 := OwnS.apdj sb135 (fun i p q => dj89 i q p) ho87
        have dj137 := OwnS.apdj sb135 (fun i p q => dj90 i q p) ho88
        have dj138 := OwnS.apdj sb135 (fun i p q => dj126 i q p) ho125
        have hb73 := u133.row (OwnS.notBox ho85 hb73) hb73
        have hb74 := u133.row (OwnS.notBox ho85 hb74) hb74
        have hb78 := u133.row (OwnS.notBox ho85 hb78) hb78
        have hb79 := u133.row (OwnS.notBox ho85 hb79) hb79
        have hb80 := u133.row (OwnS.notBox ho85 hb80) hb80
        have hb119 := u133.row (OwnS.notBox ho85 hb119) hb119
        have hs82 := hs82.mono (u133.fz hwm)
        have hs83 := hs83.mono (u133.fz hwm)
        have hs84 := hs84.mono (u133.fz hwm)
        have ho86 := MapO.step u133 (fun i e z => MapO.notRow ho86.at_ ho85 i z e) ho86
        have ho87 := OwnS.step u133 hwm dj89 ho87
        have ho88 := OwnS.step u133 hwm dj90 ho88
        have ho125 := OwnS.step u133 hwm dj126 ho125
        have hd81 := u133.at_ hd81 rfl (fun z => own_ne_def ho85 hd81 _ z rfl)
        have hl63 := u133.at_ hl63 rfl (fun z => own_ne_loop ho85 hl63 _ z rfl)
        have hz64 := SzLe.step hz64 u133
        have hG := u133.grow hG (Nat.le_refl _)
        refine WO.stN h.size gN size24 (evT (fs8 rfl (fs8 rfl (fs8 rfl (fs8 rfl (fs2 rfl fh))))) rfl) (evT fh rfl) hb78 whb16 hwm (vs := [.slice a130 z129.length c131]) rfl rfl rfl rfl (cs' := [.slice a130 z129.length c131]) rfl (fun h139 u140 hb141 => ?_)
        have hb73 := u140.row ne17 hb73
        have hb74 := u140.row ne18 hb74
        have hb79 := u140.row (Ne.symm ne43) hb79
        have hb80 := u140.row (Ne.symm ne54) hb80
        have hb119 := u140.row (Ne.symm ne114) hb119
        have hs82 := hs82.mono (u140.fz hwm)
        have hs83 := hs83.mono (u140.fz hwm)
        have hs84 := hs84.mono (u140.fz hwm)
        have ho86 := MapO.step u140 (fun i e z => MapO.notBox ho86.at_ hb78 (z ▸ e)) ho86
        have ho87 := OwnS.step u140 hwm (fun i hb z => by subst z; exact OwnS.notBox ho87 hb78 hb) ho87
        have ho88 := OwnS.step u140 hwm (fun i hb z => by subst z; exact OwnS.notBox ho88 hb78 hb) ho88
        have ho125 := OwnS.step u140 hwm (fun i hb z => by subst z; exact OwnS.notBox ho125 hb78 hb) ho125
        have ho134 := OwnS.step u140 hwm (fun i hb z => by subst z; exact OwnS.notBox ho134 hb78 hb) ho134
        have hd81 := u140.at_ hd81 rfl (fun e => row_ne_def hb78 hd81 e.symm)
        have hl63 := u140.at_ hl63 rfl (fun e => row_ne_loop hb78 hl63 e.symm)
        have hz64 := SzLe.step hz64 u140
        have hG := u140.grow hG (Nat.le_refl _)
        refine WO.nil ?_
        refine BlkK.nrm ?_
        refine BdK.mk' hl63 (fun h142 u143 hl144 => ?_)
        have u143 := u143 wl61
        have hz64 := SzLe.step hz64 u143
        have hb73 := u143.row (row_ne_loop hb73 hl63) hb73
        have hb74 := u143.row (row_ne_loop hb74 hl63) hb74
        have hb141 := u143.row (row_ne_loop hb141 hl63) hb141
        have hb79 := u143.row (row_ne_loop hb79 hl63) hb79
        have hb80 := u143.row (row_ne_loop hb80 hl63) hb80
        have hb119 := u143.row (row_ne_loop hb119 hl63) hb119
        have hs82 := hs82.mono (u143.fz hwm)
        have hs83 := hs83.mono (u143.fz hwm)
        have hs84 := hs84.mono (u143.fz hwm)
        have ho86 := MapO.step u143 (map_ne_loop ho86.at_ hl63) ho86
        have ho87 := OwnS.step u143 hwm (own_ne_loop ho87 hl63) ho87
        have ho88 := OwnS.step u143 hwm (own_ne_loop ho88 hl63) ho88
        have ho125 := OwnS.step u143 hwm (own_ne_loop ho125 hl63) ho125
        have ho134 := OwnS.step u143 hwm (own_ne_loop ho134 hl63) ho134
        have hd81 := u143.at_ hd81 rfl (def_ne_loop hd81 hl63)
        have hG := u143.grow hG (Nat.le_refl _)
        have hl63 := hl144.trans hl59.symm
        have hr := Option.some.inj hL
        subst hr
        exact ⟨a130, c131, hG, hb73, hb74, hb141, hb79, hb80, hd81, hl63, hz64, hs82, hs83, hs84, ho134, ho86, ho87, ho88, (fun i p q => dj136 i q p), (fun i p q => dj137 i q p), dj91⟩
      · replace hL := cond_ff hc hL
        refine WC.skip ?_
        refine BlkK.nrm ?_
        refine BdK.mk' hl63 (fun h145 u146 hl147 => ?_)
        have u146 := u146 wl61
        have hz64 := SzLe.step hz64 u146
        have hb73 := u146.row (row_ne_loop hb73 hl63) hb73
        have hb74 := u146.row (row_ne_loop hb74 hl63) hb74
        have hb78 := u146.row (row_ne_loop hb78 hl63) hb78
        have hb79 := u146.row (row_ne_loop hb79 hl63) hb79
        have hb80 := u146.row (row_ne_loop hb80 hl63) hb80
        have hb119 := u146.row (row_ne_loop hb119 hl63) hb119
        have hs82 := hs82.mono (u146.fz hwm)
        have hs83 := hs83.mono (u146.fz hwm)
        have hs84 := hs84.mono (u146.fz hwm)
        have ho85 := OwnS.step u146 hwm (own_ne_loop ho85 hl63) ho85
        have ho86 := MapO.step u146 (map_ne_loop ho86.at_ hl63) ho86
        have ho87 := OwnS.step u146 hwm (own_ne_loop ho87 hl63) ho87
        have ho88 := OwnS.step u146 hwm (own_ne_loop ho88 hl63) ho88
        have hd81 := u146.at_ hd81 rfl (def_ne_loop hd81 hl63)
        have hG := u146.grow hG (Nat.le_refl _)
        have hl63 := hl147.trans hl59.symm
        have hr := Option.some.inj hL
        subst hr
        exact ⟨a76, c77, hG, hb73, hb74, hb78, hb79, hb80, hd81, hl63, hz64, hs82, hs83, hs84, ho85, ho86, ho87, ho88, dj89, dj90, dj91⟩
    · obtain ⟨v75, hq⟩ : ∃ z, z = q62 := ⟨_, rfl⟩
      subst hq
      obtain ⟨rfl, hJ⟩ := hR98
      obtain ⟨a76, c77, hG, hb73, hb74, hb78, hb79, hb80, hd81, hl63, hz64, hs82, hs83, hs84, ho85, ho86, ho87, ho88, dj89, dj90, dj91⟩ := hJ
      refine ⟨hl63.trans hl59, fun h148 u149 => ?_⟩
      have u149 := u149 wl61
      have hz64 := SzLe.step hz64 u149
      have hb73 := u149.row (row_ne_loop hb73 (hl63.trans hl59)) hb73
      have hb74 := u149.row (row_ne_loop hb74 (hl63.trans hl59)) hb74
      have hb78 := u149.row (row_ne_loop hb78 (hl63.trans hl59)) hb78
      have hb79 := u149.row (row_ne_loop hb79 (hl63.trans hl59)) hb79
      have hb80 := u149.row (row_ne_loop hb80 (hl63.trans hl59)) hb80
      have hs82 := hs82.mono (u149.fz hwm)
      have hs83 := hs83.mono (u149.fz hwm)
      have hs84 := hs84.mono (u149.fz hwm)
      have ho85 := OwnS.step u149 hwm (own_ne_loop ho85 (hl63.trans hl59)) ho85
      have ho86 := MapO.step u149 (map_ne_loop ho86.at_ (hl63.trans hl59)) ho86
      have ho87 := OwnS.step u149 hwm (own_ne_loop ho87 (hl63.trans hl59)) ho87
      have ho88 := OwnS.step u149 hwm (own_ne_loop ho88 (hl63.trans hl59)) ho88
      have hd81 := u149.at_ hd81 rfl (def_ne_loop hd81 (hl63.trans hl59))
      have hG := u149.grow hG (Nat.le_refl _)
      refine BlkK.nrm ?_
      refine SeqK.nrm ?_
      refine WC.seq ?_
      refine WC.seq ?_
      refine WC.region ?_
      refine WO.fld gN rfl fld26_1 (evT (fs8 rfl (fs8 rfl (fs4 rfl fh))) rfl) ?_
      refine WO.ld gN rfl agg23 (evT fh rfl) (At.box hb73) (j := 1) rfl (v := .slice a3 p0.notes.length c4) rfl ?_
      refine WO.len gN rfl und23 (evT fh rfl) ?_
      refine WO.mv gN rfl (evC rfl) ?_
      refine WO.nil ?_
      refine SeqK.nrm ?_
      refine WC.block ?_
      refine WC.loop (WL.lift hL (fun (p : (List Int) × Int) (s : Fs) => match p with | (v154, v160) => ∃ (fr151 : Fr) (h150 : H) (a155 : Option Addr) (c156 : Nat), s = ⟨fr151, [⟨.collected h44.size, #[]⟩], h150, none⟩ ∧ Grow h h150 ∧ fr151.at 3 = .pointer (some ⟨h7.size, 0, none⟩) ∧ fr151.at 4 = .pointer (some ⟨h10.size, 0, none⟩) ∧ fr151.at 5 = .slice a155 v154.length c156 ∧ fr151.at 42 = .slice a3 p0.notes.length c4 ∧ fr151.at 43 = .int .i64 (p0.notes.length : Int) ∧ fr151.at 44 = .int .i64 v160 ∧ h150.at (h7.size) = .row [.int .i64 p1] true 0 ∧ h150.at (h10.size) = .row [.slice a76 v75.length c77] true 0 ∧ h150.at (h44.size) = .deferred ∧ OwnS (rInt .i64) wm h.size h150 a155 c156 v154 ∧ Sl rWeighNote wm h150 a3 c4 p0.notes ∧ OwnS (rInt .i64) wm h.size h150 a76 c77 v75 ∧ (∀ i, BaseA a76 i → BaseA a155 i → False)) ⟨_, _, none, 0, rfl, hG, (fs8 rfl (fs8 rfl (fs4 rfl (fs2 rfl (fskip rfl fh))))), (fs8 rfl (fs8 rfl (fs4 rfl (fs2 rfl fh)))), (fs8 rfl (fs8 rfl (fs4 rfl (fskip rfl fh)))), (fs2 rfl fh), (fskip rfl fh), fh, hb74, hb78, hd81, OwnS.nil, hs83, ho85, (fun _ _ z => (BaseA.none z).elim)⟩ ?_)
      clear hL
      rintro next169 ⟨v154, v160⟩ s hnext169 hL ⟨fr151, h150, a155, c156, rfl, hG, e152, e153, e157, e158, e159, e161, hb162, hb163, hd164, ho165, hs166, ho167, dj168⟩
      dsimp only [f27_b0] at hL
      refine WC.seq ?_
      refine WC.region ?_
      refine WO.bin gN rfl (evT e161 rfl) (evT e159 rfl) abin_lss ?_
      refine WO.nil ?_
      refine SeqK.nrm ?_
      refine WC.seq ?_
      refine WC.condN (evT fh rfl) (fun hc => ?_) (fun hc => ?_)
      · replace hL := cond_tt hc hL
        refine WC.skip ?_
        refine SeqK.nrm ?_
        refine WC.seqJ (r := r) (fun (v174 : (List Int)) (s : Fs) => ∃ (fr171 : Fr) (h170 : H) (a175 : Option Addr) (c176 : Nat), s = ⟨fr171, [⟨.collected h44.size, #[]⟩], h170, none⟩ ∧ Grow h h170 ∧ fr171.at 3 = .pointer (some ⟨h7.size, 0, none⟩) ∧ fr171.at 4 = .pointer (some ⟨h10.size, 0, none⟩) ∧ fr171.at 5 = .slice a175 v174.length c176 ∧ fr171.at 42 = .slice a3 p0.notes.length c4 ∧ fr171.at 43 = .int .i64 (p0.notes.length : Int) ∧ fr171.at 44 = .int .i64 v160 ∧ h170.at (h7.size) = .row [.int .i64 p1] true 0 ∧ h170.at (h10.size) = .row [.slice a76 v75.length c77] true 0 ∧ h170.at (h44.size) = .deferred ∧ OwnS (rInt .i64) wm h.size h170 a175 c176 v174 ∧ Sl rWeighNote wm h170 a3 c4 p0.notes ∧ OwnS (rInt .i64) wm h.size h170 a76 c77 v75 ∧ (∀ i, BaseA a76 i → BaseA a175 i → False)) (f27_j0 v160 next169) ?_ ?_
        · clear hL
          rintro v174 s hL ⟨fr171, h170, a175, c176, rfl, hG, e172, e173, e177, e178, e179, e180, hb181, hb182, hd183, ho184, hs185, ho186, dj187⟩
          dsimp only [f27_j0] at hL
          refine WC.region ?_
          refine WO.bin gN rfl (evT e180 rfl) (evC rfl) abin_addw ?_
          refine WO.mv gN rfl (evT fh rfl) ?_
          refine WO.nil ?_
          exact LoopK.nrm (hnext169 _ _ hL ⟨_, _, a175, c176, rfl, hG, (fs2 rfl e172), (fs2 rfl e173), (fs2 rfl e177), (fs2 rfl e178), (fs2 rfl e179), fh, hb181, hb182, hd183, ho184, hs185, ho186, dj187⟩)
        · skip
          refine WC.block ?_
          refine WC.seq ?_
          refine WC.region ?_
          refine WO.mv gN rfl (evT (fskip rfl e161) rfl) ?_
          obtain ⟨x188, hx188, hL⟩ := bind_some hL
          obtain ⟨b189, o190, _, hab189, hAb189, hSb189, hFb189⟩ := Sl.at_ hs166 hx188
          refine WO.ix gN rfl und23 size58 (evT (fs2 rfl e158) rfl) (evT (fs2 rfl e161) rfl) hab189 hx188 ?_
          refine WO.ldA gN rfl agg58 size58 (evT fh rfl) hAb189 (j := 0) rfl rfl (ws := [.int .i64 x188.kind, .int .i64 x188.to_, .int .i64 x188.name, .int .i64 x188.via, .int .i64 x188.w]) rfl ?_
          refine WO.alcN h.size gN rfl zero58 (vs := [.int .i64 0, .int .i64 0, .int .i64 0, .int .i64 0, .int .i64 0]) rfl (fun h191 u192 hb193 => ?_)
          have whb193 : h.size ≤ h150.size := hG.size
          have ne194 := Nat.ne_of_lt (live_lt hb162 rfl)
          have ne195 := Nat.ne_of_lt (live_lt hb163 rfl)
          have hb162 := u192.row (fun z => z) hb162
          have hb163 := u192.row (fun z => z) hb163
          have ho165 := OwnS.step u192 hwm (fun _ _ z => z) ho165
          have hs166 := hs166.mono (u192.fz hwm)
          have ho167 := OwnS.step u192 hwm (fun _ _ z => z) ho167
          have qhAb189 := Stb.fz (u192.fz hwm) hAb189 hSb189
          have hAb189 := At.fz (u192.fz hwm) hSb189 hAb189
          have hSb189 := qhAb189
          have hd164 := u192.at_ hd164 rfl (fun z => z)
          have hG := u192.grow hG (Nat.le_refl _)
          refine WO.as gN rfl (evT (fs2 rfl (fskip rfl fh)) rfl) ?_
          refine WO.stN h.size gN size58 (evT (fskip rfl fh) rfl) (evT (fs2 rfl fh) rfl) hb193 whb193 hwm (vs := [.int .i64 x188.kind, .int .i64 x188.to_, .int .i64 x188.name, .int .i64 x188.via, .int .i64 x188.w]) rfl rfl rfl rfl (cs' := [.int .i64 x188.kind, .int .i64 x188.to_, .int .i64 x188.name, .int .i64 x188.via, .int .i64 x188.w]) rfl (fun h196 u197 hb198 => ?_)
          have hb162 := u197.row ne194 hb162
          have hb163 := u197.row ne195 hb163
          have ho165 := OwnS.step u197 hwm (fun i hb z => by subst z; exact OwnS.notBox ho165 hb193 hb) ho165
          have hs166 := hs166.mono (u197.fz hwm)
          have ho167 := OwnS.step u197 hwm (fun i hb z => by subst z; exact OwnS.notBox ho167 hb193 hb) ho167
          have qhAb189 := Stb.fz (u197.fz hwm) hAb189 hSb189
          have hAb189 := At.fz (u197.fz hwm) hSb189 hAb189
          have hSb189 := qhAb189
          have hd164 := u197.at_ hd164 rfl (fun e => row_ne_def hb193 hd164 e.symm)
          have hG := u197.grow hG (Nat.le_refl _)
          refine WO.nil ?_
          refine SeqK.nrm ?_
          refine WC.seq ?_
          refine WC.region ?_
          refine WO.fld gN rfl fld58_0 (evT (fskip rfl fh) rfl) ?_
          refine WO.ld gN rfl agg56 (evT fh rfl) (At.box hb198) (j := 0) rfl (v := .int .i64 x188.kind) rfl ?_
          refine WO.bin gN rfl (evT fh rfl) (evC rfl) abin_eql ?_
          refine WO.mv gN rfl (evT fh rfl) ?_
          refine WO.gfld (GuardIs.yes rfl rfl rfl fh) rfl fld58_2 (fun hg => (evT (fs4 rfl (fskip rfl fh)) rfl)) ?_
          refine WO.gld (GuardIs.yes rfl rfl rfl (fskip rfl fh)) rfl agg3 (fun hg => (evG fh rfl hg)) (fun hg => (At.box hb198)) (j := 2) rfl (v := .int .i64 x188.name) rfl ?_
          refine WO.gld (GuardIs.yes rfl rfl rfl (fs2 rfl fh)) rfl agg3 (fun hg => (evT (fs8 rfl (fs4 rfl e152)) rfl)) (fun hg => (At.box hb162)) (j := 0) rfl (v := .int .i64 p1) rfl ?_
          refine WO.gbin (GuardIs.yes rfl rfl rfl (fs2 rfl (fskip rfl fh))) rfl (fun hg => (evG (fskip rfl fh) rfl hg)) (fun hg => (evG fh rfl hg)) (fun hg => abin_eql) ?_
          refine WO.pand gN rfl (evT (fs4 rfl fh) rfl) (evGU fh) (evC rfl) ?_
          refine WO.nil ?_
          refine SeqK.nrm ?_
          refine WC.condN (evT fh rfl) (fun hc => ?_) (fun hc => ?_)
          · replace hL := cond_tt hc hL
            refine WC.region ?_
            refine WO.mv gN rfl (evT (fs8 rfl (fs4 rfl (fs2 rfl (fskip rfl e157)))) rfl) ?_
            refine WO.mv gN rfl (evT (fs8 rfl (fs2 rfl fh)) rfl) ?_
            refine WO.bsN (e := (rInt .i64)) h.size gN rfl und24 size3 zero3 rfl rfl rfl (evp_cons (evT fh rfl) evp_nil) rfl [((), v160)] rfl (xs := [v160]) rfl (by intro q hq; simp only [List.mem_cons, List.not_mem_nil, or_false] at hq; subst hq; exact trivial) hwm hG.size rfl (fun h199 u200 ho201 => ?_)
            have dj202 := OwnS.newdj ho165
            have dj203 := OwnS.newdj ho167
            have hb162 := u200.row (fun z => z) hb162
            have hb163 := u200.row (fun z => z) hb163
            have hb198 := u200.row (fun z => z) hb198
            have ho165 := OwnS.step u200 hwm (fun _ _ z => z) ho165
            have hs166 := hs166.mono (u200.fz hwm)
            have ho167 := OwnS.step u200 hwm (fun _ _ z => z) ho167
            have qhAb189 := Stb.fz (u200.fz hwm) hAb189 hSb189
            have hAb189 := At.fz (u200.fz hwm) hSb189 hAb189
            have hSb189 := qhAb189
            have hd164 := u200.at_ hd164 rfl (fun z => z)
            have hG := u200.grow hG (Nat.le_refl _)
            obtain ⟨z204, hz204, hL⟩ := bind_some hL
            refine WO.apN (e := (rInt .i64)) h.size gN rfl app24_24 hwm hG.size (evT (fs2 rfl fh) rfl) (evT fh rfl) ho165 (OwnS.src ho201) hz204 (fun a205 c206 h207 u208 ho209 sb210 => ?_)
            have dj211 := OwnS.apdj sb210 (fun i p q => dj168 i q p) ho167
            have dj212 := OwnS.apdj sb210 (fun i p q => dj202 i q p) ho201
            have hb162 := u208.row (OwnS.notBox ho165 hb162) hb162
            have hb163 := u208.row (OwnS.notBox ho165 hb163) hb163
            have hb198 := u208.row (OwnS.notBox ho165 hb198) hb198
            have hs166 := hs166.mono (u208.fz hwm)
            have ho167 := OwnS.step u208 hwm dj168 ho167
            have ho201 := OwnS.step u208 hwm dj202 ho201
            have qhAb189 := Stb.fz (u208.fz hwm) hAb189 hSb189
            have hAb189 := At.fz (u208.fz hwm) hSb189 hAb189
            have hSb189 := qhAb189
            have hd164 := u208.at_ hd164 rfl (fun z => own_ne_def ho165 hd164 _ z rfl)
            have hG := u208.grow hG (Nat.le_refl _)
            refine WO.as gN rfl (evT fh rfl) ?_
            refine WO.nil ?_
            refine BlkK.nrm ?_
            exact SeqJ.nrm _ hL ⟨_, _, a205, c206, rfl, hG, (fs8 rfl (fs8 rfl (fs4 rfl e152))), (fs8 rfl (fs8 rfl (fs4 rfl e153))), fh, (fs8 rfl (fs8 rfl (fs4 rfl e158))), (fs8 rfl (fs8 rfl (fs4 rfl e159))), (fs8 rfl (fs8 rfl (fs4 rfl e161))), hb162, hb163, hd164, ho209, hs166, ho167, (fun i p q => dj211 i q p)⟩
          · replace hL := cond_ff hc hL
            refine WC.skip ?_
            refine BlkK.nrm ?_
            exact SeqJ.nrm _ hL ⟨_, _, a155, c156, rfl, hG, (fs8 rfl (fs4 rfl (fs2 rfl (fskip rfl e152)))), (fs8 rfl (fs4 rfl (fs2 rfl (fskip rfl e153)))), (fs8 rfl (fs4 rfl (fs2 rfl (fskip rfl e157)))), (fs8 rfl (fs4 rfl (fs2 rfl (fskip rfl e158)))), (fs8 rfl (fs4 rfl (fs2 rfl (fskip rfl e159)))), (fs8 rfl (fs4 rfl (fs2 rfl (fskip rfl e161)))), hb162, hb163, hd164, ho165, hs166, ho167, dj168⟩
      · replace hL := cond_ff hc hL
        refine WC.exit ?_
        refine SeqK.exit ?_
        refine LoopK.exit ?_
        refine BlkK.here ?_
        refine SeqK.nrm ?_
        refine WC.seq ?_
        refine WC.region ?_
        refine WO.ld gN rfl agg24 (evT (fskip rfl e153) rfl) (At.box hb163) (j := 0) rfl (v := .slice a76 v75.length c77) rfl ?_
        refine WO.mv gN rfl (evT (fs2 rfl e157) rfl) ?_
        refine WO.stN h.size gN size24 (evT (fs2 rfl (fskip rfl e153)) rfl) (evT (fskip rfl fh) rfl) hb163 whb16 hwm (vs := [.slice a76 v75.length c77]) rfl rfl rfl rfl (cs' := [.slice a76 v75.length c77]) rfl (fun h213 u214 hb215 => ?_)
        have hb162 := u214.row ne18 hb162
        have ho165 := OwnS.step u214 hwm (fun i hb z => by subst z; exact OwnS.notBox ho165 hb163 hb) ho165
        have hs166 := hs166.mono (u214.fz hwm)
        have ho167 := OwnS.step u214 hwm (fun i hb z => by subst z; exact OwnS.notBox ho167 hb163 hb) ho167
        have hd164 := u214.at_ hd164 rfl (fun e => row_ne_def hb163 hd164 e.symm)
        have hG := u214.grow hG (Nat.le_refl _)
        refine WO.as gN rfl (evT fh rfl) ?_
        refine WO.as gN rfl (evC rfl) ?_
        refine WO.nil ?_
        refine SeqK.nrm ?_
        refine WC.ret ?_
        refine RetL.col h.size wd60 hd164 (Nat.le_trans hwm wd60) (fun h216 u217 => ?_)
        have hb162 := u217.row (row_ne_def hb162 hd164) hb162
        have hb215 := u217.row (row_ne_def hb215 hd164) hb215
        have ho165 := OwnS.step u217 hwm (own_ne_def ho165 hd164) ho165
        have hs166 := hs166.mono (u217.fz hwm)
        have ho167 := OwnS.step u217 hwm (own_ne_def ho167 hd164) ho167
        have hG := u217.grow hG (Nat.le_refl _)
        have hr := Option.some.inj hL
        subst hr
        exact RetL.gen rfl (ares_cell (fs4 rfl (fskip rfl e153)) (aload_at1 agg24 (At.box hb215) (j := 0) rfl (v := .slice a76 v75.length c77) rfl) (ares_tmp (evT (fskip rfl fh) rfl) (ares_tmp (evT fh rfl) ares_nil))) rfl ⟨a76, c77, a155, c156, rfl, hG, ho167, ho165, (fun i p q => dj168 i q p)⟩
theorem f5_wf {F : Nat} {wm : Nat} {h : H} {p0 : WeighWorld} {p1 : Int} {a1 : Option Addr} {c2 : Nat} {a3 : Option Addr} {c4 : Nat} {a5 : Option Addr} {c6 : Nat} {r : Bool} (hwm : wm ≤ h.size) (hsa1 : Sl (rSl rWeighCell) wm h a1 c2 p0.cells) (hsa3 : Sl rWeighNote wm h a3 c4 p0.notes) (hsa5 : Sl (rInt .i64) wm h a5 c6 p0.freed) (hL : f5L F p0 p1 = some r) :
    WR XX 5 #[.agg [.slice a1 p0.cells.length c2, .slice a3 p0.notes.length c4, .int .i64 p0.names, .slice a5 p0.freed.length c6].toArray, .int .i64 p1] wm h (fun v _ => v = .bool r) := by
  refine WF.begin (args := [_, _]) (fn := Try.f5) (by kernel_rfl) (by exact rfl) Try.ntmps5 (by simp) ?_
  simp only [frameOf_cons, frameOf_nil, Nat.reduceAdd]
  have hG : Grow h h := Grow.refl h
  unfold f5L at hL
  refine WC.seq ?_
  refine WC.region ?_
  refine WO.boxN h.size gN rfl (evT (fskip rfl fh) rfl) (vs := [.slice a1 p0.cells.length c2, .slice a3 p0.notes.length c4, .int .i64 p0.names, .slice a5 p0.freed.length c6]) rfl (fun h7 u8 hb9 => ?_)
  have whb9 : h.size ≤ h.size := hG.size
  have hsa1 := hsa1.mono (u8.fz hwm)
  have hsa3 := hsa3.mono (u8.fz hwm)
  have hsa5 := hsa5.mono (u8.fz hwm)
  have hG := u8.grow hG (Nat.le_refl _)
  refine WO.as gN rfl (evC rfl) ?_
  refine WO.nil ?_
  refine SeqK.nrm ?_
  refine WC.seq ?_
  refine WC.seq ?_
  refine WC.region ?_
  refine WO.ldA gN rfl agg26 size26 (evT (fskip rfl fh) rfl) (At.box hb9) (j := 0) rfl rfl (ws := [.slice a1 p0.cells.length c2, .slice a3 p0.notes.length c4, .int .i64 p0.names, .slice a5 p0.freed.length c6]) rfl ?_
  obtain ⟨x10, hx10, hL⟩ := bind_some hL
  refine WO.cf gN rfl has13 (evs_cons (evT fh rfl) evs_nil) (f13_ok (Src.sl (Sl.src hsa1) (Nat.le_trans hwm hG.size)) (Src.sl (Sl.src hsa3) (Nat.le_trans hwm hG.size)) (Src.sl (Sl.src hsa5) (Nat.le_trans hwm hG.size)) hx10 _) ?_
  refine WO.nil ?_
  refine SeqK.nrm ?_
  refine WC.condN (evT fh rfl) (fun hc => ?_) (fun hc => ?_)
  · replace hL := cond_tt hc hL
    refine WC.seq ?_
    refine WC.region ?_
    obtain ⟨x11, hx11, hL⟩ := bind_some hL
    refine WO.cf gN rfl has14 evs_nil (f14_ok  hx11 _) ?_
    refine WO.as gN rfl (evT fh rfl) ?_
    refine WO.nil ?_
    refine SeqK.nrm ?_
    refine WC.ret ?_
    refine SeqK.ret ?_
    have hr := Option.some.inj hL
    subst hr
    exact RetK.gen1 rfl (ares_tmp (evT fh rfl) ares_nil) rfl
  · replace hL := cond_ff hc hL
    refine WC.skip ?_
    refine SeqK.nrm ?_
    refine WC.seq ?_
    refine WC.region ?_
    refine WO.ldA gN rfl agg26 size26 (evT (fs2 rfl (fskip rfl fh)) rfl) (At.box hb9) (j := 0) rfl rfl (ws := [.slice a1 p0.cells.length c2, .slice a3 p0.notes.length c4, .int .i64 p0.names, .slice a5 p0.freed.length c6]) rfl ?_
    obtain ⟨x12, hx12, hL⟩ := bind_some hL
    refine WO.cw gN rfl has25 (evs_cons (evT fh rfl) evs_nil) (f25_wf (Nat.le_trans hwm hG.size) hsa1 hsa3 hsa5 hx12) (fun y20 h15 hr17 => ?_)
    obtain ⟨a13, c14, rfl, gr16, ho19⟩ := hr17
    have u18 := Up.of_grow h.size gr16
    have ho19 := OwnS.lower hG.size ho19
    have hb9 := u18.row (fun z => z) hb9
    have hsa1 := hsa1.mono (u18.fz hwm)
    have hsa3 := hsa3.mono (u18.fz hwm)
    have hsa5 := hsa5.mono (u18.fz hwm)
    have hG := u18.grow hG (Nat.le_refl _)
    refine WO.mv gN rfl (evT fh rfl) ?_
    refine WO.v gN rfl (av_extract (evT fh rfl) (v := .slice a13 x12.1.length c14) rfl) rfl ?_
    refine WO.v gN rfl (av_extract (evT (fskip rfl fh) rfl) (v := .int .i64 x12.2) rfl) rfl ?_
    refine WO.as gN rfl (evT (fskip rfl fh) rfl) ?_
    refine WO.as gN rfl (evT (fskip rfl fh) rfl) ?_
    refine WO.nil ?_
    refine SeqK.nrm ?_
    refine WC.seq ?_
    refine WC.region ?_
    refine WO.ldA gN rfl agg26 size26 (evT (fs8 rfl (fs2 rfl fh)) rfl) (At.box hb9) (j := 0) rfl rfl (ws := [.slice a1 p0.cells.length c2, .slice a3 p0.notes.length c4, .int .i64 p0.names, .slice a5 p0.freed.length c6]) rfl ?_
    obtain ⟨x21, hx21, hL⟩ := bind_some hL
    refine WO.cw gN rfl has26 (evs_cons (evT fh rfl) evs_nil) (f26_wf (Nat.le_trans hwm hG.size) hsa1 hsa3 hsa5 hx21) (fun y29 h24 hr26 => ?_)
    obtain ⟨a22, c23, rfl, gr25, ho28⟩ := hr26
    have u27 := Up.of_grow h.size gr25
    have dj30 := OwnS.calldj ho28 ho19
    have ho28 := OwnS.lower hG.size ho28
    have hb9 := u27.row (fun z => z) hb9
    have hsa1 := hsa1.mono (u27.fz hwm)
    have hsa3 := hsa3.mono (u27.fz hwm)
    have hsa5 := hsa5.mono (u27.fz hwm)
    have ho19 := OwnS.step u27 hwm (fun _ _ z => z) ho19
    have hG := u27.grow hG (Nat.le_refl _)
    refine WO.mv gN rfl (evT fh rfl) ?_
    refine WO.v gN rfl (av_extract (evT fh rfl) (v := .slice a22 x21.1.length c23) rfl) rfl ?_
    refine WO.v gN rfl (av_extract (evT (fskip rfl fh) rfl) (v := .int .i64 x21.2) rfl) rfl ?_
    refine WO.as gN rfl (evT (fskip rfl fh) rfl) ?_
    refine WO.as gN rfl (evT (fskip rfl fh) rfl) ?_
    refine WO.nil ?_
    refine SeqK.nrm ?_
    refine WC.seq ?_
    refine WC.region ?_
    refine WO.ldA gN rfl agg26 size26 (evT (fs8 rfl (fs8 rfl (fskip rfl fh))) rfl) (At.box hb9) (j := 0) rfl rfl (ws := [.slice a1 p0.cells.length c2, .slice a3 p0.notes.length c4, .int .i64 p0.names, .slice a5 p0.freed.length c6]) rfl ?_
    refine WO.mv gN rfl (evT (fs8 rfl (fs8 rfl (fs2 rfl (fskip rfl fh)))) rfl) ?_
    obtain ⟨x31, hx31, hL⟩ := bind_some hL
    refine WO.cw gN rfl has27 (evs_cons (evT (fskip rfl fh) rfl) (evs_cons (evT fh rfl) evs_nil)) (f27_wf (Nat.le_trans hwm hG.size) hsa1 hsa3 hsa5 hx31) (fun y42 h36 hr38 => ?_)
    obtain ⟨a32, c33, a34, c35, rfl, gr37, ho40, ho41, dj43⟩ := hr38
    have u39 := Up.of_grow h.size gr37
    have dj44 := OwnS.calldj ho40 ho19
    have dj45 := OwnS.calldj ho40 ho28
    have ho40 := OwnS.lower hG.size ho40
    have dj46 := OwnS.calldj ho41 ho19
    have dj47 := OwnS.calldj ho41 ho28
    have ho41 := OwnS.lower hG.size ho41
    have hb9 := u39.row (fun z => z) hb9
    have hsa1 := hsa1.mono (u39.fz hwm)
    have hsa3 := hsa3.mono (u39.fz hwm)
    have hsa5 := hsa5.mono (u39.fz hwm)
    have ho19 := OwnS.step u39 hwm (fun _ _ z => z) ho19
    have ho28 := OwnS.step u39 hwm (fun _ _ z => z) ho28
    have hG := u39.grow hG (Nat.le_refl _)
    refine WO.mv gN rfl (evT fh rfl) ?_
    refine WO.v gN rfl (av_extract (evT fh rfl) (v := .slice a32 x31.1.length c33) rfl) rfl ?_
    refine WO.v gN rfl (av_extract (evT (fskip rfl fh) rfl) (v := .slice a34 x31.2.1.length c35) rfl) rfl ?_
    refine WO.v gN rfl (av_extract (evT (fs2 rfl fh) rfl) (v := .int .i64 x31.2.2) rfl) rfl ?_
    refine WO.as gN rfl (evT (fs2 rfl fh) rfl) ?_
    refine WO.as gN rfl (evT (fs2 rfl fh) rfl) ?_
    refine WO.as gN rfl (evT (fs2 rfl fh) rfl) ?_
    refine WO.nil ?_
    refine SeqK.nrm ?_
    refine WC.seq ?_
    refine WC.region ?_
    refine WO.ldA gN rfl agg26 size26 (evT (fs8 rfl (fs8 rfl (fs8 rfl (fs2 rfl (fskip rfl fh))))) rfl) (At.box hb9) (j := 0) rfl rfl (ws := [.slice a1 p0.cells.length c2, .slice a3 p0.notes.length c4, .int .i64 p0.names, .slice a5 p0.freed.length c6]) rfl ?_
    refine WO.mv gN rfl (evT (fs8 rfl (fs8 rfl (fs8 rfl (fs4 rfl (fskip rfl fh))))) rfl) ?_
    obtain ⟨x48, hx48, hL⟩ := bind_some hL
    refine WO.cw gN rfl has28 (evs_cons (evT (fskip rfl fh) rfl) (evs_cons (evT fh rfl) evs_nil)) (f28_wf (Nat.le_trans hwm hG.size) hsa1 hsa3 hsa5 hx48) (fun y59 h53 hr55 => ?_)
    obtain ⟨a49, c50, a51, c52, rfl, gr54, ho57, ho58, dj60⟩ := hr55
    have u56 := Up.of_grow h.size gr54
    have dj61 := OwnS.calldj ho57 ho19
    have dj62 := OwnS.calldj ho57 ho28
    have dj63 := OwnS.calldj ho57 ho40
    have dj64 := OwnS.calldj ho57 ho41
    have ho57 := OwnS.lower hG.size ho57
    have dj65 := OwnS.calldj ho58 ho19
    have dj66 := OwnS.calldj ho58 ho28
    have dj67 := OwnS.calldj ho58 ho40
    have dj68 := OwnS.calldj ho58 ho41
    have ho58 := OwnS.lower hG.size ho58
    have hb9 := u56.row (fun z => z) hb9
    have hsa1 := hsa1.mono (u56.fz hwm)
    have hsa3 := hsa3.mono (u56.fz hwm)
    have hsa5 := hsa5.mono (u56.fz hwm)
    have ho19 := OwnS.step u56 hwm (fun _ _ z => z) ho19
    have ho28 := OwnS.step u56 hwm (fun _ _ z => z) ho28
    have ho40 := OwnS.step u56 hwm (fun _ _ z => z) ho40
    have ho41 := OwnS.step u56 hwm (fun _ _ z => z) ho41
    have hG := u56.grow hG (Nat.le_refl _)
    refine WO.mv gN rfl (evT fh rfl) ?_
    refine WO.v gN rfl (av_extract (evT fh rfl) (v := .slice a49 x48.1.length c50) rfl) rfl ?_
    refine WO.v gN rfl (av_extract (evT (fskip rfl fh) rfl) (v := .slice a51 x48.2.1.length c52) rfl) rfl ?_
    refine WO.v gN rfl (av_extract (evT (fs2 rfl fh) rfl) (v := .int .i64 x48.2.2) rfl) rfl ?_
    refine WO.as gN rfl (evT (fs2 rfl fh) rfl) ?_
    refine WO.as gN rfl (evT (fs2 rfl fh) rfl) ?_
    refine WO.as gN rfl (evT (fs2 rfl fh) rfl) ?_
    refine WO.nil ?_
    refine SeqK.nrm ?_
    refine WC.seq ?_
    refine WC.region ?_
    refine WO.mv gN rfl (evT (fs8 rfl (fs8 rfl (fs8 rfl (fs4 rfl fh)))) rfl) ?_
    refine WO.mv gN rfl (evT (fs8 rfl (fs8 rfl (fs4 rfl (fs2 rfl fh)))) rfl) ?_
    obtain ⟨x69, hx69, hL⟩ := bind_some hL
    refine WO.cf gN rfl has29 (evs_cons (evT (fskip rfl fh) rfl) (evs_cons (evT fh rfl) evs_nil)) (f29_ok (Src.sl (OwnS.src ho19) (Nat.le_trans hwm hG.size)) (Src.sl (OwnS.src ho28) (Nat.le_trans hwm hG.size)) hx69 _) ?_
    refine WO.mv gN rfl (evT fh rfl) ?_
    refine WO.gmv (GuardIs.yes rfl rfl rfl fh) rfl (fun hg => (evT (fs8 rfl (fs8 rfl (fs8 rfl (fs4 rfl (fs2 rfl (fskip rfl fh)))))) rfl)) ?_
    refine WO.gmv (GuardIs.yes rfl rfl rfl (fskip rfl fh)) rfl (fun hg => (evT (fs8 rfl (fs8 rfl (fs8 rfl (fskip rfl fh)))) rfl)) ?_
    refine WO.gbin (GuardIs.yes rfl rfl rfl (fs2 rfl fh)) rfl (fun hg => (evG (fskip rfl fh) rfl hg)) (fun hg => (evG fh rfl hg)) (fun hg => abin_eql) ?_
    refine WO.pand gN rfl (evT (fs2 rfl (fskip rfl fh)) rfl) (evGU fh) (evC rfl) ?_
    refine WO.mv gN rfl (evT fh rfl) ?_
    refine WO.gmv (GuardIs.yes rfl rfl rfl fh) rfl (fun hg => (evT (fs8 rfl (fs8 rfl (fs4 rfl (fskip rfl fh)))) rfl)) ?_
    refine WO.gmv (GuardIs.yes rfl rfl rfl (fskip rfl fh)) rfl (fun hg => (evT (fs8 rfl (fs4 rfl fh)) rfl)) ?_
    obtain ⟨x70, hx70, hL⟩ := gd_some hL
    refine WO.gcf (GuardIs.yes rfl rfl rfl (fs2 rfl fh)) rfl has30 (fun hg => (evs_cons (evG (fskip rfl fh) rfl hg) (evs_cons (evG fh rfl hg) evs_nil))) (fun hg => f30_ok (Src.sl (OwnS.src ho40) (Nat.le_trans hwm hG.size)) (Src.sl (OwnS.src ho57) (Nat.le_trans hwm hG.size)) (hx70 hg) _) ?_
    refine WO.pand gN rfl (evT (fs2 rfl (fskip rfl fh)) rfl) (evGU fh) (evC rfl) ?_
    refine WO.mv gN rfl (evT fh rfl) ?_
    refine WO.gmv (GuardIs.yes rfl rfl rfl fh) rfl (fun hg => (evT (fs8 rfl (fs8 rfl (fs8 rfl (fskip rfl fh)))) rfl)) ?_
    refine WO.gmv (GuardIs.yes rfl rfl rfl (fskip rfl fh)) rfl (fun hg => (evT (fs8 rfl (fs8 rfl fh)) rfl)) ?_
    obtain ⟨x71, hx71, hL⟩ := gd_some hL
    refine WO.gcf (GuardIs.yes rfl rfl rfl (fs2 rfl fh)) rfl has30 (fun hg => (evs_cons (evG (fskip rfl fh) rfl hg) (evs_cons (evG fh rfl hg) evs_nil))) (fun hg => f30_ok (Src.sl (OwnS.src ho41) (Nat.le_trans hwm hG.size)) (Src.sl (OwnS.src ho58) (Nat.le_trans hwm hG.size)) (hx71 hg) _) ?_
    refine WO.pand gN rfl (evT (fs2 rfl (fskip rfl fh)) rfl) (evGU fh) (evC rfl) ?_
    refine WO.mv gN rfl (evT fh rfl) ?_
    refine WO.gmv (GuardIs.yes rfl rfl rfl fh) rfl (fun hg => (evT (fs8 rfl (fs8 rfl (fs8 rfl (fs4 rfl (fskip rfl fh))))) rfl)) ?_
    refine WO.gmv (GuardIs.yes rfl rfl rfl (fskip rfl fh)) rfl (fun hg => (evT (fs8 rfl (fs8 rfl (fs4 rfl fh))) rfl)) ?_
    refine WO.gbin (GuardIs.yes rfl rfl rfl (fs2 rfl fh)) rfl (fun hg => (evG (fskip rfl fh) rfl hg)) (fun hg => (evG fh rfl hg)) (fun hg => abin_eql) ?_
    refine WO.pand gN rfl (evT (fs2 rfl (fskip rfl fh)) rfl) (evGU fh) (evC rfl) ?_
    refine WO.mv gN rfl (evT fh rfl) ?_
    obtain ⟨x72, hx72, hL⟩ := gd_some hL
    refine WO.gcf (GuardIs.yes rfl rfl rfl fh) rfl has14 (fun hg => evs_nil) (fun hg => f14_ok  (hx72 hg) _) ?_
    refine WO.pand gN rfl (evT (fskip rfl fh) rfl) (evGU fh) (evC rfl) ?_
    refine WO.as gN rfl (evT fh rfl) ?_
    refine WO.nil ?_
    refine SeqK.nrm ?_
    refine WC.ret ?_
    have hr := Option.some.inj hL
    subst hr
    exact RetK.gen1 rfl (ares_tmp (evT fh rfl) ares_nil) rfl
theorem f5_ok {F : Nat} {h : H} {p0 : WeighWorld} {p1 : Int} {a1 : Option Addr} {c2 : Nat} {a3 : Option Addr} {c4 : Nat} {a5 : Option Addr} {c6 : Nat} {r : Bool} (hsa1 : Sl (rSl rWeighCell) h.size h a1 c2 p0.cells) (hsa3 : Sl rWeighNote h.size h a3 c4 p0.notes) (hsa5 : Sl (rInt .i64) h.size h a5 c6 p0.freed) (hL : f5L F p0 p1 = some r) : Pure XX 5 #[.agg [.slice a1 p0.cells.length c2, .slice a3 p0.notes.length c4, .int .i64 p0.names, .slice a5 p0.freed.length c6].toArray, .int .i64 p1] h (.bool r) :=
  WF.pureR rfl (f5_wf (Nat.le_refl _) hsa1 hsa3 hsa5 hL)
end Go.Proofs.Ytekpjgmhkkjhgaa
end
end
section
namespace Go.Lf
theorem w64_bmod (n : Int) : w64 n = Int.bmod n 18446744073709551616 := by
  unfold w64 Go.IntKind.wrap
  have e1 : (2 ^ IntKind.i64.bits : Int) = 18446744073709551616 := by decide
  have e2 : (2 ^ (IntKind.i64.bits - 1) : Int) = 9223372036854775808 := by decide
  have e3 : IntKind.i64.signed = true := rfl
  rw [e1, e2, e3]
  dsimp only
  unfold Int.bmod
  have := Int.emod_nonneg n (b := 18446744073709551616) (by decide)
  have := Int.emod_lt_of_pos n (b := 18446744073709551616) (by decide)
  simp
  split <;> split <;> omega
theorem w64_add (a b : Int) : w64 (w64 a + b) = w64 (a + b) := by
  rw [w64_bmod, w64_bmod, w64_bmod]; simp
theorem w64_succ {k : Nat} (h : k < 4611686018427387904) : w64 ((k : Int) + 1) = ((k + 1 : Nat) : Int) := by
  rw [w64_id (by omega) (by omega)]; rfl
theorem w64_pred {k : Nat} (h : k < 4611686018427387904) (h0 : 0 < k) : w64 ((k : Int) - 1) = ((k - 1 : Nat) : Int) := by
  rw [w64_id (by omega) (by omega)]; omega
theorem app_ok {α : Type} {by_ : Nat} {xs ys : List α} (h : xs.length + ys.length ≤ 1000000) (hb : by_ ≤ 1000) : app by_ xs ys = some (xs ++ ys) :=
  app_eq (Nat.le_trans (Nat.mul_le_mul (show 2 * (xs.length + ys.length) + 1000 ≤ 2001000 by omega) hb) (by decide))
def iter {α β σ : Type} (g : Nat → α → σ → (σ → Option β) → Option β) (d : σ → Option β) : Nat → List α → σ → Option β
  | _, [], s => d s
  | i, x :: l, s => g i x s (fun s' => iter g d (i + 1) l s')
theorem loop_list {α β σ γ : Type} (l : List α) (mk : Int → σ → γ) (body : γ → (γ → Option β) → Option β) (g : Nat → α → σ → (σ → Option β) → Option β) (d : σ → Option β)
    (hl : l.length < 4611686018427387904)
    (hb : ∀ (k : Nat) x s next, l[k]? = some x → ((k : Int) < (l.length : Int)) → body (mk k s) next = g k x s (fun s' => next (mk (w64 (k + 1)) s')))
    (he : ∀ s next, body (mk l.length s) next = d s) {F : Nat} (hF : l.length < F) (s : σ) : loop F body (mk 0 s) = iter g d 0 l s := by
  have key : ∀ (m k F : Nat) s, k + m = l.length → m < F → loop F body (mk k s) = iter g d k (l.drop k) s := by
    intro m
    induction m with
    | zero =>
      intro k F s hk hF
      obtain ⟨F, rfl⟩ := Nat.exists_eq_succ_of_ne_zero (n := F) (by omega)
      have : k = l.length := by omega
      subst this
      rw [loop_succ, he, List.drop_length]; rfl
    | succ m ih =>
      intro k F s hk hF
      obtain ⟨F, rfl⟩ := Nat.exists_eq_succ_of_ne_zero (n := F) (by omega)
      have hlt : k < l.length := by omega
      rw [loop_succ, hb k l[k] s _ (by simp [hlt]) (by omega), List.drop_eq_getElem_cons hlt, iter]
      congr 1
      funext s'
      rw [w64_succ (by omega)]
      exact ih (k + 1) F s' (by omega) (by omega)
  have := key l.length 0 F s (by omega) (by omega)
  simpa using this
theorem loop_range {β σ γ : Type} (n : Nat) (mk : Int → σ → γ) (body : γ → (γ → Option β) → Option β) (g : Nat → σ → (σ → Option β) → Option β) (d : σ → Option β)
    (hl : n < 4611686018427387904)
    (hb : ∀ (k : Nat) s next, k < n → body (mk k s) next = g k s (fun s' => next (mk (w64 (k + 1)) s')))
    (he : ∀ s next, body (mk n s) next = d s) {F : Nat} (hF : n < F) (s : σ) : loop F body (mk 0 s) = iter (fun _ k s next => g k s next) d 0 (List.range n) s := by
  refine loop_list (List.range n) mk body (fun _ k s next => g k s next) d (by simpa using hl) (fun k x s next hx hk => ?_) (by simpa using he) (by simpa using hF) s
  rw [List.length_range] at hk
  have : x = k := by
    rw [List.getElem?_range (by omega)] at hx
    simpa using hx.symm
  subst this
  exact hb _ s next (by omega)
def anyI {α : Type} (c : Nat → α → Bool) : Nat → List α → Bool
  | _, [] => false
  | i, x :: l => c i x || anyI c (i + 1) l
theorem anyI_iff {α : Type} {c : Nat → α → Bool} : ∀ {l : List α} {i : Nat}, anyI c i l = true ↔ ∃ j x, l[j]? = some x ∧ c (i + j) x = true
  | [], i => by simp [anyI]
  | y :: l, i => by
    unfold anyI
    rw [Bool.or_eq_true, anyI_iff (l := l)]
    constructor
    · rintro (h | ⟨j, x, h1, h2⟩)
      · exact ⟨0, y, rfl, h⟩
      · exact ⟨j + 1, x, h1, by rw [← h2]; congr 1; omega⟩
    · rintro ⟨j, x, h1, h2⟩
      cases j with
      | zero => simp at h1; subst h1; exact .inl h2
      | succ j => exact .inr ⟨j, x, by simpa using h1, by rw [← h2]; congr 1; omega⟩
theorem anyI_any {α : Type} (c : α → Bool) (l : List α) (i : Nat) : anyI (fun _ x => c x) i l = l.any c := by
  induction l generalizing i with
  | nil => rfl
  | cons x l ih => unfold anyI; rw [ih]; rfl
theorem anyI_congr {α : Type} {c c' : Nat → α → Bool} {l : List α} {i : Nat} (h : ∀ j x, l[j]? = some x → c (i + j) x = c' (i + j) x) : anyI c i l = anyI c' i l := by
  induction l generalizing i with
  | nil => rfl
  | cons x l ih =>
    unfold anyI
    rw [ih (fun j y hy => by have := h (j + 1) y (by simpa using hy); rwa [show i + (j + 1) = i + 1 + j by omega] at this)]
    have := h 0 x rfl
    rw [Nat.add_zero] at this
    rw [this]
theorem iter_any {α β σ : Type} {g : Nat → α → σ → (σ → Option β) → Option β} {d : σ → Option β} {r : Option β} (c : Nat → α → Bool) {l : List α} {i : Nat} {s : σ}
    (hg : ∀ k x next, l[k]? = some x → g (i + k) x s next = bif c (i + k) x then r else next s) : iter g d i l s = bif anyI c i l then r else d s := by
  induction l generalizing i with
  | nil => rfl
  | cons x l ih =>
    unfold iter anyI
    have := hg 0 x (fun s' => iter g d (i + 1) l s') rfl
    rw [Nat.add_zero] at this
    rw [this]
    cases c i x
    · rw [cond_false, Bool.false_or]
      exact ih (fun k y next hy => by rw [show i + 1 + k = i + (k + 1) by omega]; exact hg (k + 1) y next (by simpa using hy))
    · rfl
def foldI {α σ : Type} (f : Nat → α → σ → σ) : Nat → List α → σ → σ
  | _, [], s => s
  | i, x :: l, s => foldI f (i + 1) l (f i x s)
theorem iter_fold {α β σ : Type} {g : Nat → α → σ → (σ → Option β) → Option β} {d : σ → Option β} (f : Nat → α → σ → σ) (I : Nat → σ → Prop) {l : List α} {i : Nat} {s : σ} (h0 : I i s)
    (hg : ∀ k x s next, l[k]? = some x → I (i + k) s → g (i + k) x s next = next (f (i + k) x s) ∧ I (i + k + 1) (f (i + k) x s)) : iter g d i l s = d (foldI f i l s) ∧ I (i + l.length) (foldI f i l s) := by
  induction l generalizing i s with
  | nil => exact ⟨rfl, h0⟩
  | cons x l ih =>
    unfold iter foldI
    have := hg 0 x s (fun s' => iter g d (i + 1) l s') rfl h0
    rw [Nat.add_zero] at this
    rw [this.1]
    have := ih this.2 (fun k y s next hy hI => by
      rw [show i + 1 + k = i + (k + 1) by omega] at hI ⊢
      exact hg (k + 1) y s next (by simpa using hy) hI)
    rwa [show i + 1 + l.length = i + (x :: l).length by simp; omega] at this
theorem foldI_foldl {α σ : Type} (f : α → σ → σ) (l : List α) (i : Nat) (s : σ) : foldI (fun _ => f) i l s = l.foldl (fun s x => f x s) s := by
  induction l generalizing i s with
  | nil => rfl
  | cons x l ih => exact ih _ _
theorem fold_one {σ τ : Type} (V : σ → τ) (f : Nat → σ → σ) (h : τ → τ) {n N : Nat} (hn : n < N) (h1 : ∀ i s, i < N → i ≠ n → V (f i s) = V s) (h2 : ∀ s, V (f n s) = h (V s)) (s : σ) :
    V ((List.range N).foldl (fun s i => f i s) s) = h (V s) := by
  have key : ∀ M, M ≤ N → V ((List.range M).foldl (fun s i => f i s) s) = if n < M then h (V s) else V s := by
    intro M
    induction M with
    | zero => intro _; simp
    | succ M ih =>
      intro hM
      rw [List.range_succ, List.foldl_append]
      simp only [List.foldl_cons, List.foldl_nil]
      by_cases e : M = n
      · subst e
        rw [h2, ih (by omega), if_neg (by omega), if_pos (by omega)]
      · rw [h1 _ _ (by omega) e, ih (by omega)]
        by_cases hm : n < M
        · rw [if_pos hm, if_pos (by omega)]
        · rw [if_neg hm, if_neg (by omega)]
  rw [key N (Nat.le_refl _), if_pos hn]
end Go.Lf
end
section
set_option linter.unusedVariables false
namespace Go.Proofs.Ytekpjgmhkkjhgaa
open Go.Lf
structure Small (w : WeighWorld) : Prop where
  cells : w.cells.length < 1000
  rows : ∀ r ∈ w.cells, r.length < 1000
  notes : w.notes.length < 1000
  freed : w.freed.length < 1000
def rowOf (w : WeighWorld) (m : Nat) : List WeighCell := w.cells[m]?.getD []
def cellOf (w : WeighWorld) (m : Nat) (n : Int) : Option WeighCell := (rowOf w m).find? (fun c => c.name == n)
theorem Small.row {w : WeighWorld} (s : Small w) (m : Nat) : (rowOf w m).length < 1000 := by
  unfold rowOf
  cases e : w.cells[m]? with
  | none => simp
  | some r => exact s.rows r (List.mem_of_getElem? e)
theorem rowOf_some {w : WeighWorld} {m : Nat} (h : m < w.cells.length) : w.cells[m]? = some (rowOf w m) := by
  unfold rowOf; simp [h]
theorem has_eq {F : Nat} (hF : 1000 ≤ F) {l : List Int} (hl : l.length < 1000) (x : Int) : f61L F l x = some (l.any fun y => y == x) := by
  unfold f61L
  refine (loop_list l (fun v (_ : Unit) => v) (f61_b0 l x) (fun _ y s next => bif y == x then some true else next ()) (fun _ => some false) (by omega) (fun k y s next hy hk => ?_) (fun s next => ?_) (by omega) ()).trans ?_
  · simp [f61_b0, geti_nat, hy, hk]
  · simp [f61_b0]
  · rw [iter_any (r := some true) (fun _ y => y == x) (fun _ _ _ _ => rfl), anyI_any]
    cases l.any fun y => y == x <;> rfl
theorem iter_find {α β σ : Type} {g : Nat → α → σ → (σ → Option β) → Option β} {d : σ → Option β} (r : Nat → Option β) (c : α → Bool) {l : List α} {i : Nat} {s : σ}
    (hg : ∀ k x next, l[k]? = some x → g (i + k) x s next = bif c x then r (i + k) else next s) :
    (∃ j x, l.find? c = some x ∧ l[j]? = some x ∧ iter g d i l s = r (i + j)) ∨ (l.find? c = none ∧ iter g d i l s = d s) := by
  induction l generalizing i with
  | nil => exact .inr ⟨rfl, rfl⟩
  | cons x l ih =>
    unfold iter
    have := hg 0 x (fun s' => iter g d (i + 1) l s') rfl
    rw [Nat.add_zero] at this
    rw [this]
    cases hc : c x
    · rw [cond_false, List.find?_cons, hc]
      rcases ih (i := i + 1) (fun k y next hy => by rw [show i + 1 + k = i + (k + 1) by omega]; exact hg (k + 1) y next (by simpa using hy)) with ⟨j, y, h1, h2, h3⟩ | ⟨h1, h2⟩
      · exact .inl ⟨j + 1, y, h1, by simpa using h2, by rw [h3]; congr 1; omega⟩
      · exact .inr ⟨h1, h2⟩
    · exact .inl ⟨0, x, by rw [List.find?_cons, hc], rfl, rfl⟩
theorem find_eq {F : Nat} (hF : 1000 ≤ F) {w : WeighWorld} (sm : Small w) {m : Nat} (hm : m < w.cells.length) (n : Int) :
    (∃ (j : Nat) (c : WeighCell), cellOf w m n = some c ∧ (rowOf w m)[j]? = some c ∧ f72L F w m n = some (j : Int)) ∨ (cellOf w m n = none ∧ f72L F w m n = some (-1)) := by
  have hr := rowOf_some hm
  have hl := sm.row m
  have e : f72L F w m n = iter (fun k (y : WeighCell) (_ : Unit) next => bif y.name == n then some (k : Int) else next ()) (fun _ => some (-1)) 0 (rowOf w m) () := by
    unfold f72L
    refine (loop_list (rowOf w m) (fun v (_ : Unit) => v) (f72_b0 w m n) _ _ (by omega) (fun k y s next hy hk => ?_) (fun s next => ?_) (by omega) ())
    · simp only [f72_b0, geti_nat, hr, hy, hk, decide_true, Option.bind_some, cond_true]
    · simp [f72_b0, geti_nat, hr]
  rw [e]
  rcases iter_find (l := rowOf w m) (i := 0) (s := ()) (d := fun _ => some (-1)) (g := fun k (y : WeighCell) (_ : Unit) next => bif y.name == n then some (k : Int) else next ()) (fun k => some (k : Int)) (fun c => c.name == n) (fun _ _ _ _ => rfl) with ⟨j, x, h1, h2, h3⟩ | ⟨h1, h2⟩
  · exact .inl ⟨j, x, h1, h2, by rw [h3, Nat.zero_add]⟩
  · exact .inr ⟨h1, h2⟩
def homesN (w : WeighWorld) (m n : Int) : Nat := w.notes.countP fun x => (x.kind == 3 && x.to_ == m) && x.name == n
theorem count_fold {α : Type} (c : α → Bool) (l : List α) (a : Nat) (h : a + l.length < 4611686018427387904) :
    l.foldl (fun (s : Int) x => bif c x then w64 (s + 1) else s) (a : Int) = ((a + l.countP c : Nat) : Int) := by
  induction l generalizing a with
  | nil => rfl
  | cons x l ih =>
    rw [List.foldl_cons, List.countP_cons]
    simp only [List.length_cons] at h
    cases hc : c x
    · simp only [cond_false]; rw [ih a (by omega)]; simp
    · simp only [cond_true, if_true]; rw [w64_succ (by omega), ih (a + 1) (by omega)]; congr 1; omega
theorem homes_eq {F : Nat} (hF : 1000 ≤ F) {w : WeighWorld} (sm : Small w) (m n : Int) : f100L F w m n = some (homesN w m n : Int) := by
  have hl := sm.notes
  unfold f100L
  refine (loop_list w.notes (fun v (s : Int) => (s, v)) (f100_b0 w m n) (fun _ x s next => next (bif ((x.kind == 3) && (x.to_ == m)) && (x.name == n) then w64 (s + 1) else s)) (fun s => some s) (by omega) (fun k y s next hy hk => ?_) (fun s next => ?_) (by omega) 0).trans ?_
  · simp only [f100_b0, geti_nat, hy, hk, decide_true, cond_true, Option.bind_some, f100_j0]
    cases ((y.kind == 3) && (y.to_ == m)) && (y.name == n) <;> rfl
  · simp [f100_b0]
  · rw [(iter_fold (fun _ x s => bif ((x.kind == 3) && (x.to_ == m)) && (x.name == n) then w64 (s + 1) else s) (fun _ _ => True) trivial (fun _ _ _ _ _ _ => ⟨rfl, trivial⟩)).1]
    rw [foldI_foldl]
    have := count_fold (fun x : WeighNote => ((x.kind == 3) && (x.to_ == m)) && (x.name == n)) w.notes 0 (by omega)
    rw [Nat.zero_add] at this
    exact congrArg some this
def outOf (w : WeighWorld) (m : Nat) (n : Int) : Int := match cellOf w m n with | some c => c.out | none => 0
def givenOf (w : WeighWorld) (m : Nat) (n : Int) : Int := w64 (16 * (homesN w m n : Int) + outOf w m n)
theorem given_eq {F : Nat} (hF : 1000 ≤ F) {w : WeighWorld} (sm : Small w) {m : Nat} (hm : m < w.cells.length) (n : Int) : f69L F w m n = some (givenOf w m n) := by
  unfold f69L
  rw [homes_eq hF sm]
  rcases find_eq hF sm hm n with ⟨j, c, h1, h2, h3⟩ | ⟨h1, h3⟩
  · rw [h3]
    have hj : decide ((j : Int) ≥ 0) = true := by simp
    simp only [Option.bind_some, hj, cond_true, geti_nat, rowOf_some hm, h2, f69_j0]
    unfold givenOf outOf
    rw [h1, w64_add]
  · rw [h3]
    simp only [Option.bind_some, f69_j0]
    unfold givenOf outOf
    rw [h1]
    simp
def heldC (w : WeighWorld) (m n : Int) (k : Nat) (s : Int) : Int := match cellOf w k n with | some c => bif c.from_ == m then w64 (s + c.has) else s | none => s
def heldN (m n : Int) (x : WeighNote) (s : Int) : Int := bif (x.name == n) && (((x.kind == 1) && (x.via == m)) || ((x.kind == 2) && (x.to_ == m))) then w64 (s + x.w) else s
def heldOf (w : WeighWorld) (m n : Int) : Int := w.notes.foldl (fun s x => heldN m n x s) ((List.range w.cells.length).foldl (fun s k => heldC w m n k s) 0)
theorem held_eq {F : Nat} (hF : 1000 ≤ F) {w : WeighWorld} (sm : Small w) (m n : Int) : f70L F w m n = some (heldOf w m n) := by
  have hl := sm.notes
  have hc := sm.cells
  have notes : ∀ s : Int, loop F (f70_b1 w m n) (s, 0) = some (w.notes.foldl (fun s x => heldN m n x s) s) := by
    intro s
    refine (loop_list w.notes (fun v (s : Int) => (s, v)) (f70_b1 w m n) (fun _ x s next => next (heldN m n x s)) (fun s => some s) (by omega) (fun k y s next hy hk => ?_) (fun s next => ?_) (by omega) s).trans ?_
    · simp only [f70_b1, geti_nat, hy, hk, decide_true, cond_true, Option.bind_some, f70_j1, heldN]
      cases (y.name == n) && (((y.kind == 1) && (y.via == m)) || ((y.kind == 2) && (y.to_ == m))) <;> rfl
    · simp [f70_b1]
    · rw [(iter_fold (fun _ x s => heldN m n x s) (fun _ _ => True) trivial (fun _ _ _ _ _ _ => ⟨rfl, trivial⟩)).1, foldI_foldl]
  unfold f70L
  refine (loop_range w.cells.length (fun v (s : Int) => (s, v)) (f70_b0 F w m n) (fun k s next => next (heldC w m n k s)) (fun s => some (w.notes.foldl (fun s x => heldN m n x s) s)) (by omega) (fun k s next hk => ?_) (fun s next => ?_) (by omega) 0).trans ?_
  · have hk' : decide ((k : Int) < (w.cells.length : Int)) = true := by simpa using hk
    rcases find_eq hF sm hk n with ⟨j, c, h1, h2, h3⟩ | ⟨h1, h3⟩
    · have hj : decide ((j : Int) ≥ 0) = true := by simp
      simp only [f70_b0, hk', cond_true, h3, Option.bind_some, hj, gd_true, geti_nat, rowOf_some hk, h2, f70_j0, heldC, h1, Bool.true_and]
      cases c.from_ == m <;> rfl
    · simp only [f70_b0, hk', cond_true, h3, Option.bind_some, heldC, h1, f70_j0]
      rfl
  · simp only [f70_b0]
    rw [decide_eq_false (by omega), cond_false]
    exact notes s
  · rw [(iter_fold (fun _ k s => heldC w m n k s) (fun _ _ => True) trivial (fun _ _ _ _ _ _ => ⟨rfl, trivial⟩)).1, foldI_foldl]
    rfl
end Go.Proofs.Ytekpjgmhkkjhgaa
end
section
set_option linter.unusedVariables false
namespace Go.Proofs.Ytekpjgmhkkjhgaa
open Go.Lf
theorem gd_of {α : Type} (g : Bool) (a d : α) : gd g (some a) d = some (bif g then a else d) := by cases g <;> rfl
theorem contains_eq {F : Nat} (hF : 1000 ≤ F) {l : List Int} (hl : l.length < 1000) (x : Int) : f75L F l x = some (l.any fun y => y == x) := by
  unfold f75L f112L
  have e := loop_list l (fun v (_ : Unit) => v) (f112_b0 l x) (fun k y s next => bif x == y then some (k : Int) else next ()) (fun _ => some (-1)) (by omega) (fun k y s next hy hk => by
    simp only [f112_b0, geti_nat, hy, hk, decide_true, Option.bind_some, cond_true]) (fun s next => by simp [f112_b0]) (by omega : l.length < F) ()
  rw [show loop F (f112_b0 l x) 0 = _ from e]
  rcases iter_find (l := l) (i := 0) (s := ()) (d := fun _ => some (-1)) (g := fun k (y : Int) (_ : Unit) next => bif x == y then some (k : Int) else next ()) (fun k => some (k : Int)) (fun c => x == c) (fun _ _ _ _ => rfl) with ⟨j, y, h1, h2, h3⟩ | ⟨h1, h2⟩
  · rw [h3]
    have : (l.any fun y => y == x) = true := by
      rw [List.any_eq_true]
      have := List.find?_some h1
      exact ⟨y, List.mem_of_find?_eq_some h1, by simpa using (by simpa using this : x = y).symm⟩
    rw [this]; simp
  · rw [h2]
    have : (l.any fun y => y == x) = false := by
      rw [List.any_eq_false]
      rw [List.find?_eq_none] at h1
      intro y hy
      have := h1 y hy
      simp at this ⊢
      exact fun e => this e.symm
    rw [this]; rfl
def nameB (w : WeighWorld) (n : Int) : Bool := (decide (0 ≤ n) && decide (n < w.names)) && !(w.freed.any fun y => y == n)
def machB (w : WeighWorld) (m : Int) : Bool := decide (0 ≤ m) && decide (m < (w.cells.length : Int))
def cellB (w : WeighWorld) (m : Int) (c : WeighCell) : Bool :=
  (nameB w c.name && (decide (-16 ≤ c.out) && decide (c.out ≤ 1000000)) && (c.use || !(c.out == 0))) &&
  (bif c.root || c.from_ == -1 then c.from_ == -1 && c.has == 0 else machB w c.from_ && !(c.from_ == m) && (decide (1 ≤ c.has) && decide (c.has ≤ 1000000)))
def noteB (w : WeighWorld) (x : WeighNote) : Bool :=
  (machB w x.to_ && nameB w x.name && (decide (1 ≤ x.w) && decide (x.w ≤ 1000000))) &&
  (bif x.kind == 1 then machB w x.via else bif x.kind == 2 then x.via == 0 else x.kind == 3 && x.via == 0 && x.w == 16)
theorem in_lt (a n : Int) (h0 : 0 ≤ n) (h1 : n ≤ 1000) : f53L a 0 (w64 (n - 1)) = some (decide (0 ≤ a) && decide (a < n)) := by
  unfold f53L
  rw [w64_id (by omega) (by omega)]
  congr 2
  exact decide_eq_decide.2 (by omega)
theorem in_eq (a b c : Int) : f53L a b c = some (decide (b ≤ a) && decide (a ≤ c)) := rfl
section
theorem cell_ref {F : Nat} (hF : 1000 ≤ F) {w : WeighWorld} (sm : Small w) (h0 : 0 ≤ w.names) (h1 : w.names ≤ 1000) (m : Int) (c : WeighCell) : f98L F w m c = some (cellB w m c) := by
  unfold f98L
  have := sm.cells
  rw [in_lt _ _ h0 h1, in_lt _ _ (by omega) (by omega), in_eq, in_eq, has_eq hF sm.freed]
  simp only [gd_of, Option.bind_some]
  unfold cellB nameB machB
  generalize (w.freed.any fun y => y == c.name) = fr
  generalize (decide (0 ≤ c.name) && decide (c.name < w.names)) = nm
  generalize (decide (-16 ≤ c.out) && decide (c.out ≤ 1000000)) = ou
  generalize (decide (0 ≤ c.from_) && decide (c.from_ < (w.cells.length : Int))) = fm
  generalize (decide (1 ≤ c.has) && decide (c.has ≤ 1000000)) = ha
  generalize (c.out == 0) = o0
  have : (c.from_ != m) = !(c.from_ == m) := rfl
  rw [this]
  generalize (c.from_ == m) = f1
  generalize (c.from_ == -1) = f2
  generalize (c.has == 0) = hz
  generalize c.use = us
  generalize c.root = ro
  cases nm <;> cases ou <;> cases us <;> cases o0 <;> cases fr <;> cases ro <;> cases f2 <;> cases fm <;> cases f1 <;> cases ha <;> rfl
theorem name_prog {F : Nat} (hF : 1000 ≤ F) {w : WeighWorld} (sm : Small w) (st : Store) (e1 : st.names = w.names) (e2 : st.freed = w.freed) (n : Int) : f89L F st n = some (nameB w n) := by
  unfold f89L nameB
  rw [e1, e2, contains_eq hF sm.freed]
  simp only [gd_of, Option.bind_some]
  simp only [ge_iff_le]
  cases decide (0 ≤ n) <;> cases decide (n < w.names) <;> cases (w.freed.any fun y => y == n) <;> rfl
theorem mach_prog {w : WeighWorld} (sm : Small w) (st : Store) (e1 : st.machines = (w.cells.length : Int)) (n : Int) : f124L st n = some (machB w n) := by
  unfold f124L machB; rw [e1]
theorem cell_prog {F : Nat} (hF : 1000 ≤ F) {w : WeighWorld} (sm : Small w) (st : Store) (e0 : st.machines = (w.cells.length : Int)) (e1 : st.names = w.names) (e2 : st.freed = w.freed) (m : Int) (c : WeighCell) : f113L F st m c = some (cellB w m c) := by
  unfold f113L
  rw [name_prog hF sm st e1 e2, mach_prog sm st e0]
  simp only [Option.bind_some]
  unfold cellB
  have a1 : decide (c.out < -16) = !decide (-16 ≤ c.out) := by rw [← decide_not]; exact decide_eq_decide.2 (by omega)
  have a2 : decide (c.out > 1000000) = !decide (c.out ≤ 1000000) := by rw [← decide_not]; exact decide_eq_decide.2 (by omega)
  have a3 : (c.from_ != m) = !(c.from_ == m) := rfl
  rw [a1, a2, a3]
  simp only [ge_iff_le]
  generalize nameB w c.name = nm
  generalize decide (-16 ≤ c.out) = oa
  generalize decide (c.out ≤ 1000000) = ob
  generalize machB w c.from_ = fm
  generalize decide (1 ≤ c.has) = ha
  generalize decide (c.has ≤ 1000000) = hb
  generalize (c.out == 0) = o0
  generalize (c.from_ == m) = f1
  generalize (c.from_ == -1) = f2
  generalize (c.has == 0) = hz
  generalize c.use = us
  generalize c.root = ro
  cases nm <;> cases oa <;> cases ob <;> cases us <;> cases o0 <;> cases ro <;> cases f2 <;> cases fm <;> cases f1 <;> cases ha <;> cases hb <;> rfl
theorem note_ref {F : Nat} (hF : 1000 ≤ F) {w : WeighWorld} (sm : Small w) (h0 : 0 ≤ w.names) (h1 : w.names ≤ 1000) (x : WeighNote) : f99L F w x = some (noteB w x) := by
  unfold f99L
  have := sm.cells
  rw [in_lt _ _ h0 h1, in_lt _ _ (by omega) (by omega), in_lt _ _ (by omega) (by omega), in_eq, has_eq hF sm.freed]
  simp only [gd_of, Option.bind_some]
  unfold noteB nameB machB
  generalize (w.freed.any fun y => y == x.name) = fr
  generalize (decide (0 ≤ x.name) && decide (x.name < w.names)) = nm
  generalize (decide (0 ≤ x.to_) && decide (x.to_ < (w.cells.length : Int))) = tm
  generalize (decide (0 ≤ x.via) && decide (x.via < (w.cells.length : Int))) = vm
  generalize (decide (1 ≤ x.w) && decide (x.w ≤ 1000000)) = ha
  generalize (x.kind == 1) = k1
  generalize (x.kind == 2) = k2
  generalize (x.kind == 3) = k3
  generalize (x.via == 0) = v0
  generalize (x.w == 16) = w16
  cases nm <;> cases fr <;> cases tm <;> cases vm <;> cases ha <;> cases k1 <;> cases k2 <;> cases k3 <;> cases v0 <;> cases w16 <;> rfl
theorem note_prog {F : Nat} (hF : 1000 ≤ F) {w : WeighWorld} (sm : Small w) (st : Store) (e0 : st.machines = (w.cells.length : Int)) (e1 : st.names = w.names) (e2 : st.freed = w.freed) (x : WeighNote) : f114L F st x = some (noteB w x) := by
  unfold f114L
  rw [name_prog hF sm st e1 e2, mach_prog sm st e0, mach_prog sm st e0]
  simp only [gd_of, Option.bind_some]
  unfold noteB
  have a1 : decide (x.w < 1) = !decide (1 ≤ x.w) := by rw [← decide_not]; exact decide_eq_decide.2 (by omega)
  have a2 : decide (x.w > 1000000) = !decide (x.w ≤ 1000000) := by rw [← decide_not]; exact decide_eq_decide.2 (by omega)
  rw [a1, a2]
  generalize nameB w x.name = nm
  generalize machB w x.to_ = tm
  generalize machB w x.via = vm
  generalize decide (1 ≤ x.w) = ha
  generalize decide (x.w ≤ 1000000) = hb
  generalize (x.kind == 1) = k1
  generalize (x.kind == 2) = k2
  generalize (x.kind == 3) = k3
  generalize (x.via == 0) = v0
  generalize (x.w == 16) = w16
  cases nm <;> cases tm <;> cases vm <;> cases ha <;> cases hb <;> cases k1 <;> cases k2 <;> cases k3 <;> cases v0 <;> cases w16 <;> rfl
end
end Go.Proofs.Ytekpjgmhkkjhgaa
end
section
set_option linter.unusedVariables false
namespace Go.Proofs.Ytekpjgmhkkjhgaa
open Go.Lf
def prevOf {α : Type} [Inhabited α] (l : List α) (k : Nat) : α := l[k-1]?.getD default
theorem gd_prev {α : Type} [Inhabited α] (g : Bool) {l : List α} {k : Nat} (hk : k < l.length) (hl : l.length < 4611686018427387904) :
    gd (g && decide ((k : Int) > 0)) (geti l (w64 ((k : Int) - 1))) default = some (bif g && decide ((k : Int) > 0) then prevOf l k else default) := by
  cases g
  · rfl
  · by_cases h : 0 < k
    · have : decide ((k : Int) > 0) = true := by simp; omega
      rw [this, Bool.true_and, gd_true, w64_pred (by omega) h, geti_nat, cond_true]
      unfold prevOf
      have : k - 1 < l.length := by omega
      simp [this]
    · have : decide ((k : Int) > 0) = false := by simp; omega
      rw [this]; rfl
def freedBad (w : WeighWorld) (k : Nat) (x : Int) : Bool := !(decide (0 ≤ x) && decide (x < w.names)) || (decide ((k : Int) > 0) && decide (x ≤ prevOf w.freed k))
def rowBad (w : WeighWorld) (m : Nat) (row : List WeighCell) (k : Nat) (c : WeighCell) : Bool := !(cellB w m c) || (decide ((k : Int) > 0) && decide (c.name ≤ (prevOf row k).name))
def sizesB (w : WeighWorld) : Bool := (decide (1 ≤ (w.cells.length : Int)) && decide ((w.cells.length : Int) ≤ 6)) && (decide (0 ≤ w.names) && decide (w.names ≤ 12)) && (decide ((w.notes.length : Int) ≤ 80) && decide ((w.freed.length : Int) ≤ w.names))
def rowsB (w : WeighWorld) : Bool := !(anyI (fun m row => anyI (rowBad w m row) 0 row) 0 w.cells)
def rowsB' (w : WeighWorld) : Bool := !(anyI (fun m row => decide ((row.length : Int) > w.names) || anyI (rowBad w m row) 0 row) 0 w.cells)
def notesB (w : WeighWorld) : Bool := !(w.notes.any fun x => !(noteB w x))
section
theorem shaped_eq {F : Nat} (hF : 1000 ≤ F) {w : WeighWorld} (sm : Small w) : f60L F w = some (sizesB w && (!(anyI (freedBad w) 0 w.freed) && (rowsB' w && notesB w))) := by
  unfold f60L
  have hc := sm.cells
  have hn := sm.notes
  have hf := sm.freed
  rw [in_eq, in_eq]
  simp only [gd_of, Option.bind_some]
  cases hs : sizesB w
  · have : ((((!(decide (1 ≤ (w.cells.length : Int)) && decide ((w.cells.length : Int) ≤ 6))) || !(bif !(!(decide (1 ≤ (w.cells.length : Int)) && decide ((w.cells.length : Int) ≤ 6))) then (decide (0 ≤ w.names) && decide (w.names ≤ 12)) else default)) || decide ((w.notes.length : Int) > 80)) || decide ((w.freed.length : Int) > w.names)) = true := by
      unfold sizesB at hs
      have a1 : decide ((w.notes.length : Int) > 80) = !decide ((w.notes.length : Int) ≤ 80) := by rw [← decide_not]; exact decide_eq_decide.2 (by omega)
      have a2 : decide ((w.freed.length : Int) > w.names) = !decide ((w.freed.length : Int) ≤ w.names) := by rw [← decide_not]; exact decide_eq_decide.2 (by omega)
      rw [a1, a2]
      revert hs
      generalize decide (1 ≤ (w.cells.length : Int)) = b1
      generalize decide ((w.cells.length : Int) ≤ 6) = b2
      generalize decide (0 ≤ w.names) = b3
      generalize decide (w.names ≤ 12) = b4
      generalize decide ((w.notes.length : Int) ≤ 80) = b5
      generalize decide ((w.freed.length : Int) ≤ w.names) = b6
      revert b1 b2 b3 b4 b5 b6
      decide
    rw [this]; rfl
  · have hs' := hs
    unfold sizesB at hs
    simp only [Bool.and_eq_true, decide_eq_true_eq] at hs
    obtain ⟨⟨⟨b1, b2⟩, b3, b4⟩, b5, b6⟩ := hs
    have : ((((!(decide (1 ≤ (w.cells.length : Int)) && decide ((w.cells.length : Int) ≤ 6))) || !(bif !(!(decide (1 ≤ (w.cells.length : Int)) && decide ((w.cells.length : Int) ≤ 6))) then (decide (0 ≤ w.names) && decide (w.names ≤ 12)) else default)) || decide ((w.notes.length : Int) > 80)) || decide ((w.freed.length : Int) > w.names)) = false := by
      rw [decide_eq_true b1, decide_eq_true b2, decide_eq_true b3, decide_eq_true b4, decide_eq_false (by omega : ¬ (w.notes.length : Int) > 80), decide_eq_false (by omega : ¬ (w.freed.length : Int) > w.names)]
      rfl
    rw [this, cond_false, Bool.true_and]
    have e3 : loop F (f60_b3 F w) 0 = some (notesB w) := by
      refine (loop_list w.notes (fun v (_ : Unit) => v) (f60_b3 F w) (fun _ x s next => bif !(noteB w x) then some false else next ()) (fun _ => some true) (by omega) (fun k y s next hy hk => ?_) (fun s next => ?_) (by omega) ()).trans ?_
      · simp only [f60_b3, geti_nat, hy, hk, decide_true, cond_true, Option.bind_some, note_ref hF sm b3 (by omega)]
      · simp [f60_b3]
      · rw [iter_any (r := some false) (fun _ x => !(noteB w x)) (fun _ _ _ _ => rfl), anyI_any]
        unfold notesB
        cases w.notes.any fun x => !(noteB w x) <;> rfl
    have e2 : ∀ (m : Nat) (row : List WeighCell) (next : Int → Option Bool), row.length < 1000 → loop F (f60_b2 F w m next row) 0 = bif anyI (rowBad w m row) 0 row then some false else next (w64 ((m : Int) + 1)) := by
      intro m row next hr
      refine (loop_list row (fun v (_ : Unit) => v) (f60_b2 F w m next row) (fun k c s nx => bif rowBad w m row k c then some false else nx ()) (fun _ => next (w64 ((m : Int) + 1))) (by omega) (fun k y s nx hy hk => ?_) (fun s nx => ?_) (by omega) ()).trans ?_
      · have hk' : k < row.length := by omega
        simp only [f60_b2, geti_nat, hy, hk, decide_true, cond_true, Option.bind_some, cell_ref hF sm b3 (by omega), gd_prev _ hk' (by omega), gd_of]
        unfold rowBad
        cases cellB w m y <;> cases decide ((k : Int) > 0) <;> rfl
      · simp [f60_b2]
      · rw [iter_any (r := some false) (rowBad w m row) (fun k _ _ _ => by rw [Nat.zero_add])]
    have e1 : loop F (f60_b1 F w) 0 = some (rowsB' w && notesB w) := by
      refine (loop_list w.cells (fun v (_ : Unit) => v) (f60_b1 F w) (fun m row s next => bif decide ((row.length : Int) > w.names) || anyI (rowBad w m row) 0 row then some false else next ()) (fun _ => some (notesB w)) (by omega) (fun k y s next hy hk => ?_) (fun s next => ?_) (by omega) ()).trans ?_
      · have hr := sm.rows y (List.mem_of_getElem? hy)
        simp only [f60_b1, geti_nat, hy, hk, decide_true, cond_true, Option.bind_some]
        rw [e2 k y next hr]
        cases decide ((y.length : Int) > w.names) <;> rfl
      · simp only [f60_b1]
        rw [decide_eq_false (by omega), cond_false, e3]
      · rw [iter_any (r := some false) (fun m row => decide ((row.length : Int) > w.names) || anyI (rowBad w m row) 0 row) (fun k _ _ _ => by rw [Nat.zero_add])]
        unfold rowsB'
        cases anyI (fun m (row : List WeighCell) => decide ((row.length : Int) > w.names) || anyI (rowBad w m row) 0 row) 0 w.cells <;> rfl
    refine (loop_list w.freed (fun v (_ : Unit) => v) (f60_b0 F w) (fun k x s next => bif freedBad w k x then some false else next ()) (fun _ => some (rowsB' w && notesB w)) (by omega) (fun k y s next hy hk => ?_) (fun s next => ?_) (by omega) ()).trans ?_
    · have hk' : k < w.freed.length := by omega
      simp only [f60_b0, geti_nat, hy, hk, decide_true, cond_true, Option.bind_some, in_lt _ _ b3 (by omega : w.names ≤ 1000), gd_prev _ hk' (by omega), gd_of]
      unfold freedBad
      cases (decide (0 ≤ y) && decide (y < w.names)) <;> cases decide ((k : Int) > 0) <;> rfl
    · simp only [f60_b0]
      rw [decide_eq_false (by omega), cond_false, e1]
    · rw [iter_any (r := some false) (freedBad w) (fun k _ _ _ => by rw [Nat.zero_add])]
      cases anyI (freedBad w) 0 w.freed <;> rfl
theorem formed_eq {F : Nat} (hF : 1000 ≤ F) {w : WeighWorld} (sm : Small w) (st : Store) (e0 : st.machines = (w.cells.length : Int)) (e1 : st.names = w.names) (e2 : st.freed = w.freed) : f88L F st w = some (rowsB w && notesB w) := by
  have hc := sm.cells
  have hn := sm.notes
  have l2 : loop F (f88_b2 F st w) 0 = some (notesB w) := by
    refine (loop_list w.notes (fun v (_ : Unit) => v) (f88_b2 F st w) (fun _ x s next => bif !(noteB w x) then some false else next ()) (fun _ => some true) (by omega) (fun k y s next hy hk => ?_) (fun s next => ?_) (by omega) ()).trans ?_
    · simp only [f88_b2, geti_nat, hy, hk, decide_true, cond_true, Option.bind_some, note_prog hF sm st e0 e1 e2]
    · simp [f88_b2]
    · rw [iter_any (r := some false) (fun _ x => !(noteB w x)) (fun _ _ _ _ => rfl), anyI_any]
      unfold notesB
      cases w.notes.any fun x => !(noteB w x) <;> rfl
  have l1 : ∀ (m : Nat) (row : List WeighCell) (next : Int → Option Bool), row.length < 1000 → loop F (f88_b1 F st m next row) 0 = bif anyI (rowBad w m row) 0 row then some false else next (w64 ((m : Int) + 1)) := by
    intro m row next hr
    refine (loop_list row (fun v (_ : Unit) => v) (f88_b1 F st m next row) (fun k c s nx => bif rowBad w m row k c then some false else nx ()) (fun _ => next (w64 ((m : Int) + 1))) (by omega) (fun k y s nx hy hk => ?_) (fun s nx => ?_) (by omega) ()).trans ?_
    · have hk' : k < row.length := by omega
      simp only [f88_b1, geti_nat, hy, hk, decide_true, cond_true, Option.bind_some, cell_prog hF sm st e0 e1 e2, gd_prev _ hk' (by omega), gd_of]
      unfold rowBad
      cases cellB w m y <;> cases decide ((k : Int) > 0) <;> rfl
    · simp [f88_b1]
    · rw [iter_any (r := some false) (rowBad w m row) (fun k _ _ _ => by rw [Nat.zero_add])]
  unfold f88L
  refine (loop_list w.cells (fun v (_ : Unit) => v) (f88_b0 F st w) (fun m row s next => bif anyI (rowBad w m row) 0 row then some false else next ()) (fun _ => some (notesB w)) (by omega) (fun k y s next hy hk => ?_) (fun s next => ?_) (by omega) ()).trans ?_
  · have hr := sm.rows y (List.mem_of_getElem? hy)
    simp only [f88_b0, geti_nat, hy, hk, decide_true, cond_true, Option.bind_some]
    exact l1 k y next hr
  · simp only [f88_b0]
    rw [decide_eq_false (by omega), cond_false, l2]
  · rw [iter_any (r := some false) (fun m row => anyI (rowBad w m row) 0 row) (fun k _ _ _ => by rw [Nat.zero_add])]
    unfold rowsB
    cases anyI (fun m (row : List WeighCell) => anyI (rowBad w m row) 0 row) 0 w.cells <;> rfl
end
end Go.Proofs.Ytekpjgmhkkjhgaa
end
section
set_option linter.unusedVariables false
namespace Go.Proofs.Ytekpjgmhkkjhgaa
open Go.Lf
structure Shp (w : WeighWorld) : Prop where
  c1 : 1 ≤ w.cells.length
  c6 : w.cells.length ≤ 6
  n0 : 0 ≤ w.names
  n12 : w.names ≤ 12
  notes : w.notes.length ≤ 80
  cell : ∀ (m : Nat) (row : List WeighCell) (k : Nat) (c : WeighCell), w.cells[m]? = some row → row[k]? = some c → cellB w m c = true ∧ (0 < k → (prevOf row k).name < c.name)
  note : ∀ x ∈ w.notes, noteB w x = true
theorem cellB_name {w : WeighWorld} {m : Int} {c : WeighCell} (h : cellB w m c = true) : 0 ≤ c.name ∧ c.name < w.names := by
  unfold cellB nameB at h
  simp only [Bool.and_eq_true, decide_eq_true_eq] at h
  exact ⟨h.1.1.1.1.1, h.1.1.1.1.2⟩
theorem rows_ok {w : WeighWorld} (h : rowsB w = true) (m : Nat) (row : List WeighCell) (k : Nat) (c : WeighCell) (hm : w.cells[m]? = some row) (hk : row[k]? = some c) : cellB w m c = true ∧ (0 < k → (prevOf row k).name < c.name) := by
  unfold rowsB at h
  rw [Bool.not_eq_true', ← Bool.not_eq_true] at h
  have h1 : ¬ rowBad w m row k c = true := fun hb => h (anyI_iff.2 ⟨m, row, hm, by rw [Nat.zero_add]; exact anyI_iff.2 ⟨k, c, hk, by rw [Nat.zero_add]; exact hb⟩⟩)
  unfold rowBad at h1
  rw [Bool.or_eq_true, Bool.and_eq_true, decide_eq_true_eq, decide_eq_true_eq, Bool.not_eq_true'] at h1
  refine ⟨?_, fun h0 => ?_⟩
  · cases hc : cellB w m c
    · exact absurd (.inl hc) h1
    · rfl
  · by_cases hl : (prevOf row k).name < c.name
    · exact hl
    · exact absurd (.inr ⟨by omega, by omega⟩) h1
theorem asc {row : List WeighCell} (h : ∀ k c, row[k]? = some c → 0 < k → (prevOf row k).name < c.name) : ∀ (k j : Nat) (c d : WeighCell), j < k → row[k]? = some c → row[j]? = some d → d.name < c.name := by
  intro k
  induction k with
  | zero => intro j c d h0; omega
  | succ k ih =>
    intro j c d hj hc hd
    have hlt : k + 1 < row.length := (List.getElem?_eq_some_iff.1 hc).1
    have hp := h (k + 1) c hc (by omega)
    have e : row[k]? = some (prevOf row (k + 1)) := by
      unfold prevOf
      have : k < row.length := by omega
      simp [this]
    by_cases hjk : j = k
    · subst hjk
      rw [e] at hd; cases hd; exact hp
    · have := ih j _ d (by omega) e hd
      omega
theorem asc_len {row : List WeighCell} {n : Int} (h : ∀ k c, row[k]? = some c → (0 ≤ c.name ∧ c.name < n) ∧ (0 < k → (prevOf row k).name < c.name)) (h0 : 0 ≤ n) : (row.length : Int) ≤ n := by
  have key : ∀ (k : Nat) (c : WeighCell), row[k]? = some c → (k : Int) ≤ c.name := by
    intro k
    induction k with
    | zero => intro c hc; exact (h 0 c hc).1.1
    | succ k ih =>
      intro c hc
      have hlt : k + 1 < row.length := (List.getElem?_eq_some_iff.1 hc).1
      have e : row[k]? = some (prevOf row (k + 1)) := by
        unfold prevOf
        have : k < row.length := by omega
        simp [this]
      have := ih _ e
      have := (h (k + 1) c hc).2 (by omega)
      omega
  by_cases hz : row.length = 0
  · omega
  · have hlt : row.length - 1 < row.length := by omega
    have e : row[row.length - 1]? = some row[row.length - 1] := by simp [hlt]
    have := key _ _ e
    have := (h _ _ e).1.2
    omega
theorem rows_eq {w : WeighWorld} (h0 : 0 ≤ w.names) : rowsB' w = rowsB w := by
  cases h : rowsB w
  · unfold rowsB at h
    unfold rowsB'
    rw [Bool.not_eq_false'] at h ⊢
    rw [anyI_iff] at h ⊢
    obtain ⟨j, x, h1, h2⟩ := h
    exact ⟨j, x, h1, by rw [h2, Bool.or_true]⟩
  · have h' := h
    unfold rowsB at h
    unfold rowsB'
    rw [Bool.not_eq_true'] at h ⊢
    rw [← h]
    refine anyI_congr fun j row hj => ?_
    have : decide ((row.length : Int) > w.names) = false := by
      have := asc_len (row := row) (n := w.names) (fun k c hk => ⟨cellB_name (rows_ok h' j row k c hj hk).1, (rows_ok h' j row k c hj hk).2⟩) h0
      exact decide_eq_false (by omega)
    rw [this, Bool.false_or]
theorem shp_of {w : WeighWorld} (h1 : sizesB w = true) (h2 : rowsB w = true) (h3 : notesB w = true) : Shp w := by
  unfold sizesB at h1
  simp only [Bool.and_eq_true, decide_eq_true_eq] at h1
  obtain ⟨⟨⟨b1, b2⟩, b3, b4⟩, b5, b6⟩ := h1
  refine ⟨by omega, by omega, b3, b4, by omega, rows_ok h2, fun x hx => ?_⟩
  unfold notesB at h3
  rw [Bool.not_eq_true', List.any_eq_false] at h3
  have := h3 x hx
  simpa using this
theorem take_find {row : List WeighCell} (h : ∀ k c, row[k]? = some c → 0 < k → (prevOf row k).name < c.name) {k : Nat} {c : WeighCell} (hc : row[k]? = some c) (n : Int) :
    (row.take (k + 1)).find? (fun x => x.name == n) = if n = c.name then some c else (row.take k).find? (fun x => x.name == n) := by
  have hlt : k < row.length := (List.getElem?_eq_some_iff.1 hc).1
  have e : row.take (k + 1) = row.take k ++ [c] := by
    rw [List.take_add_one, hc]; rfl
  rw [e, List.find?_append]
  by_cases hn : n = c.name
  · subst hn
    rw [if_pos rfl]
    have : (row.take k).find? (fun x => x.name == c.name) = none := by
      rw [List.find?_eq_none]
      intro x hx
      obtain ⟨j, hj⟩ := List.mem_iff_getElem?.1 hx
      have hjk : j < k := by have := (List.getElem?_eq_some_iff.1 hj).1; rw [List.length_take] at this; omega
      rw [List.getElem?_take_of_lt hjk] at hj
      have := asc h k j c x hjk hc hj
      simp; omega
    rw [this]; simp
  · rw [if_neg hn]
    have : [c].find? (fun x => x.name == n) = none := by simp; exact fun e => hn e.symm
    rw [this]
    cases (row.take k).find? (fun x => x.name == n) <;> rfl
def MapOf (w : WeighWorld) (l : List (Arr2Int × WeighCell)) : Prop := ∀ a b : Int, mget l ⟨a, b⟩ = if 0 ≤ a ∧ a < (w.cells.length : Int) then cellOf w a.toNat b else none
theorem open_eq {F : Nat} (hF : 1000 ≤ F) {w : WeighWorld} (sm : Small w) (sh : Shp w) : ∃ cs, f56L F w = some ⟨(w.cells.length : Int), w.names, cs, w.notes, w.freed⟩ ∧ MapOf w cs := by
  have hc := sm.cells
  have hn := sm.notes
  have hf := sm.freed
  unfold f56L f86L f87L
  rw [app_ok (by simp only [List.length_nil]; omega) (by decide), app_ok (by simp only [List.length_nil]; omega) (by decide)]
  simp only [Option.bind_some, List.nil_append]
  let I : Nat → List (Arr2Int × WeighCell) → Prop := fun m l => ∀ a b : Int, mget l ⟨a, b⟩ = if 0 ≤ a ∧ a < (m : Int) then cellOf w a.toNat b else none
  have inner : ∀ (m : Nat) (row : List WeighCell) (next : Int × (List (Arr2Int × WeighCell)) → Option Store) (l : List (Arr2Int × WeighCell)), w.cells[m]? = some row → I m l → ∃ l', I (m + 1) l' ∧ loop F (f56_b1 m next row) (0, l) = next (w64 ((m : Int) + 1), l') := by
    intro m row next l hm hI
    have hr := sm.rows row (List.mem_of_getElem? hm)
    have hro : rowOf w m = row := by unfold rowOf; rw [hm]; rfl
    have hasc : ∀ k c, row[k]? = some c → 0 < k → (prevOf row k).name < c.name := fun k c hk => (sh.cell m row k c hm hk).2
    let J : Nat → List (Arr2Int × WeighCell) → Prop := fun k l' => ∀ a b : Int, mget l' ⟨a, b⟩ = if a = (m : Int) then (row.take k).find? (fun x => x.name == b) else mget l ⟨a, b⟩
    have e := loop_list row (fun v s => (v, s)) (f56_b1 m next row) (fun _ c s nx => nx (mset s (Arr2Int.mk m c.name) c)) (fun s => next (w64 ((m : Int) + 1), s)) (by omega) (fun k y s nx hy hk => by
      simp only [f56_b1, geti_nat, hy, hk, decide_true, cond_true, Option.bind_some]) (fun s nx => by simp only [f56_b1]; rw [decide_eq_false (by omega), cond_false]) (by omega : row.length < F) l
    obtain ⟨e2, hJ⟩ := iter_fold (d := fun s => next (w64 ((m : Int) + 1), s)) (g := fun (_ : Nat) (c : WeighCell) s nx => nx (mset s (Arr2Int.mk m c.name) c)) (fun _ c s => mset s (Arr2Int.mk m c.name) c) J (l := row) (i := 0) (s := l) (fun a b => by
      by_cases ha : a = (m : Int)
      · rw [if_pos ha, hI a b, if_neg (by omega)]; simp
      · rw [if_neg ha]) (fun k c s nx hk hJ => ⟨rfl, fun a b => by
        rw [Nat.zero_add] at hJ ⊢
        rw [mget_mset]
        by_cases ha : a = (m : Int)
        · subst ha
          rw [if_pos rfl, take_find hasc hk]
          by_cases hb : b = c.name
          · rw [if_pos hb, hb, if_pos rfl]
          · rw [if_neg hb, if_neg (fun q => hb (by injection q)), hJ, if_pos rfl]
        · rw [if_neg ha, if_neg (fun q => ha (by injection q)), hJ, if_neg ha]⟩)
    refine ⟨_, fun a b => ?_, e.trans e2⟩
    rw [Nat.zero_add] at hJ
    rw [hJ a b]
    by_cases ha : a = (m : Int)
    · subst ha
      rw [if_pos rfl, if_pos (by omega), List.take_length]
      unfold cellOf
      rw [Int.toNat_natCast, hro]
    · rw [if_neg ha, hI a b]
      by_cases hz : 0 ≤ a ∧ a < (m : Int)
      · rw [if_pos hz, if_pos (by omega)]
      · rw [if_neg hz, if_neg (by omega)]
  have key : ∀ (d m : Nat) (F' : Nat) (l : List (Arr2Int × WeighCell)), m + d = w.cells.length → d < F' → I m l → ∃ cs, loop F' (f56_b0 F w w.notes w.freed) ((m : Int), l) = some ⟨(w.cells.length : Int), w.names, cs, w.notes, w.freed⟩ ∧ MapOf w cs := by
    intro d
    induction d with
    | zero =>
      intro m F' l hm hF' hI
      obtain ⟨F', rfl⟩ := Nat.exists_eq_succ_of_ne_zero (n := F') (by omega)
      have : m = w.cells.length := by omega
      subst this
      refine ⟨l, ?_, hI⟩
      rw [loop_succ]
      simp only [f56_b0]
      rw [decide_eq_false (by omega), cond_false]
    | succ d ih =>
      intro m F' l hm hF' hI
      obtain ⟨F', rfl⟩ := Nat.exists_eq_succ_of_ne_zero (n := F') (by omega)
      have hlt : m < w.cells.length := by omega
      obtain ⟨l', h1, h2⟩ := inner m w.cells[m] (loop F' (f56_b0 F w w.notes w.freed)) l (by simp [hlt]) hI
      obtain ⟨cs, h3, h4⟩ := ih (m + 1) F' l' (by omega) (by omega) h1
      refine ⟨cs, ?_, h4⟩
      rw [loop_succ]
      have hg : w.cells[m]? = some w.cells[m] := by simp [hlt]
      simp only [f56_b0, geti_nat, hg, Option.bind_some]
      rw [decide_eq_true (by omega), cond_true, h2, w64_succ (by omega), h3]
  exact key w.cells.length 0 F [] (by omega) (by omega) (fun a b => by rw [if_neg (by omega)]; rfl)
end Go.Proofs.Ytekpjgmhkkjhgaa
end
section
set_option linter.unusedVariables false
namespace Go.Proofs.Ytekpjgmhkkjhgaa
open Go.Lf
def stepC {σ : Type} (w : WeighWorld) (y : Int → WeighCell → σ → σ) (m : Nat) (n : Nat) (s : σ) : σ := match cellOf w m n with | some c => y m c s | none => s
theorem cellOf_name {w : WeighWorld} {m : Nat} {n : Int} {c : WeighCell} (h : cellOf w m n = some c) : c.name = n := by
  unfold cellOf at h
  have := List.find?_some h
  simpa using this
theorem cellOf_mem {w : WeighWorld} {m : Nat} {n : Int} {c : WeighCell} (h : cellOf w m n = some c) : ∃ (row : List WeighCell) (k : Nat), w.cells[m]? = some row ∧ row[k]? = some c := by
  unfold cellOf rowOf at h
  have := List.mem_of_find?_eq_some h
  cases e : w.cells[m]? with
  | none => rw [e] at this; simp at this
  | some row =>
    rw [e] at this
    obtain ⟨k, hk⟩ := List.mem_iff_getElem?.1 this
    exact ⟨row, k, rfl, hk⟩
structure StOf (w : WeighWorld) (st : Store) : Prop where
  m : st.machines = (w.cells.length : Int)
  n : st.names = w.names
  notes : st.notes = w.notes
  freed : st.freed = w.freed
  cells : MapOf w st.cells
section
theorem all_eq {F : Nat} (hF : 1000 ≤ F) {w : WeighWorld} (sm : Small w) (sh : Shp w) {st : Store} (so : StOf w st) {σ : Type} (I : Nat → σ → Prop) (hI : ∀ i s, I i s → I (i + 1) s) (y : Int → WeighCell → σ → Option σ) (y' : Int → WeighCell → σ → σ)
    (hy : ∀ i a c s, i < 100 → I i s → y a c s = some (y' a c s) ∧ I (i + 1) (y' a c s)) (s0 : σ) (h0 : I 0 s0) :
    f110L F st y s0 = some ((List.range w.cells.length).foldl (fun s m => (List.range w.names.toNat).foldl (fun s n => stepC w y' m n s) s) s0) ∧
    I (w.cells.length * w.names.toNat) ((List.range w.cells.length).foldl (fun s m => (List.range w.names.toNat).foldl (fun s n => stepC w y' m n s) s) s0) := by
  have hc := sh.c6
  have hn := sh.n0
  have hn2 := sh.n12
  have en : ((w.names.toNat : Nat) : Int) = w.names := by omega
  have inner : ∀ (m : Nat) (next : Int × σ → Option σ) (s : σ), m < w.cells.length → I (m * w.names.toNat) s →
      loop F (f110_b1 st y m next) (0, s) = next (w64 ((m : Int) + 1), (List.range w.names.toNat).foldl (fun s n => stepC w y' m n s) s) ∧ I ((m + 1) * w.names.toNat) ((List.range w.names.toNat).foldl (fun s n => stepC w y' m n s) s) := by
    intro m next s hm hs
    have e := loop_range w.names.toNat (fun v s => (v, s)) (f110_b1 st y m next) (fun k s nx => match cellOf w m k with | some c => (y m c s).bind fun v => nx v | none => nx s) (fun s => next (w64 ((m : Int) + 1), s)) (by omega) (fun k s nx hk => by
      simp only [f110_b1, so.n]
      rw [decide_eq_true (by omega), cond_true]
      unfold pget2
      rw [so.cells, if_pos (by omega), Int.toNat_natCast]
      cases cellOf w m k with
      | some c => rfl
      | none => rfl) (fun s nx => by simp only [f110_b1, so.n]; rw [decide_eq_false (by omega), cond_false]) (by omega : w.names.toNat < F) s
    obtain ⟨e2, h2⟩ := iter_fold (d := fun s => next (w64 ((m : Int) + 1), s)) (g := fun (_ : Nat) (k : Nat) s nx => match cellOf w m k with | some c => (y m c s).bind fun v => nx v | none => nx s) (fun _ k s => stepC w y' m k s) (fun k s => I (m * w.names.toNat + k) s) (l := List.range w.names.toNat) (i := 0) (s := s) hs (fun k x s nx hx hs => by
      have hk : k < w.names.toNat := by
        have := (List.getElem?_eq_some_iff.1 hx).1
        simpa using this
      have : x = k := by
        rw [List.getElem?_range hk] at hx
        simpa using hx.symm
      subst this
      rw [Nat.zero_add] at hs ⊢
      have hb : m * w.names.toNat + x < 100 := by
        have := Nat.mul_le_mul (show m ≤ 5 by omega) (show w.names.toNat ≤ 12 by omega)
        omega
      unfold stepC
      cases cellOf w m x with
      | some c =>
        obtain ⟨q1, q2⟩ := hy _ m c s hb hs
        dsimp only
        rw [q1]
        exact ⟨rfl, q2⟩
      | none => exact ⟨rfl, hI _ _ hs⟩)
    rw [foldI_foldl] at e2 h2
    refine ⟨e.trans e2, ?_⟩
    rw [List.length_range, Nat.zero_add] at h2
    rw [Nat.add_mul, Nat.one_mul]
    exact h2
  have key : ∀ (d m F' : Nat) (s : σ), m + d = w.cells.length → d < F' → I (m * w.names.toNat) s →
      loop F' (f110_b0 F st y) ((m : Int), s) = some ((List.range' m d).foldl (fun s m => (List.range w.names.toNat).foldl (fun s n => stepC w y' m n s) s) s) ∧ I (w.cells.length * w.names.toNat) ((List.range' m d).foldl (fun s m => (List.range w.names.toNat).foldl (fun s n => stepC w y' m n s) s) s) := by
    intro d
    induction d with
    | zero =>
      intro m F' s hm hF' hs
      obtain ⟨F', rfl⟩ := Nat.exists_eq_succ_of_ne_zero (n := F') (by omega)
      have : m = w.cells.length := by omega
      subst this
      rw [loop_succ]
      simp only [f110_b0, so.m]
      rw [decide_eq_false (by omega), cond_false]
      exact ⟨rfl, hs⟩
    | succ d ih =>
      intro m F' s hm hF' hs
      obtain ⟨F', rfl⟩ := Nat.exists_eq_succ_of_ne_zero (n := F') (by omega)
      obtain ⟨h1, h2⟩ := inner m (loop F' (f110_b0 F st y)) s (by omega) hs
      obtain ⟨h3, h4⟩ := ih (m + 1) F' _ (by omega) (by omega) h2
      rw [loop_succ, List.range'_succ, List.foldl_cons]
      refine ⟨?_, h4⟩
      simp only [f110_b0, so.m]
      rw [decide_eq_true (by omega), cond_true, h1, w64_succ (by omega), h3]
  have := key w.cells.length 0 F s0 (by omega) (by omega) (by rw [Nat.zero_mul]; exact h0)
  rw [← List.range_eq_range'] at this
  exact this
end
theorem fold_congr {σ : Type} {f g : σ → Nat → σ} {N : Nat} (h : ∀ s m, m < N → f s m = g s m) (s : σ) : (List.range N).foldl f s = (List.range N).foldl g s := by
  have : ∀ M, M ≤ N → (List.range M).foldl f s = (List.range M).foldl g s := by
    intro M
    induction M with
    | zero => intro _; rfl
    | succ M ih =>
      intro hM
      rw [List.range_succ, List.foldl_append, List.foldl_append, ih (by omega)]
      simp only [List.foldl_cons, List.foldl_nil]
      exact h _ _ (by omega)
  exact this N (Nat.le_refl _)
theorem fold_view {σ τ α : Type} (V : σ → τ) {f : σ → α → σ} {g : τ → α → τ} {l : List α} (h : ∀ s x, x ∈ l → V (f s x) = g (V s) x) (s : σ) : V (l.foldl f s) = l.foldl g (V s) := by
  induction l generalizing s with
  | nil => rfl
  | cons x l ih =>
    rw [List.foldl_cons, List.foldl_cons, ih (fun s y hy => h s y (by simp [hy])), h s x (by simp)]
def homesL (w : WeighWorld) (n : Int) : List Int :=
  w.notes.foldl (fun (s : List Int) (x : WeighNote) => bif (x.kind == 3) && (x.name == n) then s ++ [x.to_] else s)
    ((List.range w.cells.length).foldl (fun (s : List Int) (m : Nat) => match cellOf w m n with | some c => bif c.root then s ++ [(m : Int)] else s | none => s) [])
theorem homes_len {α : Type} (f : List Int → α → List Int) (hf : ∀ s x, (f s x).length ≤ s.length + 1) (l : List α) (s : List Int) : (l.foldl f s).length ≤ s.length + l.length := by
  induction l generalizing s with
  | nil => simp
  | cons x l ih =>
    rw [List.foldl_cons]
    have := ih (f s x)
    have := hf s x
    simp only [List.length_cons]
    omega
section
theorem homes_prog {F : Nat} (hF : 1000 ≤ F) {w : WeighWorld} (sm : Small w) (sh : Shp w) {st : Store} (so : StOf w st) {n : Nat} (hn : (n : Int) < w.names) : f90L F st n = some (homesL w n) := by
  unfold f90L
  let y' : Int → WeighCell → List Int → List Int := fun a c s => bif (c.name == (n : Int)) && c.root then s ++ [a] else s
  obtain ⟨h1, h2⟩ := all_eq hF sm sh so (fun i (s : List Int) => s.length ≤ i) (fun i s h => Nat.le_succ_of_le h) (f90_y0 n) y' (fun i a c s hi hs => by
    unfold f90_y0
    simp only [y']
    cases ((c.name == (n : Int)) && c.root)
    · exact ⟨rfl, Nat.le_succ_of_le hs⟩
    · simp only [cond_true]
      rw [app_ok (by simp; omega) (by decide)]
      exact ⟨rfl, by simp; omega⟩) [] (Nat.le_refl _)
  rw [h1]
  have e : (List.range w.cells.length).foldl (fun s (m : Nat) => (List.range w.names.toNat).foldl (fun s n => stepC w y' m n s) s) [] = (List.range w.cells.length).foldl (fun s (m : Nat) => match cellOf w m n with | some c => bif c.root then s ++ [(m : Int)] else s | none => s) [] := by
    refine fold_congr (fun s m hm => ?_) _
    refine fold_one (V := id) (fun i s => stepC w y' m i s) (fun s => match cellOf w m n with | some c => bif c.root then s ++ [(m : Int)] else s | none => s) (n := n) (N := w.names.toNat) (by omega) (fun i s hi hne => ?_) (fun s => ?_) s
    · simp only [id, stepC]
      cases hc : cellOf w m i with
      | none => rfl
      | some c =>
        have := cellOf_name hc
        have hb : (c.name == (n : Int)) = false := by rw [this]; simp; omega
        simp only [y', hb]; rfl
    · simp only [id, stepC]
      cases hc : cellOf w m n with
      | none => rfl
      | some c =>
        have := cellOf_name hc
        have hb : (c.name == (n : Int)) = true := by rw [this]; simp
        simp only [y', hb]; rfl
  rw [e, Option.bind_some]
  rw [e] at h2
  have hlen := Nat.mul_le_mul sh.c6 (show w.names.toNat ≤ 12 by have := sh.n12; have := sh.n0; omega)
  have hno := sm.notes
  refine (loop_list w.notes (fun v (s : List Int) => (v, s)) (f90_b0 st n) (fun _ x s next => bif (x.kind == 3) && (x.name == (n : Int)) then (app 8 s [x.to_]).bind next else next s) (fun s => some s) (by omega) (fun k y s next hy hk => ?_) (fun s next => ?_) (by omega) _).trans ?_
  · simp only [f90_b0, so.notes, geti_nat, hy, hk, decide_true, cond_true, Option.bind_some, f90_j0]
  · simp only [f90_b0, so.notes]
    rw [decide_eq_false (by omega), cond_false]
  · rw [(iter_fold (fun _ (x : WeighNote) s => bif (x.kind == 3) && (x.name == (n : Int)) then s ++ [x.to_] else s) (fun k (s : List Int) => s.length ≤ 72 + k) (by simp at h2 ⊢; omega) (fun k x s next hx hs => by
      have := (List.getElem?_eq_some_iff.1 hx).1
      cases ((x.kind == 3) && (x.name == (n : Int)))
      · exact ⟨rfl, by simp; omega⟩
      · simp only [cond_true]
        rw [app_ok (by simp; omega) (by decide)]
        exact ⟨rfl, by simp; omega⟩)).1, foldI_foldl]
    rfl
end
end Go.Proofs.Ytekpjgmhkkjhgaa
end
section
set_option linter.unusedVariables false
namespace Go.Proofs.Ytekpjgmhkkjhgaa
open Go.Lf
abbrev Acc := List (Arr2Int × Int)
def val (v : Acc) (k : Arr2Int) : Int := (mget v k).getD 0
def upd (v : Acc) (k : Arr2Int) (x : Int) : Acc := mset (ment v k 0) k (w64 (val v k + x))
theorem val_upd (v : Acc) (k k' : Arr2Int) (x : Int) : val (upd v k x) k' = if k' = k then w64 (val v k + x) else val v k' := by
  unfold val upd
  rw [mget_mset, mget_ment]
  by_cases h : k' = k
  · rw [if_pos h, if_pos h]; rfl
  · rw [if_neg h, if_neg h, if_neg h]
theorem w64_zero : w64 0 = 0 := w64_id (by decide) (by decide)
def accC (a : Int) (c : WeighCell) (q : Acc × Acc) : Acc × Acc := (upd q.1 ⟨a, c.name⟩ c.out, bif decide (c.from_ ≥ 0) then upd q.2 ⟨c.from_, c.name⟩ c.has else q.2)
def accN (x : WeighNote) (q : Acc × Acc) : Acc × Acc := bif x.kind == 1 then (q.1, upd q.2 ⟨x.via, x.name⟩ x.w) else bif x.kind == 2 then (q.1, upd q.2 ⟨x.to_, x.name⟩ x.w) else (upd q.1 ⟨x.to_, x.name⟩ 16, q.2)
def accCells (w : WeighWorld) : Acc × Acc := (List.range w.cells.length).foldl (fun s m => (List.range w.names.toNat).foldl (fun s n => stepC w accC m n s) s) ([], [])
def accL (w : WeighWorld) : Acc × Acc := w.notes.foldl (fun q x => accN x q) (accCells w)
def view (a n : Int) (q : Acc × Acc) : Int × Int := (val q.1 ⟨a, n⟩, val q.2 ⟨a, n⟩)
theorem acc_run {F : Nat} (hF : 1000 ≤ F) {w : WeighWorld} (sm : Small w) (sh : Shp w) {st : Store} (so : StOf w st) : f68L F st = some (accL w) := by
  unfold f68L
  have hno := sm.notes
  obtain ⟨h1, _⟩ := all_eq hF sm sh so (fun _ (_ : Acc × Acc) => True) (fun _ _ _ => trivial) f68_y0 accC (fun i a c s _ _ => ⟨by
    obtain ⟨v, u⟩ := s
    unfold f68_y0 accC
    simp only [pget, Option.bind_some]
    cases decide (c.from_ ≥ 0) <;> rfl, trivial⟩) ([], []) trivial
  rw [h1, Option.bind_some]
  refine (loop_list w.notes (fun v (s : Acc × Acc) => (v, s.1, s.2)) (f68_b0 st) (fun _ x s next => next (accN x s)) (fun s => some s) (by omega) (fun k y s next hy hk => ?_) (fun s next => ?_) (by omega) (accCells w)).trans ?_
  · simp only [f68_b0, so.notes, geti_nat, hy, hk, decide_true, cond_true, Option.bind_some, f68_j0, pget, accN]
    cases y.kind == 1
    · cases y.kind == 2 <;> rfl
    · rfl
  · simp only [f68_b0, so.notes]
    rw [decide_eq_false (by omega), cond_false]
  · rw [(iter_fold (fun _ (x : WeighNote) s => accN x s) (fun _ _ => True) trivial (fun _ _ _ _ _ _ => ⟨rfl, trivial⟩)).1, foldI_foldl]
    rfl
def hm (w : WeighWorld) (a n : Nat) (q : Int × Int) (m : Nat) : Int × Int := match cellOf w m n with
  | some c => (if m = a then w64 (q.1 + c.out) else q.1, if c.from_ = (a : Int) then w64 (q.2 + c.has) else q.2)
  | none => q
theorem view_inner {w : WeighWorld} {a n m : Nat} (hn : n < w.names.toNat) (q : Acc × Acc) :
    view a n ((List.range w.names.toNat).foldl (fun s n => stepC w accC m n s) q) = hm w a n (view a n q) m := by
  refine fold_one (view a n) (fun i s => stepC w accC m i s) (fun q => hm w a n q m) hn (fun i s hi hne => ?_) (fun s => ?_) q
  · unfold stepC
    cases hc : cellOf w m i with
    | none => rfl
    | some c =>
      have hnm := cellOf_name hc
      dsimp only
      unfold view accC
      have k1 : ¬ (Arr2Int.mk (a : Int) (n : Int)) = Arr2Int.mk (m : Int) c.name := fun e => by injection e with _ e2; omega
      have k2 : ¬ (Arr2Int.mk (a : Int) (n : Int)) = Arr2Int.mk c.from_ c.name := fun e => by injection e with _ e2; omega
      rw [val_upd, if_neg k1]
      cases decide (c.from_ ≥ 0)
      · rfl
      · simp only [cond_true]; rw [val_upd, if_neg k2]
  · unfold stepC hm
    cases hc : cellOf w m n with
    | none => rfl
    | some c =>
      have hnm := cellOf_name hc
      dsimp only
      unfold view accC
      dsimp only
      rw [hnm]
      congr 1
      · rw [val_upd]
        by_cases e : m = a
        · subst e; rw [if_pos rfl, if_pos rfl]
        · rw [if_neg e, if_neg (fun q => by injection q with q1 _; omega)]
      · by_cases e : c.from_ = (a : Int)
        · rw [if_pos e, decide_eq_true (by omega), cond_true, val_upd, e, if_pos rfl]
        · rw [if_neg e]
          cases decide (c.from_ ≥ 0)
          · rfl
          · simp only [cond_true]; rw [val_upd, if_neg (fun q => by injection q with q1 _; omega)]
theorem add_fold (c : WeighNote → Bool) (l : List WeighNote) (g : Int) : l.foldl (fun (g : Int) x => bif c x then w64 (g + 16) else g) (w64 g) = w64 (g + 16 * (l.countP c : Int)) := by
  induction l generalizing g with
  | nil => simp
  | cons x l ih =>
    rw [List.foldl_cons, List.countP_cons]
    cases hc : c x
    · simp only [cond_false]; rw [ih]; simp
    · simp only [cond_true, if_true]; rw [w64_add, ih]; congr 1; omega
theorem acc_val {w : WeighWorld} (sh : Shp w) {a n : Nat} (ha : a < w.cells.length) (hn : (n : Int) < w.names) : val (accL w).1 ⟨a, n⟩ = givenOf w a n ∧ val (accL w).2 ⟨a, n⟩ = heldOf w a n := by
  have e1 : view a n (accCells w) = (List.range w.cells.length).foldl (fun q m => hm w a n q m) (0, 0) :=
    fold_view (view a n) (fun s m _ => view_inner (by omega) s) ([], [])
  have e2 : ((List.range w.cells.length).foldl (fun q m => hm w a n q m) (0, 0)).2 = (List.range w.cells.length).foldl (fun s k => heldC w a n k s) 0 := by
    refine fold_view (fun q : Int × Int => q.2) (fun s m _ => ?_) (0, 0)
    unfold hm heldC
    cases cellOf w m n with
    | none => rfl
    | some c =>
      dsimp only
      by_cases e : c.from_ = (a : Int)
      · rw [if_pos e]
        have : (c.from_ == (a : Int)) = true := by simp [e]
        rw [this]; rfl
      · rw [if_neg e]
        have : (c.from_ == (a : Int)) = false := by simp [e]
        rw [this]; rfl
  have e3 : ((List.range w.cells.length).foldl (fun q m => hm w a n q m) (0, 0)).1 = w64 (outOf w a n) := by
    have f1 : ((List.range w.cells.length).foldl (fun q m => hm w a n q m) (0, 0)).1 = (List.range w.cells.length).foldl (fun (g : Int) m => match cellOf w m n with | some c => if m = a then w64 (g + c.out) else g | none => g) 0 := by
      refine fold_view (fun q : Int × Int => q.1) (fun s m _ => ?_) (0, 0)
      unfold hm
      cases cellOf w m n with
      | none => rfl
      | some c => rfl
    rw [f1]
    have := fold_one (V := id) (fun m (g : Int) => match cellOf w m n with | some c => if m = a then w64 (g + c.out) else g | none => g) (fun g => match cellOf w a n with | some c => w64 (g + c.out) | none => g) ha (fun i s hi hne => by
      simp only [id]
      cases cellOf w i n with
      | none => rfl
      | some c => dsimp only; rw [if_neg hne]) (fun s => by
      simp only [id]
      cases cellOf w a n with
      | none => rfl
      | some c => simp) 0
    simp only [id] at this
    rw [this]
    unfold outOf
    cases cellOf w a n with
    | none => exact w64_zero.symm
    | some c => dsimp only; rw [Int.zero_add]
  have e4 : view a n (accL w) = w.notes.foldl (fun q x => (bif ((x.kind == 3) && (x.to_ == (a : Int))) && (x.name == (n : Int)) then w64 (q.1 + 16) else q.1, heldN a n x q.2)) (view a n (accCells w)) := by
    refine fold_view (view a n) (fun s x hx => ?_) (accCells w)
    have hx := sh.note x hx
    unfold view accN heldN
    by_cases k1 : x.kind = 1
    · simp only [k1, beq_self_eq_true, cond_true, Bool.true_and]
      rw [val_upd]
      have r1 : ((1 : Int) == 2) = false := rfl
      have r2 : ((1 : Int) == 3) = false := rfl
      simp only [r1, r2, Bool.false_and, Bool.or_false, cond_false]
      congr 1
      by_cases e : Arr2Int.mk (a : Int) (n : Int) = Arr2Int.mk x.via x.name
      · rw [if_pos e]
        injection e with z1 z2
        have b : ((x.name == (n : Int)) && (x.via == (a : Int))) = true := by simp [z1, z2]
        rw [b, cond_true, z1, z2]
      · rw [if_neg e]
        have b : ((x.name == (n : Int)) && (x.via == (a : Int))) = false := by
          rw [Bool.and_eq_false_iff]
          by_cases z : x.name = (n : Int)
          · right; simp; intro z2; exact e (by rw [z, z2])
          · left; simp [z]
        rw [b, cond_false]
    · by_cases k2 : x.kind = 2
      · have r1 : ((2 : Int) == 1) = false := rfl
        have r2 : ((2 : Int) == 3) = false := rfl
        simp only [k2, r1, r2, beq_self_eq_true, cond_true, cond_false, Bool.true_and, Bool.false_and, Bool.false_or]
        rw [val_upd]
        congr 1
        by_cases e : Arr2Int.mk (a : Int) (n : Int) = Arr2Int.mk x.to_ x.name
        · rw [if_pos e]
          injection e with z1 z2
          have b : ((x.name == (n : Int)) && (x.to_ == (a : Int))) = true := by simp [z1, z2]
          rw [b, cond_true, z1, z2]
        · rw [if_neg e]
          have b : ((x.name == (n : Int)) && (x.to_ == (a : Int))) = false := by
            rw [Bool.and_eq_false_iff]
            by_cases z : x.name = (n : Int)
            · right; simp; intro z2; exact e (by rw [z, z2])
            · left; simp [z]
          rw [b, cond_false]
      · have q1 : (x.kind == 1) = false := by simp [k1]
        have q2 : (x.kind == 2) = false := by simp [k2]
        have q3 : (x.kind == 3) = true := by
          unfold noteB at hx
          rw [q1, q2] at hx
          simp only [cond_false, Bool.and_eq_true] at hx
          exact hx.2.1.1
        simp only [q1, q2, q3, cond_false, Bool.true_and, Bool.false_and, Bool.or_false, Bool.and_false]
        rw [val_upd]
        congr 1
        by_cases e : Arr2Int.mk (a : Int) (n : Int) = Arr2Int.mk x.to_ x.name
        · rw [if_pos e]
          injection e with z1 z2
          have b : ((x.to_ == (a : Int)) && (x.name == (n : Int))) = true := by simp [z1, z2]
          rw [b, cond_true, z1, z2]
        · rw [if_neg e]
          have b : ((x.to_ == (a : Int)) && (x.name == (n : Int))) = false := by
            rw [Bool.and_eq_false_iff]
            by_cases z : x.name = (n : Int)
            · left; simp; intro z2; exact e (by rw [z, z2])
            · right; simp [z]
          rw [b, cond_false]
  constructor
  · show (view a n (accL w)).1 = _
    rw [e4, fold_view (fun q : Int × Int => q.1) (g := fun (g : Int) (x : WeighNote) => bif ((x.kind == 3) && (x.to_ == (a : Int))) && (x.name == (n : Int)) then w64 (g + 16) else g) (fun s x _ => rfl), e1, e3, add_fold]
    unfold givenOf homesN
    congr 1; omega
  · show (view a n (accL w)).2 = _
    rw [e4, fold_view (fun q : Int × Int => q.2) (g := fun (g : Int) (x : WeighNote) => heldN a n x g) (fun s x _ => rfl), e1, e2]
    rfl
end Go.Proofs.Ytekpjgmhkkjhgaa
end
section
set_option linter.unusedVariables false
namespace Go.Proofs.Ytekpjgmhkkjhgaa
open Go.Lf
def leadsB (w : WeighWorld) (n h : Int) : Nat → Int → Bool
  | 0, a => a == h
  | k + 1, a => bif a == h then true else match cellOf w a.toNat n with
    | none => false
    | some c => bif decide (c.from_ < 0) then false else leadsB w n h k c.from_
def leadsAll (w : WeighWorld) (n h : Int) : Bool := !((List.range w.cells.length).any fun m => (cellOf w m n).isSome && !(leadsB w n h w.cells.length m))
theorem Shp.from_ {w : WeighWorld} (sh : Shp w) {m : Nat} {n : Int} {c : WeighCell} (h : cellOf w m n = some c) (h0 : ¬ c.from_ < 0) : 0 ≤ c.from_ ∧ c.from_ < (w.cells.length : Int) := by
  obtain ⟨row, k, h1, h2⟩ := cellOf_mem h
  have := (sh.cell m row k c h1 h2).1
  unfold cellB at this
  rw [Bool.and_eq_true] at this
  have := this.2
  have e : (c.from_ == -1) = false := by simp; omega
  rw [e] at this
  cases hr : c.root
  · rw [hr] at this
    simp only [Bool.or_self, cond_false, Bool.and_eq_true] at this
    have := this.1.1
    unfold machB at this
    simpa using this
  · rw [hr] at this
    simp at this
section
theorem leads_ref {F : Nat} (hF : 1000 ≤ F) {w : WeighWorld} (sm : Small w) (sh : Shp w) {a : Int} (h0 : 0 ≤ a) (h1 : a < (w.cells.length : Int)) (h n : Int) : f101L F w a h n = some (leadsB w n h w.cells.length a) := by
  have hc := sm.cells
  have key : ∀ (d i F' : Nat) (a : Int), i + d = w.cells.length → d + 2 < F' → 0 ≤ a → a < (w.cells.length : Int) → loop F' (f101_b0 F w h n) (a, (i : Int)) = some (leadsB w n h d a) := by
    intro d
    induction d with
    | zero =>
      intro i F' a hi hF' h0 h1
      obtain ⟨F', rfl⟩ := Nat.exists_eq_succ_of_ne_zero (n := F') (by omega)
      rw [loop_succ]
      simp only [f101_b0, leadsB]
      rw [decide_eq_true (by omega), cond_true]
      have ea : ((a.toNat : Nat) : Int) = a := by omega
      cases a == h
      · simp only [cond_false]
        rcases find_eq hF sm (m := a.toNat) (by omega) n with ⟨j, c, q1, q2, q3⟩ | ⟨q1, q3⟩
        · rw [ea] at q3
          have hg := rowOf_some (w := w) (m := a.toNat) (by omega)
          rw [q3]
          have e1 : decide ((j : Int) < 0) = false := by simp
          have e2 : geti w.cells a = some (rowOf w a.toNat) := by have q := geti_nat w.cells a.toNat; rw [ea] at q; rw [q]; exact hg
          simp only [Option.bind_some, e1, Bool.not_false, gd_true, e2, geti_nat, q2, Bool.false_or]
          cases decide (c.from_ < 0)
          · simp only [cond_false]
            obtain ⟨F', rfl⟩ := Nat.exists_eq_succ_of_ne_zero (n := F') (by omega)
            rw [loop_succ]
            simp only [f101_b0]
            rw [w64_succ (by omega), decide_eq_false (by omega), cond_false]
          · rfl
        · rw [ea] at q3
          rw [q3]; rfl
      · rfl
    | succ d ih =>
      intro i F' a hi hF' h0 h1
      obtain ⟨F', rfl⟩ := Nat.exists_eq_succ_of_ne_zero (n := F') (by omega)
      rw [loop_succ]
      simp only [f101_b0, leadsB]
      rw [decide_eq_true (by omega), cond_true]
      have ea : ((a.toNat : Nat) : Int) = a := by omega
      cases a == h
      · simp only [cond_false]
        rcases find_eq hF sm (m := a.toNat) (by omega) n with ⟨j, c, q1, q2, q3⟩ | ⟨q1, q3⟩
        · rw [ea] at q3
          have hg := rowOf_some (w := w) (m := a.toNat) (by omega)
          rw [q3, q1]
          have e1 : decide ((j : Int) < 0) = false := by simp
          have e2 : geti w.cells a = some (rowOf w a.toNat) := by have q := geti_nat w.cells a.toNat; rw [ea] at q; rw [q]; exact hg
          simp only [Option.bind_some, e1, Bool.not_false, gd_true, e2, geti_nat, q2, Bool.false_or]
          by_cases hf : c.from_ < 0
          · rw [decide_eq_true hf]; rfl
          · rw [decide_eq_false hf]
            simp only [cond_false]
            have := sh.from_ q1 hf
            rw [w64_succ (by omega)]
            exact ih (i + 1) F' c.from_ (by omega) (by omega) this.1 this.2
        · rw [ea] at q3
          rw [q3, q1]; rfl
      · rfl
  have := sh.c6
  exact key w.cells.length 0 F a (by omega) (by omega) h0 h1
theorem leads_prog {F : Nat} (hF : 1000 ≤ F) {w : WeighWorld} (sm : Small w) (sh : Shp w) {st : Store} (so : StOf w st) (n h : Int) : f91L F st n h = some (leadsAll w n h) := by
  have hc := sm.cells
  have h6 := sh.c6
  let z : WeighCell := WeighCell.mk 0 false 0 0 0 false
  have key : ∀ (d i F' m : Nat) (next : Int → Option Bool) (a : Int), i + d = w.cells.length → d < F' → 0 ≤ a → a < (w.cells.length : Int) →
      loop F' (f91_b1 st n h m next) (a, (cellOf w a.toNat n).isSome, (i : Int), ((cellOf w a.toNat n).getD z).name, ((cellOf w a.toNat n).getD z).root, ((cellOf w a.toNat n).getD z).from_, ((cellOf w a.toNat n).getD z).has, ((cellOf w a.toNat n).getD z).out, ((cellOf w a.toNat n).getD z).use) = bif leadsB w n h d a then next (w64 ((m : Int) + 1)) else some false := by
    intro d
    induction d with
    | zero =>
      intro i F' m next a hi hF' h0 h1
      obtain ⟨F', rfl⟩ := Nat.exists_eq_succ_of_ne_zero (n := F') (by omega)
      rw [loop_succ]
      simp only [f91_b1, leadsB, so.m]
      rw [decide_eq_false (by omega), cond_false]
      have : (a != h) = !(a == h) := rfl
      rw [this]
      cases a == h <;> rfl
    | succ d ih =>
      intro i F' m next a hi hF' h0 h1
      obtain ⟨F', rfl⟩ := Nat.exists_eq_succ_of_ne_zero (n := F') (by omega)
      rw [loop_succ]
      simp only [f91_b1, leadsB, so.m]
      rw [decide_eq_true (by omega), cond_true]
      cases a == h
      · simp only [cond_false]
        cases hq : cellOf w a.toNat n with
        | none => rfl
        | some c =>
          simp only [Option.isSome_some, Bool.not_true, Bool.false_or, Option.getD_some]
          by_cases hf : c.from_ < 0
          · rw [decide_eq_true hf]; rfl
          · rw [decide_eq_false hf]
            simp only [cond_false]
            have hv := sh.from_ hq hf
            unfold pget2
            rw [so.cells, if_pos hv, Option.bind_some, w64_succ (by omega)]
            exact ih (i + 1) F' m next c.from_ (by omega) (by omega) hv.1 hv.2
      · rfl
  unfold f91L
  refine (loop_range w.cells.length (fun v (_ : Unit) => v) (f91_b0 F st n h) (fun m s next => bif (cellOf w m n).isSome && !(leadsB w n h w.cells.length m) then some false else next ()) (fun _ => some true) (by omega) (fun m s next hm => ?_) (fun s next => ?_) (by omega) ()).trans ?_
  · simp only [f91_b0, so.m]
    rw [decide_eq_true (by omega), cond_true]
    unfold pget2
    rw [so.cells, if_pos (by omega), Option.bind_some, Int.toNat_natCast]
    have := key w.cells.length 0 F m next (m : Int) (by omega) (by omega) (by omega) (by omega)
    rw [Int.toNat_natCast] at this
    cases hq : cellOf w m n with
    | none => rfl
    | some c =>
      rw [hq] at this
      simp only [Option.isSome_some, Bool.not_true, cond_false, Bool.true_and, Option.getD_some]
      refine Eq.trans this ?_
      cases leadsB w n h w.cells.length m <;> rfl
  · simp only [f91_b0, so.m]
    rw [decide_eq_false (by omega), cond_false]
  · rw [iter_any (r := some false) (fun _ m => (cellOf w m n).isSome && !(leadsB w n h w.cells.length m)) (fun _ _ _ _ => rfl), anyI_any]
    unfold leadsAll
    cases (List.range w.cells.length).any fun m => (cellOf w m n).isSome && !(leadsB w n h w.cells.length m) <;> rfl
end
def cntM (w : WeighWorld) (m : Nat) (n : Int) : Nat := homesN w m n + (match cellOf w m n with | some c => bif c.root then 1 else 0 | none => 0)
def rootStep (w : WeighWorld) (n : Int) (q : Int × Int) (m : Nat) : Int × Int := bif decide ((cntM w m n : Int) > 0) then (w64 (q.1 + (cntM w m n : Int)), (m : Int)) else q
theorem foldl_inv {α σ : Type} (P : σ → Prop) (f : σ → α → σ) (l : List α) (h : ∀ s x, x ∈ l → P s → P (f s x)) (s : σ) (h0 : P s) : P (l.foldl f s) := by
  induction l generalizing s with
  | nil => exact h0
  | cons x l ih => exact ih (fun s y hy => h s y (by simp [hy])) _ (h s x (by simp) h0)
theorem homesL_range {w : WeighWorld} (sh : Shp w) (n : Int) : ∀ x ∈ homesL w n, 0 ≤ x ∧ x < (w.cells.length : Int) := by
  unfold homesL
  refine foldl_inv (fun s : List Int => ∀ x ∈ s, 0 ≤ x ∧ x < (w.cells.length : Int)) _ _ (fun s x hx hs => ?_) _ ?_
  · cases h : (x.kind == 3) && (x.name == n)
    · exact hs
    · intro y hy
      simp only [cond_true, List.mem_append, List.mem_singleton] at hy
      rcases hy with hy | hy
      · exact hs y hy
      · subst hy
        have := sh.note x hx
        unfold noteB machB at this
        simp only [Bool.and_eq_true, decide_eq_true_eq] at this
        exact this.1.1.1
  · refine foldl_inv (fun s : List Int => ∀ x ∈ s, 0 ≤ x ∧ x < (w.cells.length : Int)) _ _ (fun s m hm hs => ?_) _ (by simp)
    rw [List.mem_range] at hm
    cases cellOf w m n with
    | none => exact hs
    | some c =>
      dsimp only
      cases c.root
      · exact hs
      · intro y hy
        simp only [cond_true, List.mem_append, List.mem_singleton] at hy
        rcases hy with hy | hy
        · exact hs y hy
        · subst hy; omega
theorem homesL_len {w : WeighWorld} (sh : Shp w) (n : Int) : (homesL w n).length ≤ 100 := by
  have h : (homesL w n).length ≤ w.cells.length + w.notes.length := by
    unfold homesL
    refine Nat.le_trans (homes_len _ (fun s x => ?_) w.notes _) (Nat.add_le_add_right (Nat.le_trans (homes_len _ (fun s m => ?_) (List.range w.cells.length) []) (by simp)) _)
    · cases (x.kind == 3) && (x.name == n) <;> simp
    · cases cellOf w m n with
      | none => simp
      | some c => dsimp only; cases c.root <;> simp
  have := sh.c6
  have := sh.notes
  omega
theorem count_add {c : WeighNote → Bool} (l : List WeighNote) (k : Nat) : l.foldl (fun (k : Nat) x => bif c x then k + 1 else k) k = k + l.countP c := by
  induction l generalizing k with
  | nil => rfl
  | cons x l ih =>
    rw [List.foldl_cons, ih, List.countP_cons]
    cases c x <;> simp; omega
theorem homesL_count {w : WeighWorld} {m : Nat} (hm : m < w.cells.length) (n : Int) : (homesL w n).count (m : Int) = cntM w m n := by
  unfold homesL
  rw [fold_view (fun s : List Int => s.count (m : Int)) (g := fun (k : Nat) (x : WeighNote) => bif ((x.kind == 3) && (x.to_ == (m : Int))) && (x.name == n) then k + 1 else k) (fun s x hx => by
    cases h1 : x.kind == 3 <;> cases h2 : x.name == n <;> cases h3 : x.to_ == (m : Int) <;> simp [List.count_append, List.count_singleton, h3])]
  rw [count_add]
  rw [fold_view (fun s : List Int => s.count (m : Int)) (g := fun (k : Nat) (m' : Nat) => match cellOf w m' n with | some c => bif c.root && (m' == m) then k + 1 else k | none => k) (fun s m' hx => by
    cases cellOf w m' n with
    | none => rfl
    | some c =>
      dsimp only
      cases c.root
      · rfl
      · by_cases e : m' = m
        · subst e; simp
        · have e1 : (m' == m) = false := by simp [e]
          have e2 : ¬ (m' : Int) = (m : Int) := by omega
          simp [e1, List.count_append, List.count_singleton, e2])]
  have := fold_one (V := id) (fun m' (k : Nat) => match cellOf w m' n with | some c => bif c.root && (m' == m) then k + 1 else k | none => k) (fun k => match cellOf w m n with | some c => bif c.root then k + 1 else k | none => k) hm (fun i s hi hne => by
    simp only [id]
    cases cellOf w i n with
    | none => rfl
    | some c =>
      have e1 : (i == m) = false := by simp [hne]
      dsimp only; rw [e1, Bool.and_false]; rfl) (fun s => by
    simp only [id]
    cases cellOf w m n with
    | none => rfl
    | some c => simp) 0
  simp only [id] at this
  rw [List.count_nil, this]
  unfold cntM homesN
  cases cellOf w m n with
  | none => simp
  | some c => cases c.root <;> simp <;> omega
theorem countP_succ (L : List Int) (h : ∀ x ∈ L, 0 ≤ x) (M : Nat) : L.countP (fun x => decide (x < ((M + 1 : Nat) : Int))) = L.countP (fun x => decide (x < (M : Int))) + L.count (M : Int) := by
  induction L with
  | nil => rfl
  | cons x L ih =>
    have := ih (fun y hy => h y (by simp [hy]))
    rw [List.countP_cons, List.countP_cons, List.count_cons, this]
    have h0 := h x (by simp)
    by_cases e : x = (M : Int)
    · subst e
      have a1 : decide ((M : Int) < ((M + 1 : Nat) : Int)) = true := by simp; omega
      have a2 : decide ((M : Int) < (M : Int)) = false := by simp
      rw [a1, a2]; simp; omega
    · have a3 : (x == (M : Int)) = false := by simp [e]
      by_cases l : x < (M : Int)
      · have a1 : decide (x < ((M + 1 : Nat) : Int)) = true := by simp; omega
        have a2 : decide (x < (M : Int)) = true := by simp [l]
        rw [a1, a2, a3]; simp; omega
      · have a1 : decide (x < ((M + 1 : Nat) : Int)) = false := by simp; omega
        have a2 : decide (x < (M : Int)) = false := by simp; omega
        rw [a1, a2, a3]; simp
theorem root_fold {w : WeighWorld} (sh : Shp w) (n : Int) : ((List.range w.cells.length).foldl (rootStep w n) (0, 0)).1 = ((homesL w n).length : Int) ∧ ∀ h, homesL w n = [h] → ((List.range w.cells.length).foldl (rootStep w n) (0, 0)).2 = h := by
  have hl := homesL_len sh n
  have hr := homesL_range sh n
  have key : ∀ M, M ≤ w.cells.length → ((List.range M).foldl (rootStep w n) (0, 0)).1 = ((homesL w n).countP (fun x => decide (x < (M : Int))) : Int) ∧ (((List.range M).foldl (rootStep w n) (0, 0)).1 ≠ 0 → ((List.range M).foldl (rootStep w n) (0, 0)).2 ∈ homesL w n) := by
    intro M
    induction M with
    | zero =>
      intro _
      have : (homesL w n).countP (fun x => decide (x < ((0 : Nat) : Int))) = 0 := by
        rw [List.countP_eq_zero]
        intro x hx
        have := (hr x hx).1
        simp; omega
      rw [this]
      exact ⟨rfl, fun h => absurd rfl h⟩
    | succ M ih =>
      intro hM
      obtain ⟨i1, i2⟩ := ih (by omega)
      rw [List.range_succ, List.foldl_append]
      simp only [List.foldl_cons, List.foldl_nil]
      rw [countP_succ _ (fun x hx => (hr x hx).1)]
      have hc := homesL_count (w := w) (m := M) (by omega) n
      have hle := List.countP_le_length (p := fun x => decide (x < (M : Int))) (l := homesL w n)
      have hle2 := List.count_le_length (a := (M : Int)) (l := homesL w n)
      generalize (List.range M).foldl (rootStep w n) (0, 0) = q at i1 i2 ⊢
      unfold rootStep
      rw [← hc]
      by_cases h0 : (homesL w n).count (M : Int) = 0
      · have : decide ((((homesL w n).count (M : Int) : Nat) : Int) > 0) = false := by simp [h0]
        rw [this, cond_false, h0]
        exact ⟨i1, i2⟩
      · have : decide ((((homesL w n).count (M : Int) : Nat) : Int) > 0) = true := decide_eq_true (by omega)
        rw [this, cond_true]
        refine ⟨?_, fun _ => ?_⟩
        · show w64 (q.1 + _) = _
          rw [i1, w64_id] <;> omega
        · have hp : 0 < (homesL w n).count (M : Int) := Nat.pos_of_ne_zero h0
          exact List.count_pos_iff.1 hp
  obtain ⟨k1, k2⟩ := key w.cells.length (Nat.le_refl _)
  have e : (homesL w n).countP (fun x => decide (x < (w.cells.length : Int))) = (homesL w n).length := by
    rw [List.countP_eq_length]
    intro x hx
    simpa using (hr x hx).2
  rw [e] at k1
  refine ⟨k1, fun h hh => ?_⟩
  have := k2 (by rw [k1, hh]; simp)
  rw [hh] at this
  simpa using this
end Go.Proofs.Ytekpjgmhkkjhgaa
end
section
set_option linter.unusedVariables false
namespace Go.Proofs.Ytekpjgmhkkjhgaa
open Go.Lf
theorem iter_anyfold {α β σ : Type} {g : Nat → α → σ → (σ → Option β) → Option β} {d : σ → Option β} {r : Option β} (c : Nat → α → Bool) (f : Nat → α → σ → σ) {l : List α} {i : Nat} {s : σ}
    (hg : ∀ k x s next, l[k]? = some x → g (i + k) x s next = bif c (i + k) x then r else next (f (i + k) x s)) : iter g d i l s = bif anyI c i l then r else d (foldI f i l s) := by
  induction l generalizing i s with
  | nil => rfl
  | cons x l ih =>
    unfold iter anyI foldI
    have := hg 0 x s (fun s' => iter g d (i + 1) l s') rfl
    rw [Nat.add_zero] at this
    rw [this]
    cases c i x
    · rw [cond_false, Bool.false_or]
      exact ih (fun k y s next hy => by rw [show i + 1 + k = i + (k + 1) by omega]; exact hg (k + 1) y s next (by simpa using hy))
    · rfl
def badM (w : WeighWorld) (n : Int) (m : Nat) : Bool := (givenOf w m n != heldOf w m n) || decide (givenOf w m n > 1000000)
def rootsOf (w : WeighWorld) (n : Int) : Int × Int := (List.range w.cells.length).foldl (rootStep w n) (0, 0)
def rootedB (w : WeighWorld) (n : Int) : Bool := !((List.range w.cells.length).any (badM w n)) && ((rootsOf w n).1 == 1 && leadsAll w n (rootsOf w n).2)
def shapedB (w : WeighWorld) : Bool := sizesB w && (!(anyI (freedBad w) 0 w.freed) && (rowsB w && notesB w))
def rightB (w : WeighWorld) : Bool := shapedB w && !((List.range w.names.toNat).any fun n => nameB w n && !(rootedB w n))
theorem shapedB_shp {w : WeighWorld} (h : shapedB w = true) : Shp w := by
  unfold shapedB at h
  simp only [Bool.and_eq_true] at h
  exact shp_of h.1 h.2.2.1 h.2.2.2
section
theorem rooted_eq {F : Nat} (hF : 1000 ≤ F) {w : WeighWorld} (sm : Small w) (sh : Shp w) (n : Int) : f62L F w n = some (rootedB w n) := by
  have hc := sm.cells
  unfold f62L
  have e1 : ∀ h : Int, loop F (f62_b1 F w n h) 0 = some (leadsAll w n h) := by
    intro h
    refine (loop_range w.cells.length (fun v (_ : Unit) => v) (f62_b1 F w n h) (fun m s next => bif (cellOf w m n).isSome && !(leadsB w n h w.cells.length m) then some false else next ()) (fun _ => some true) (by omega) (fun m s next hm => ?_) (fun s next => ?_) (by omega) ()).trans ?_
    · simp only [f62_b1]
      rw [decide_eq_true (by omega), cond_true]
      rcases find_eq hF sm hm n with ⟨j, c, q1, q2, q3⟩ | ⟨q1, q3⟩
      · rw [q3, q1]
        have e1 : decide ((j : Int) ≥ 0) = true := by simp
        simp only [Option.bind_some, e1, gd_true, Bool.true_and, Option.isSome_some, leads_ref hF sm sh (show (0 : Int) ≤ (m : Int) by omega) (show (m : Int) < w.cells.length by omega)]
      · rw [q3, q1]; rfl
    · simp only [f62_b1]
      rw [decide_eq_false (by omega), cond_false]
    · rw [iter_any (r := some false) (fun _ m => (cellOf w m n).isSome && !(leadsB w n h w.cells.length m)) (fun _ _ _ _ => rfl), anyI_any]
      unfold leadsAll
      cases (List.range w.cells.length).any fun m => (cellOf w m n).isSome && !(leadsB w n h w.cells.length m) <;> rfl
  refine (loop_range w.cells.length (fun v (q : Int × Int) => (q.1, q.2, v)) (f62_b0 F w n) (fun m q next => bif badM w n m then some false else next (rootStep w n q m)) (fun q => bif q.1 != 1 then some false else some (leadsAll w n q.2)) (by omega) (fun m q next hm => ?_) (fun q next => ?_) (by omega) (0, 0)).trans ?_
  · simp only [f62_b0]
    rw [decide_eq_true (by omega), cond_true, homes_eq hF sm, Option.bind_some]
    have j1 : ∀ a b : Int, f62_j1 F w n m (fun s' => next s') (a, b) = bif badM w n m then some false else next (a, b, w64 ((m : Int) + 1)) := by
      intro a b
      simp only [f62_j1]
      rw [given_eq hF sm hm, held_eq hF sm]
      simp only [Option.bind_some, gd_of]
      unfold badM
      cases givenOf w m n != heldOf w m n <;> rfl
    have j0 : ∀ k : Nat, k = cntM w m n → f62_j0 F w n q.1 q.2 m (fun s' => next s') (k : Int) = bif badM w n m then some false else next ((rootStep w n q m).1, (rootStep w n q m).2, w64 ((m : Int) + 1)) := by
      intro k hk
      subst hk
      simp only [f62_j0, rootStep]
      cases decide ((cntM w m n : Int) > 0)
      · exact j1 _ _
      · exact j1 _ _
    have hh : homesN w m n < 1000 := Nat.lt_of_le_of_lt List.countP_le_length sm.notes
    rcases find_eq hF sm hm n with ⟨j, c, q1, q2, q3⟩ | ⟨q1, q3⟩
    · have e1 : decide ((j : Int) ≥ 0) = true := by simp
      simp only [q3, Option.bind_some, e1, gd_true, geti_nat, rowOf_some hm, q2, Bool.true_and]
      cases hr : c.root
      · rw [cond_false]
        exact j0 _ (by unfold cntM; rw [q1]; simp [hr])
      · rw [cond_true, w64_succ (by omega)]
        exact j0 _ (by unfold cntM; rw [q1]; simp [hr])
    · simp only [q3, Option.bind_some]
      exact j0 _ (by unfold cntM; rw [q1]; simp)
  · simp only [f62_b0]
    rw [decide_eq_false (by omega), cond_false, e1]
  · rw [iter_anyfold (r := some false) (fun _ m => badM w n m) (fun _ m q => rootStep w n q m) (fun _ _ _ _ _ => rfl), anyI_any, foldI_foldl]
    unfold rootedB rootsOf
    generalize (List.range w.cells.length).foldl (rootStep w n) (0, 0) = q
    cases (List.range w.cells.length).any fun m => badM w n m
    · have : (q.1 != 1) = !(q.1 == 1) := rfl
      rw [this]
      cases q.1 == 1 <;> rfl
    · rfl
theorem right_eq {F : Nat} (hF : 1000 ≤ F) {w : WeighWorld} (sm : Small w) : f20L F w = some (rightB w) := by
  unfold f20L
  rw [shaped_eq hF sm, Option.bind_some]
  have hf := sm.freed
  by_cases h0 : sizesB w = true
  · have h0' := h0
    unfold sizesB at h0'
    simp only [Bool.and_eq_true, decide_eq_true_eq] at h0'
    have hrow := rows_eq (w := w) (by omega)
    rw [hrow]
    have e : (sizesB w && (!(anyI (freedBad w) 0 w.freed) && (rowsB w && notesB w))) = shapedB w := rfl
    rw [e]
    unfold rightB
    cases hs : shapedB w
    · rfl
    · have sh := shapedB_shp hs
      have en : ((w.names.toNat : Nat) : Int) = w.names := by omega
      simp only [Bool.not_true, cond_false, Bool.true_and]
      refine (loop_range w.names.toNat (fun v (_ : Unit) => v) (f20_b0 F w) (fun n s next => bif nameB w n && !(rootedB w n) then some false else next ()) (fun _ => some true) (by omega) (fun n s next hn => ?_) (fun s next => ?_) (by omega) ()).trans ?_
      · simp only [f20_b0]
        rw [decide_eq_true (by omega), cond_true, has_eq hF hf, rooted_eq hF sm sh]
        simp only [Option.bind_some, gd_of]
        unfold nameB
        rw [decide_eq_true (show (0 : Int) ≤ (n : Int) by omega), decide_eq_true (show (n : Int) < w.names by omega)]
        cases (w.freed.any fun y => y == (n : Int)) <;> rfl
      · simp only [f20_b0]
        rw [decide_eq_false (by omega), cond_false]
      · rw [iter_any (r := some false) (fun _ (n : Nat) => nameB w n && !(rootedB w n)) (fun _ _ _ _ => rfl), anyI_any]
        cases (List.range w.names.toNat).any fun n => nameB w n && !(rootedB w n) <;> rfl
  · have h0 : sizesB w = false := by simpa using h0
    unfold rightB shapedB
    rw [h0]; rfl
theorem name_law {F : Nat} (hF : 1000 ≤ F) {w : WeighWorld} (sm : Small w) (sh : Shp w) (n : Int) : (((homesL w n).length : Int) == 1) = ((rootsOf w n).1 == 1) ∧ ((homesL w n).length = 1 → homesL w n = [(rootsOf w n).2]) := by
  obtain ⟨h1, h2⟩ := root_fold sh n
  unfold rootsOf
  refine ⟨by rw [h1], fun hl => ?_⟩
  obtain ⟨h, hh⟩ := List.length_eq_one_iff.1 hl
  rw [h2 h hh]; exact hh
theorem fine_eq {F : Nat} (hF : 1000 ≤ F) {w : WeighWorld} (sm : Small w) : f54L F w = some (rightB w) := by
  unfold f54L
  have hf := sm.freed
  have hc := sm.cells
  have hn := sm.notes
  have e0 : ((((((decide ((w.cells.length : Int) < 1)) || (decide ((w.cells.length : Int) > 6))) || (decide (w.names < 0))) || (decide (w.names > 12))) || (decide ((w.notes.length : Int) > 80))) || (decide ((w.freed.length : Int) > w.names))) = !(sizesB w) := by
    unfold sizesB
    rw [Bool.eq_iff_iff]
    simp only [Bool.or_eq_true, decide_eq_true_eq, Bool.not_eq_true', ← Bool.not_eq_true, Bool.and_eq_true]
    omega
  rw [e0]
  cases h0 : sizesB w
  · unfold rightB shapedB; rw [h0]; rfl
  · have h0' := h0
    unfold sizesB at h0'
    simp only [Bool.and_eq_true, decide_eq_true_eq] at h0'
    have en : ((w.names.toNat : Nat) : Int) = w.names := by omega
    simp only [Bool.not_true, cond_false]
    refine (loop_list w.freed (fun v (_ : Unit) => v) (f54_b0 F w) (fun k x s next => bif freedBad w k x then some false else next ()) (fun _ => bif rowsB w && notesB w then some (!((List.range w.names.toNat).any fun n => nameB w n && !(rootedB w n))) else some false) (by omega) (fun k y s next hy hk => ?_) (fun s next => ?_) (by omega) ()).trans ?_
    · have hk' : k < w.freed.length := by omega
      simp only [f54_b0, geti_nat, hy, hk, decide_true, cond_true, Option.bind_some, gd_prev _ hk' (by omega)]
      unfold freedBad
      have a1 : decide (y < 0) = !decide (0 ≤ y) := by rw [← decide_not]; exact decide_eq_decide.2 (by omega)
      have a2 : decide (y ≥ w.names) = !decide (y < w.names) := by rw [← decide_not]; exact decide_eq_decide.2 (by omega)
      rw [a1, a2]
      cases decide (0 ≤ y) <;> cases decide (y < w.names) <;> cases decide ((k : Int) > 0) <;> rfl
    · simp only [f54_b0]
      rw [decide_eq_false (by omega), cond_false, formed_eq hF sm _ rfl rfl rfl, Option.bind_some]
      cases hr : rowsB w && notesB w
      · rfl
      · simp only [Bool.not_true, cond_false, cond_true]
        rw [Bool.and_eq_true] at hr
        have sh := shp_of h0 hr.1 hr.2
        obtain ⟨cs, q1, q2⟩ := open_eq hF sm sh
        have so : StOf w ⟨(w.cells.length : Int), w.names, cs, w.notes, w.freed⟩ := ⟨rfl, rfl, rfl, rfl, q2⟩
        rw [q1, Option.bind_some, acc_run hF sm sh so, Option.bind_some]
        generalize hst : (⟨(w.cells.length : Int), w.names, cs, w.notes, w.freed⟩ : Store) = st at so
        refine (loop_range w.names.toNat (fun v (_ : Unit) => v) (f54_b1 F st (accL w)) (fun n s next => bif nameB w n && !(rootedB w n) then some false else next ()) (fun _ => some true) (by omega) (fun n s next hnn => ?_) (fun s next => ?_) (by omega) ()).trans ?_
        · have hnn' : (n : Int) < w.names := by omega
          simp only [f54_b1, so.n]
          rw [decide_eq_true hnn', cond_true, name_prog hF sm st so.n so.freed, Option.bind_some]
          cases nameB w n
          · rfl
          · simp only [Bool.not_true, cond_false, Bool.true_and]
            rw [homes_prog hF sm sh so hnn', Option.bind_some]
            obtain ⟨n1, n2⟩ := name_law hF sm sh (n : Int)
            have e5 : (((homesL w n).length : Int) != 1) = !((rootsOf w n).1 == 1) := by rw [← n1]; rfl
            rw [e5, Bool.not_not]
            unfold rootedB
            cases h1 : (rootsOf w n).1 == 1
            · simp only [gd_false, Option.bind_some, Bool.not_false, Bool.true_or, cond_true, Bool.false_and, Bool.and_false]
            · rw [h1] at n1
              have hl : (homesL w n).length = 1 := by
                have := eq_of_beq n1; omega
              rw [n2 hl]
              have eg : geti [(rootsOf w n).2] 0 = some (rootsOf w n).2 := rfl
              simp only [gd_true, eg, Option.bind_some, leads_prog hF sm sh so, Bool.not_true, Bool.false_or, Bool.true_and]
              cases leadsAll w n (rootsOf w n).2
              · simp only [Bool.not_false, cond_true, Bool.and_false]
              · simp only [Bool.not_true, cond_false, Bool.and_true, Bool.not_not]
                refine (loop_range w.cells.length (fun v (_ : Unit) => v) (f54_b2 st (accL w) n next) (fun m s nx => bif badM w n m then some false else nx ()) (fun _ => next (w64 ((n : Int) + 1))) (by omega) (fun m s nx hm => ?_) (fun s nx => ?_) (by omega) ()).trans ?_
                · simp only [f54_b2, so.m]
                  obtain ⟨g1, g2⟩ := acc_val sh hm hnn'
                  rw [decide_eq_true (by omega), cond_true]
                  have p1 : pget (accL w).1 ⟨(m : Int), (n : Int)⟩ 0 = some (givenOf w m n) := by rw [← g1]; rfl
                  have p2 : pget (accL w).2 ⟨(m : Int), (n : Int)⟩ 0 = some (heldOf w m n) := by rw [← g2]; rfl
                  simp only [p1, p2, Option.bind_some, gd_of]
                  unfold badM
                  cases givenOf w m n != heldOf w m n <;> rfl
                · simp only [f54_b2, so.m, f54_j0]
                  rw [decide_eq_false (by omega), cond_false]
                · rw [iter_any (r := some false) (fun _ m => badM w n m) (fun _ _ _ _ => rfl), anyI_any]
        · simp only [f54_b1, so.n]
          rw [decide_eq_false (by omega), cond_false]
        · rw [iter_any (r := some false) (fun _ (n : Nat) => nameB w n && !(rootedB w n)) (fun _ _ _ _ => rfl), anyI_any]
          cases (List.range w.names.toNat).any fun n => nameB w n && !(rootedB w n) <;> rfl
    · rw [iter_any (r := some false) (freedBad w) (fun k _ _ _ => by rw [Nat.zero_add])]
      unfold rightB shapedB
      rw [h0]
      cases anyI (freedBad w) 0 w.freed
      · cases rowsB w && notesB w <;> rfl
      · rfl
end
end Go.Proofs.Ytekpjgmhkkjhgaa
end
section
set_option linter.unusedVariables false
namespace Go.Proofs.Ytekpjgmhkkjhgaa
open Go.Lf
theorem nest {α β : Type} {F N K : Nat} (hF : 1000 ≤ F) (hN : N ≤ 6) (hK : K ≤ 12) {body0 : List α × Int → (List α × Int → Option β) → Option β} {body1 : Int → (List α × Int → Option β) → List α × Int → (List α × Int → Option β) → Option β}
    (add : Nat → Nat → List α → List α) (hadd : ∀ m n s, (add m n s).length ≤ s.length + 1) (d : List α → Option β)
    (h0 : ∀ (m : Nat) s next, m < N → body0 (s, (m : Int)) next = loop F (body1 m next) (s, 0))
    (h0e : ∀ s next, body0 (s, (N : Int)) next = d s)
    (h1 : ∀ (m : Nat) next (n : Nat) s nx, m < N → n < K → s.length < 100 → body1 m next (s, (n : Int)) nx = nx (add m n s, w64 ((n : Int) + 1)))
    (h1e : ∀ (m : Nat) next s nx, m < N → body1 m next (s, (K : Int)) nx = next (s, w64 ((m : Int) + 1))) :
    loop F body0 ([], 0) = d ((List.range N).foldl (fun s m => (List.range K).foldl (fun s n => add m n s) s) []) ∧ ((List.range N).foldl (fun s m => (List.range K).foldl (fun s n => add m n s) s) []).length ≤ 72 := by
  have inner : ∀ (k n F' m : Nat) next s, m < N → n + k = K → k < F' → s.length ≤ m * K + n → loop F' (body1 m next) (s, (n : Int)) = next ((List.range' n k).foldl (fun s n => add m n s) s, w64 ((m : Int) + 1)) ∧ ((List.range' n k).foldl (fun s n => add m n s) s).length ≤ (m + 1) * K := by
    intro k
    induction k with
    | zero =>
      intro n F' m next s hm hn hF' hs
      obtain ⟨F', rfl⟩ := Nat.exists_eq_succ_of_ne_zero (n := F') (by omega)
      have : n = K := by omega
      subst this
      rw [loop_succ, h1e m next s _ hm]
      exact ⟨rfl, by rw [Nat.add_mul, Nat.one_mul]; exact hs⟩
    | succ k ih =>
      intro n F' m next s hm hn hF' hs
      obtain ⟨F', rfl⟩ := Nat.exists_eq_succ_of_ne_zero (n := F') (by omega)
      have hb := Nat.mul_le_mul (show m ≤ 5 by omega) hK
      rw [loop_succ, h1 m next n s _ hm (by omega) (by omega), w64_succ (by omega), List.range'_succ, List.foldl_cons]
      have := hadd m n s
      exact ih (n + 1) F' m next _ hm (by omega) (by omega) (by omega)
  have outer : ∀ (k m F' : Nat) s, m + k = N → k < F' → s.length ≤ m * K → loop F' body0 (s, (m : Int)) = d ((List.range' m k).foldl (fun s m => (List.range K).foldl (fun s n => add m n s) s) s) ∧ ((List.range' m k).foldl (fun s m => (List.range K).foldl (fun s n => add m n s) s) s).length ≤ N * K := by
    intro k
    induction k with
    | zero =>
      intro m F' s hm hF' hs
      obtain ⟨F', rfl⟩ := Nat.exists_eq_succ_of_ne_zero (n := F') (by omega)
      have : m = N := by omega
      subst this
      rw [loop_succ, h0e]
      exact ⟨rfl, hs⟩
    | succ k ih =>
      intro m F' s hm hF' hs
      obtain ⟨F', rfl⟩ := Nat.exists_eq_succ_of_ne_zero (n := F') (by omega)
      obtain ⟨i1, i2⟩ := inner K 0 F m (loop F' body0) s (by omega) (by omega) (by omega) (by omega)
      rw [loop_succ, h0 m s _ (by omega)]
      rw [← List.range_eq_range'] at i1 i2
      have e : ((0 : Nat) : Int) = 0 := rfl
      rw [e] at i1
      rw [i1, w64_succ (by omega), List.range'_succ, List.foldl_cons]
      exact ih (m + 1) F' _ (by omega) (by omega) i2
  obtain ⟨o1, o2⟩ := outer N 0 F [] (by omega) (by omega) (by simp)
  rw [← List.range_eq_range'] at o1 o2
  exact ⟨o1, Nat.le_trans o2 (Nat.mul_le_mul hN hK)⟩
def addS (w : WeighWorld) (m n : Nat) (s : List WeighSum) : List WeighSum := bif (givenOf w m n != 0) || (heldOf w m n != 0) then s ++ [⟨m, n, givenOf w m n, heldOf w m n⟩] else s
def sumsL (w : WeighWorld) : List WeighSum := (List.range w.cells.length).foldl (fun s m => (List.range w.names.toNat).foldl (fun s n => addS w m n s) s) []
theorem addS_len (w : WeighWorld) (m n : Nat) (s : List WeighSum) : (addS w m n s).length ≤ s.length + 1 := by
  unfold addS
  cases (givenOf w m n != 0) || (heldOf w m n != 0) <;> simp
theorem rightB_shp {w : WeighWorld} (h : rightB w = true) : Shp w := by
  unfold rightB at h
  rw [Bool.and_eq_true] at h
  exact shapedB_shp h.1
def sayCell (w : WeighWorld) (n : Int) (m : Nat) (s : List Int) : List Int := match cellOf w m n with | some c => bif c.use then s ++ [(m : Int)] else s | none => s
def sayNote (n : Int) (k : Nat) (x : WeighNote) (s : List Int) : List Int := bif (x.kind == 1) && (x.name == n) then s ++ [(k : Int)] else s
def saysC (w : WeighWorld) (n : Int) : List Int := (List.range w.cells.length).foldl (fun s m => sayCell w n m s) []
def saysN (w : WeighWorld) (n : Int) : List Int := foldI (sayNote n) 0 w.notes []
section
theorem sums_ref {F : Nat} (hF : 1000 ≤ F) {w : WeighWorld} (sm : Small w) : f26L F w = some (bif rightB w then (sumsL w, 0) else ([], 2)) := by
  unfold f26L
  rw [right_eq hF sm, Option.bind_some]
  cases hr : rightB w
  · rfl
  · have sh := rightB_shp hr
    have := sh.n0
    have := sh.n12
    have en : ((w.names.toNat : Nat) : Int) = w.names := by omega
    simp only [Bool.not_true, cond_false, cond_true]
    refine (nest (F := F) (N := w.cells.length) (K := w.names.toNat) hF sh.c6 (by omega) (body0 := f26_b0 F w) (body1 := f26_b1 F w) (addS w) (addS_len w) (fun s => some (s, 0)) (fun m s next hm => ?_) (fun s next => ?_) (fun m next n s nx hm hn hs => ?_) (fun m next s nx hm => ?_)).1
    · simp only [f26_b0]; rw [decide_eq_true (by omega), cond_true]
    · simp only [f26_b0]; rw [decide_eq_false (by omega), cond_false]
    · simp only [f26_b1]
      rw [decide_eq_true (by omega), cond_true, given_eq hF sm hm, held_eq hF sm]
      simp only [Option.bind_some, f26_j0, addS]
      cases (givenOf w m n != 0) || (heldOf w m n != 0)
      · rfl
      · simp only [cond_true]
        rw [app_ok (by simp; omega) (by decide)]; rfl
    · simp only [f26_b1]; rw [decide_eq_false (by omega), cond_false]
theorem sums_prog {F : Nat} (hF : 1000 ≤ F) {w : WeighWorld} (sm : Small w) : f25L F w = some (bif rightB w then (sumsL w, 0) else ([], 2)) := by
  unfold f25L
  rw [fine_eq hF sm, Option.bind_some]
  cases hr : rightB w
  · rfl
  · have sh := rightB_shp hr
    have := sh.n0
    have := sh.n12
    have en : ((w.names.toNat : Nat) : Int) = w.names := by omega
    simp only [Bool.not_true, cond_false, cond_true]
    obtain ⟨cs, q1, q2⟩ := open_eq hF sm sh
    have so : StOf w ⟨(w.cells.length : Int), w.names, cs, w.notes, w.freed⟩ := ⟨rfl, rfl, rfl, rfl, q2⟩
    rw [q1, Option.bind_some, acc_run hF sm sh so, Option.bind_some]
    refine (nest (F := F) (N := w.cells.length) (K := w.names.toNat) hF sh.c6 (by omega) (body0 := f25_b0 F w (accL w)) (body1 := f25_b1 w (accL w)) (addS w) (addS_len w) (fun s => some (s, 0)) (fun m s next hm => ?_) (fun s next => ?_) (fun m next n s nx hm hn hs => ?_) (fun m next s nx hm => ?_)).1
    · simp only [f25_b0]; rw [decide_eq_true (by omega), cond_true]
    · simp only [f25_b0]; rw [decide_eq_false (by omega), cond_false]
    · have hnn' : (n : Int) < w.names := by omega
      obtain ⟨g1, g2⟩ := acc_val sh hm hnn'
      have p1 : pget (accL w).1 ⟨(m : Int), (n : Int)⟩ 0 = some (givenOf w m n) := by rw [← g1]; rfl
      have p2 : pget (accL w).2 ⟨(m : Int), (n : Int)⟩ 0 = some (heldOf w m n) := by rw [← g2]; rfl
      simp only [f25_b1]
      rw [decide_eq_true hnn', cond_true]
      simp only [p1, p2, Option.bind_some, gd_of, f25_j0, addS]
      cases h1 : (givenOf w m n != 0)
      · simp only [Bool.not_false, cond_true, Bool.false_or]
        cases (heldOf w m n != 0)
        · rfl
        · simp only [cond_true]
          rw [app_ok (by simp; omega) (by decide)]; rfl
      · simp only [Bool.true_or, cond_true]
        rw [app_ok (by simp; omega) (by decide)]; rfl
    · simp only [f25_b1]; rw [decide_eq_false (by omega), cond_false]
theorem says_ref {F : Nat} (hF : 1000 ≤ F) {w : WeighWorld} (sm : Small w) (n : Int) : f28L F w n = some (bif rightB w && (decide (0 ≤ n) && decide (n < w.names)) then (saysC w n, saysN w n, 0) else ([], [], 2)) := by
  unfold f28L
  rw [right_eq hF sm, Option.bind_some]
  cases hr : rightB w
  · rfl
  · have sh := rightB_shp hr
    have := sh.n0
    have := sh.n12
    have h6 := sh.c6
    have h80 := sh.notes
    rw [in_lt _ _ (by omega) (by omega)]
    simp only [Bool.not_true, Bool.not_false, gd_true, Option.bind_some, Bool.false_or, Bool.true_and]
    cases hb : (decide (0 ≤ n) && decide (n < w.names))
    · rfl
    · simp only [Bool.not_true, cond_false, cond_true]
      have notes : ∀ s : List Int, loop F (f28_b1 w n s) ([], 0) = some (s, saysN w n, 0) := by
        intro s
        refine (loop_list w.notes (fun v (q : List Int) => (q, v)) (f28_b1 w n s) (fun k x q next => bif (x.kind == 1) && (x.name == n) then (app 8 q [(k : Int)]).bind next else next q) (fun q => some (s, q, 0)) (by omega) (fun k y q next hy hk => ?_) (fun q next => ?_) (by omega) []).trans ?_
        · simp only [f28_b1, geti_nat, hy, hk, decide_true, cond_true, Option.bind_some, f28_j1]
          cases y.kind == 1 <;> rfl
        · simp only [f28_b1]; rw [decide_eq_false (by omega), cond_false]
        · rw [(iter_fold (sayNote n) (fun k (q : List Int) => q.length ≤ k) (by simp) (fun k x q next hx hq => by
            have := (List.getElem?_eq_some_iff.1 hx).1
            unfold sayNote
            cases (x.kind == 1) && (x.name == n)
            · exact ⟨rfl, by simp; omega⟩
            · simp only [cond_true]
              rw [app_ok (by simp; omega) (by decide), Nat.zero_add]
              exact ⟨rfl, by simp; omega⟩)).1]
          rfl
      refine (loop_range w.cells.length (fun v (q : List Int) => (q, v)) (f28_b0 F w n) (fun m q next => match cellOf w m n with | some c => bif c.use then (app 8 q [(m : Int)]).bind next else next q | none => next q) (fun q => some (q, saysN w n, 0)) (by omega) (fun m q next hm => ?_) (fun q next => ?_) (by omega) []).trans ?_
      · simp only [f28_b0]
        rw [decide_eq_true (by omega), cond_true]
        rcases find_eq hF sm hm n with ⟨j, c, q1, q2, q3⟩ | ⟨q1, q3⟩
        · have e1 : decide ((j : Int) ≥ 0) = true := by simp
          simp only [q3, q1, Option.bind_some, e1, gd_true, geti_nat, rowOf_some hm, q2, Bool.true_and, f28_j0]
        · simp only [q3, q1, Option.bind_some]
          rfl
      · simp only [f28_b0]; rw [decide_eq_false (by omega), cond_false, notes]
      · rw [(iter_fold (fun _ m q => sayCell w n m q) (fun k (q : List Int) => q.length ≤ k) (by simp) (fun k m q next hx hq => by
          have := (List.getElem?_eq_some_iff.1 hx).1
          rw [List.length_range] at this
          unfold sayCell
          cases cellOf w m n with
          | none => exact ⟨rfl, by simp; omega⟩
          | some c =>
            dsimp only
            cases c.use
            · exact ⟨rfl, by simp; omega⟩
            · simp only [cond_true]
              rw [app_ok (by simp; omega) (by decide)]
              exact ⟨rfl, by simp; omega⟩)).1, foldI_foldl]
        rfl
theorem says_prog {F : Nat} (hF : 1000 ≤ F) {w : WeighWorld} (sm : Small w) (n : Int) : f27L F w n = some (bif rightB w && (decide (0 ≤ n) && decide (n < w.names)) then (saysC w n, saysN w n, 0) else ([], [], 2)) := by
  unfold f27L
  rw [fine_eq hF sm, Option.bind_some]
  have a1 : decide (n < 0) = !decide (0 ≤ n) := by rw [← decide_not]; exact decide_eq_decide.2 (by omega)
  have a2 : decide (n ≥ w.names) = !decide (n < w.names) := by rw [← decide_not]; exact decide_eq_decide.2 (by omega)
  rw [a1, a2]
  cases hr : rightB w
  · rfl
  · cases hb : (decide (0 ≤ n) && decide (n < w.names))
    · cases h1 : decide (0 ≤ n)
      · rfl
      · rw [h1, Bool.true_and] at hb
        rw [hb]; rfl
    · have hb' := hb
      rw [Bool.and_eq_true] at hb
      rw [hb.1, hb.2]
      simp only [decide_eq_true_eq] at hb
      have sh := rightB_shp hr
      have := sh.n0
      have := sh.n12
      have h6 := sh.c6
      have h80 := sh.notes
      simp only [Bool.not_true, Bool.or_self, cond_false, Bool.and_self, cond_true]
      obtain ⟨cs, q1, q2⟩ := open_eq hF sm sh
      have so : StOf w ⟨(w.cells.length : Int), w.names, cs, w.notes, w.freed⟩ := ⟨rfl, rfl, rfl, rfl, q2⟩
      rw [q1, Option.bind_some]
      let y' : Int → WeighCell → List Int → List Int := fun a c s => bif (c.name == n) && c.use then s ++ [a] else s
      obtain ⟨h1, h2⟩ := all_eq hF sm sh so (fun i (s : List Int) => s.length ≤ i) (fun i s h => Nat.le_succ_of_le h) (f27_y0 n) y' (fun i a c s hi hs => by
        unfold f27_y0
        simp only [y']
        cases ((c.name == n) && c.use)
        · exact ⟨rfl, Nat.le_succ_of_le hs⟩
        · simp only [cond_true]
          rw [app_ok (by simp; omega) (by decide)]
          exact ⟨rfl, by simp; omega⟩) [] (Nat.le_refl _)
      rw [h1]
      have e : (List.range w.cells.length).foldl (fun s (m : Nat) => (List.range w.names.toNat).foldl (fun s n => stepC w y' m n s) s) [] = saysC w n := by
        unfold saysC
        refine fold_congr (fun s m hm => ?_) _
        have en : ((n.toNat : Nat) : Int) = n := by omega
        refine fold_one (V := id) (fun i s => stepC w y' m i s) (fun s => sayCell w n m s) (n := n.toNat) (N := w.names.toNat) (by omega) (fun i s hi hne => ?_) (fun s => ?_) s
        · simp only [id, stepC]
          cases hc : cellOf w m i with
          | none => rfl
          | some c =>
            have := cellOf_name hc
            have hb : (c.name == n) = false := by rw [this]; simp; omega
            simp only [y', hb]; rfl
        · simp only [id, stepC, sayCell]
          rw [en]
          cases hc : cellOf w m n with
          | none => rfl
          | some c =>
            have := cellOf_name hc
            have hb : (c.name == n) = true := by rw [this]; simp
            simp only [y', hb]; rfl
      rw [e, Option.bind_some]
      refine (loop_list w.notes (fun v (q : List Int) => (q, v)) (f27_b0 w n (saysC w n)) (fun k x q next => bif (x.kind == 1) && (x.name == n) then (app 8 q [(k : Int)]).bind next else next q) (fun q => some (saysC w n, q, 0)) (by omega) (fun k y q next hy hk => ?_) (fun q next => ?_) (by omega) []).trans ?_
      · simp only [f27_b0, geti_nat, hy, hk, decide_true, cond_true, Option.bind_some, f27_j0]
      · simp only [f27_b0]; rw [decide_eq_false (by omega), cond_false]
      · rw [(iter_fold (sayNote n) (fun k (q : List Int) => q.length ≤ k) (by simp) (fun k x q next hx hq => by
          have := (List.getElem?_eq_some_iff.1 hx).1
          unfold sayNote
          cases (x.kind == 1) && (x.name == n)
          · exact ⟨rfl, by simp; omega⟩
          · simp only [cond_true]
            rw [app_ok (by simp; omega) (by decide), Nat.zero_add]
            exact ⟨rfl, by simp; omega⟩)).1]
        rfl
end
theorem same_sums {F : Nat} {l : List WeighSum} (hl : l.length < F) (hl2 : l.length < 1000) : f29L F l l = some true := by
  unfold f29L
  have : ((l.length : Int) != (l.length : Int)) = false := by simp
  rw [this, cond_false]
  refine (loop_list l (fun v (_ : Unit) => v) (f29_b0 l l) (fun _ _ _ next => next ()) (fun _ => some true) (by omega) (fun k y q next hy hk => ?_) (fun q next => ?_) hl ()).trans ?_
  · simp only [f29_b0, geti_nat, hy, hk, decide_true, cond_true, Option.bind_some]
    have : eqWeighSum y y = true := by simp [eqWeighSum]
    rw [this]; rfl
  · simp only [f29_b0]; rw [decide_eq_false (by omega), cond_false]
  · rw [(iter_fold (fun _ _ s => s) (fun _ _ => True) trivial (fun _ _ _ _ _ _ => ⟨rfl, trivial⟩)).1]
theorem same_list {F : Nat} {l : List Int} (hl : l.length < F) (hl2 : l.length < 1000) : f30L F l l = some true := by
  unfold f30L
  have : ((l.length : Int) != (l.length : Int)) = false := by simp
  rw [this, cond_false]
  refine (loop_list l (fun v (_ : Unit) => v) (f30_b0 l l) (fun _ _ _ next => next ()) (fun _ => some true) (by omega) (fun k y q next hy hk => ?_) (fun q next => ?_) hl ()).trans ?_
  · simp only [f30_b0, geti_nat, hy, hk, decide_true, cond_true, Option.bind_some]
    have : (y != y) = false := by simp
    rw [this]; rfl
  · simp only [f30_b0]; rw [decide_eq_false (by omega), cond_false]
  · rw [(iter_fold (fun _ _ s => s) (fun _ _ => True) trivial (fun _ _ _ _ _ _ => ⟨rfl, trivial⟩)).1]
theorem large_eq {F : Nat} (hF : 1000 ≤ F) (w : WeighWorld) : ∃ b, f13L F w = some b ∧ (b = false → Small w) := by
  unfold f13L
  cases h : ((decide ((w.cells.length : Int) > 10)) || (decide ((w.notes.length : Int) > 100))) || (decide ((w.freed.length : Int) > 30))
  · have h' := h
    simp only [Bool.or_eq_false_iff, decide_eq_false_iff_not] at h'
    refine ⟨w.cells.any fun r => decide ((r.length : Int) > 30), ?_, fun hb => ⟨by omega, fun r hr => ?_, by omega, by omega⟩⟩
    · rw [cond_false]
      refine (loop_list w.cells (fun v (_ : Unit) => v) (f13_b0 w) (fun _ r _ next => bif decide ((r.length : Int) > 30) then some true else next ()) (fun _ => some false) (by omega) (fun k y q next hy hk => ?_) (fun q next => ?_) (by omega) ()).trans ?_
      · simp only [f13_b0, geti_nat, hy, hk, decide_true, cond_true, Option.bind_some]
      · simp only [f13_b0]; rw [decide_eq_false (by omega), cond_false]
      · rw [iter_any (r := some true) (fun _ (r : List WeighCell) => decide ((r.length : Int) > 30)) (fun _ _ _ _ => rfl), anyI_any]
        cases w.cells.any fun r => decide ((r.length : Int) > 30) <;> rfl
    · rw [List.any_eq_false] at hb
      have := hb r hr
      simp at this; omega
  · exact ⟨true, rfl, fun h => by cases h⟩
theorem saysC_len (w : WeighWorld) (n : Int) : (saysC w n).length ≤ w.cells.length := by
  have := homes_len (fun s m => sayCell w n m s) (fun s m => by
    unfold sayCell
    cases cellOf w m n with
    | none => simp
    | some c => dsimp only; cases c.use <;> simp) (List.range w.cells.length) []
  rw [List.length_range, List.length_nil, Nat.zero_add] at this
  exact this
theorem saysN_len (n : Int) : ∀ (l : List WeighNote) (i : Nat) (s : List Int), (foldI (sayNote n) i l s).length ≤ s.length + l.length
  | [], _, _ => by simp [foldI]
  | x :: l, i, s => by
    unfold foldI
    have := saysN_len n l (i + 1) (sayNote n i x s)
    have h2 : (sayNote n i x s).length ≤ s.length + 1 := by
      unfold sayNote
      cases (x.kind == 1) && (x.name == n) <;> simp
    simp only [List.length_cons]; omega
theorem foldl_len {α τ : Type} (k : Nat) (f : List τ → α → List τ) (hf : ∀ s x, (f s x).length ≤ s.length + k) (l : List α) (s : List τ) : (l.foldl f s).length ≤ s.length + l.length * k := by
  induction l generalizing s with
  | nil => simp
  | cons x l ih =>
    rw [List.foldl_cons]
    have := ih (f s x)
    have := hf s x
    rw [List.length_cons, Nat.add_mul, Nat.one_mul]
    omega
theorem sumsL_len {w : WeighWorld} (sh : Shp w) : (sumsL w).length ≤ 72 := by
  have := foldl_len w.names.toNat (fun s m => (List.range w.names.toNat).foldl (fun s n => addS w m n s) s) (fun s m => by
    have := foldl_len 1 (fun s n => addS w m n s) (fun s n => addS_len w m n s) (List.range w.names.toNat) s
    rw [List.length_range, Nat.mul_one] at this
    exact this) (List.range w.cells.length) []
  rw [List.length_range, List.length_nil, Nat.zero_add] at this
  exact Nat.le_trans this (Nat.mul_le_mul sh.c6 (show w.names.toNat ≤ 12 by have := sh.n12; have := sh.n0; omega))
theorem WeighSums_law (w : WeighWorld) (n : Int) : f5L 1000 w n = some true := by
  have hF : 1000 ≤ 1000 := Nat.le_refl _
  unfold f5L
  obtain ⟨b, h1, h2⟩ := large_eq hF w
  rw [h1, Option.bind_some]
  cases b
  · have sm := h2 rfl
    rw [cond_false, sums_prog hF sm, sums_ref hF sm, says_prog hF sm, says_ref hF sm]
    simp only [Option.bind_some]
    have hs : ∀ q : List WeighSum × Int, q = (bif rightB w then (sumsL w, 0) else ([], 2)) → f29L 1000 q.1 q.1 = some true := by
      intro q hq
      cases hr : rightB w <;> rw [hr] at hq <;> subst hq
      · exact same_sums (by show 0 < 1000; decide) (by show 0 < 1000; decide)
      · have := sumsL_len (rightB_shp hr)
        exact same_sums (by simp only [cond_true]; omega) (by simp only [cond_true]; omega)
    have hl : ∀ q : List Int × List Int × Int, q = (bif rightB w && (decide (0 ≤ n) && decide (n < w.names)) then (saysC w n, saysN w n, 0) else ([], [], 2)) → f30L 1000 q.1 q.1 = some true ∧ f30L 1000 q.2.1 q.2.1 = some true := by
      intro q hq
      have l1 := saysC_len w n
      have l2 := saysN_len n w.notes 0 []
      have := sm.cells
      have := sm.notes
      simp only [List.length_nil, Nat.zero_add] at l2
      cases hr : rightB w && (decide (0 ≤ n) && decide (n < w.names)) <;> rw [hr] at hq <;> subst hq
      · exact ⟨same_list (by show 0 < 1000; decide) (by show 0 < 1000; decide), same_list (by show 0 < 1000; decide) (by show 0 < 1000; decide)⟩
      · have e : (saysN w n).length ≤ w.notes.length := l2
        exact ⟨same_list (by simp only [cond_true]; omega) (by simp only [cond_true]; omega), same_list (by simp only [cond_true]; omega) (by simp only [cond_true]; omega)⟩
    generalize hq : (bif rightB w then (sumsL w, 0) else ([], 2) : List WeighSum × Int) = q
    generalize hp : (bif rightB w && (decide (0 ≤ n) && decide (n < w.names)) then (saysC w n, saysN w n, 0) else ([], [], 2) : List Int × List Int × Int) = p
    obtain ⟨p1, p2⟩ := hl p hp.symm
    rw [hs q hq.symm]
    simp only [Option.bind_some, beq_self_eq_true, Bool.and_self, gd_true, p1, p2, f14L]
  · rfl
end Go.Proofs.Ytekpjgmhkkjhgaa
end
