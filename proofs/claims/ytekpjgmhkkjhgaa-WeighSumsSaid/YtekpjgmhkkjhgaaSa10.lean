/- WeighSums returns true, whatever the world and the name. No condition. Part 10 of the proof. -/
import Derived.Test.YtekpjgmhkkjhgaaSa9
section
set_option linter.unusedVariables false
set_option linter.unusedSimpArgs false
set_option maxRecDepth 20000
noncomputable section
namespace Go.Proofs.Ytekpjgmhkkjhgaa
open Go.Abs Go.Lf
theorem f29_wf {F : Nat} {wm : Nat} {h : H} {p0 : (List WeighSum)} {p1 : (List WeighSum)} {a1 : Option Addr} {c2 : Nat} {a3 : Option Addr} {c4 : Nat} {r : Bool} (hwm : wm ≤ h.size) (hsa1 : Sl rWeighSum wm h a1 c2 p0) (hsa3 : Sl rWeighSum wm h a3 c4 p1) (hL : f29L F p0 p1 = some r) :
    WR XX 29 #[.slice a1 p0.length c2, .slice a3 p1.length c4] wm h (fun v _ => v = .bool r) := by
  refine WF.begin (args := [_, _]) (fn := Try.f29) (by kernel_rfl) (by exact rfl) Try.ntmps29 (by simp) ?_
  simp only [frameOf_cons, frameOf_nil, Nat.reduceAdd]
  have hG : Grow h h := Grow.refl h
  unfold f29L at hL
  refine WC.seq ?_
  refine WC.region ?_
  refine WO.as gN rfl (evC rfl) ?_
  refine WO.nil ?_
  refine SeqK.nrm ?_
  refine WC.seq ?_
  refine WC.seq ?_
  refine WC.region ?_
  refine WO.mv gN rfl (evT (fs2 rfl fh) rfl) ?_
  refine WO.len gN rfl und43 (evT fh rfl) ?_
  refine WO.mv gN rfl (evT (fs2 rfl (fskip rfl fh)) rfl) ?_
  refine WO.len gN rfl und43 (evT fh rfl) ?_
  refine WO.bin gN rfl (evT (fs2 rfl fh) rfl) (evT fh rfl) abin_neq ?_
  refine WO.nil ?_
  refine SeqK.nrm ?_
  refine WC.condN (evT fh rfl) (fun hc => ?_) (fun hc => ?_)
  · replace hL := cond_tt hc hL
    refine WC.seq ?_
    refine WC.region ?_
    refine WO.as gN rfl (evC rfl) ?_
    refine WO.nil ?_
    refine SeqK.nrm ?_
    refine WC.ret ?_
    refine SeqK.ret ?_
    have hr := Option.some.inj hL
    subst hr
    exact RetK.gen1 rfl (ares_tmp (evT fh rfl) ares_nil) rfl
  · replace hL := cond_ff hc hL
    refine WC.skip ?_
    refine SeqK.nrm ?_
    refine WC.seq ?_
    refine WC.seq ?_
    refine WC.region ?_
    refine WO.as gN rfl (evC rfl) ?_
    refine WO.nil ?_
    refine SeqK.nrm ?_
    refine WC.block ?_
    refine WC.loop (WL.lift hL (fun (v9 : Int) (s : Fs) => ∃ (fr6 : Fr) (h5 : H), s = ⟨fr6, [], h5, none⟩ ∧ Grow h h5 ∧ fr6.at 0 = .slice a1 p0.length c2 ∧ fr6.at 1 = .slice a3 p1.length c4 ∧ fr6.at 5 = .int .i64 v9 ∧ Sl rWeighSum wm h5 a1 c2 p0 ∧ Sl rWeighSum wm h5 a3 c4 p1) ⟨_, _, rfl, hG, (fs8 rfl fh), (fs4 rfl (fs2 rfl (fskip rfl fh))), fh, hsa1, hsa3⟩ ?_)
    clear hL
    rintro next13 v9 s hnext13 hL ⟨fr6, h5, rfl, hG, e7, e8, e10, hs11, hs12⟩
    dsimp only [f29_b0] at hL
    refine WC.seq ?_
    refine WC.seq ?_
    refine WC.region ?_
    refine WO.mv gN rfl (evT e10 rfl) ?_
    refine WO.mv gN rfl (evT (fskip rfl e7) rfl) ?_
    refine WO.len gN rfl und43 (evT fh rfl) ?_
    refine WO.bin gN rfl (evT (fs2 rfl fh) rfl) (evT fh rfl) abin_lss ?_
    refine WO.nil ?_
    refine SeqK.nrm ?_
    refine WC.condN (evT fh rfl) (fun hc => ?_) (fun hc => ?_)
    · replace hL := cond_tt hc hL
      refine WC.skip ?_
      refine SeqK.nrm ?_
      refine WC.seq ?_
      refine WC.block ?_
      refine WC.seq ?_
      refine WC.drawQ mixed (by kernel_rfl) ?_
      refine WQ.mv gN rfl (evT (fs4 rfl e7) rfl) ?_
      refine WQ.mv gN rfl (evT (fs4 rfl (fskip rfl e10)) rfl) ?_
      obtain ⟨x14, hx14, hL⟩ := bind_some hL
      obtain ⟨b15, o16, _, hab15, hAb15, hSb15, hFb15⟩ := Sl.at_ hs11 hx14
      refine WQ.ix gN rfl und43 size91 (evT (fskip rfl fh) rfl) (evT fh rfl) hab15 hx14 ?_
      refine WQ.ldA gN rfl agg91 size91 (evT fh rfl) hAb15 (j := 0) rfl rfl (ws := [.int .i64 x14.at_, .int .i64 x14.name, .int .i64 x14.out, .int .i64 x14.held]) rfl ?_
      refine WQ.mv gN rfl (evT (fs8 rfl e8) rfl) ?_
      refine WQ.mv gN rfl (evT (fs8 rfl (fskip rfl e10)) rfl) ?_
      obtain ⟨x17, hx17, hL⟩ := bind_some hL
      obtain ⟨b18, o19, _, hab18, hAb18, hSb18, hFb18⟩ := Sl.at_ hs12 hx17
      refine WQ.ix gN rfl und43 size91 (evT (fskip rfl fh) rfl) (evT fh rfl) hab18 hx17 ?_
      refine WQ.ldA gN rfl agg91 size91 (evT fh rfl) hAb18 (j := 0) rfl rfl (ws := [.int .i64 x17.at_, .int .i64 x17.name, .int .i64 x17.out, .int .i64 x17.held]) rfl ?_
      refine WQ.bin gN rfl (evT (fs4 rfl fh) rfl) (evT fh rfl) (abin_neS (xs := [.int .i64 x14.at_, .int .i64 x14.name, .int .i64 x14.out, .int .i64 x14.held]) (ys := [.int .i64 x17.at_, .int .i64 x17.name, .int .i64 x17.out, .int .i64 x17.held]) (eqs91 x14 x17) rfl rfl) ?_
      refine WQ.nil ?_
      refine SeqK.nrm ?_
      refine WC.condN (evT fh rfl) (fun hc => ?_) (fun hc => ?_)
      · replace hL := cond_tt hc hL
        refine WC.seq ?_
        refine WC.region ?_
        refine WO.as gN rfl (evC rfl) ?_
        refine WO.nil ?_
        refine SeqK.nrm ?_
        refine WC.ret ?_
        refine BlkK.ret ?_
        refine SeqK.ret ?_
        refine LoopK.ret ?_
        refine BlkK.ret ?_
        refine SeqK.ret ?_
        have hr := Option.some.inj hL
        subst hr
        exact RetK.gen1 rfl (ares_tmp (evT fh rfl) ares_nil) rfl
      · replace hL := cond_ff hc hL
        refine WC.skip ?_
        refine BlkK.nrm ?_
        refine SeqK.nrm ?_
        refine WC.region ?_
        refine WO.mv gN rfl (evT (fs8 rfl (fs4 rfl (fskip rfl e10))) rfl) ?_
        refine WO.bin gN rfl (evT fh rfl) (evC rfl) abin_addw ?_
        refine WO.as gN rfl (evT fh rfl) ?_
        refine WO.nil ?_
        exact LoopK.nrm (hnext13 _ _ hL ⟨_, _, rfl, hG, (fs8 rfl (fs8 rfl e7)), (fs8 rfl (fs8 rfl e8)), fh, hs11, hs12⟩)
    · replace hL := cond_ff hc hL
      refine WC.exit ?_
      refine SeqK.exit ?_
      refine LoopK.exit ?_
      refine BlkK.here ?_
      refine SeqK.nrm ?_
      refine WC.seq ?_
      refine WC.region ?_
      refine WO.as gN rfl (evC rfl) ?_
      refine WO.nil ?_
      refine SeqK.nrm ?_
      refine WC.ret ?_
      have hr := Option.some.inj hL
      subst hr
      exact RetK.gen1 rfl (ares_tmp (evT fh rfl) ares_nil) rfl
theorem f29_ok {F : Nat} {h : H} {p0 : (List WeighSum)} {p1 : (List WeighSum)} {a1 : Option Addr} {c2 : Nat} {a3 : Option Addr} {c4 : Nat} {r : Bool} (hsa1 : Sl rWeighSum h.size h a1 c2 p0) (hsa3 : Sl rWeighSum h.size h a3 c4 p1) (hL : f29L F p0 p1 = some r) : Pure XX 29 #[.slice a1 p0.length c2, .slice a3 p1.length c4] h (.bool r) :=
  WF.pureR rfl (f29_wf (Nat.le_refl _) hsa1 hsa3 hL)
theorem f28_wf {F : Nat} {wm : Nat} {h : H} {p0 : WeighWorld} {p1 : Int} {a1 : Option Addr} {c2 : Nat} {a3 : Option Addr} {c4 : Nat} {a5 : Option Addr} {c6 : Nat} {r : ((List Int) × (List Int) × Int)} (hwm : wm ≤ h.size) (hsa1 : Sl (rSl rWeighCell) wm h a1 c2 p0.cells) (hsa3 : Sl rWeighNote wm h a3 c4 p0.notes) (hsa5 : Sl (rInt .i64) wm h a5 c6 p0.freed) (hL : f28L F p0 p1 = some r) :
    WR XX 28 #[.agg [.slice a1 p0.cells.length c2, .slice a3 p0.notes.length c4, .int .i64 p0.names, .slice a5 p0.freed.length c6].toArray, .int .i64 p1] wm h (fun v h' => ∃ (ra0_0 : Option Addr) (rc0_0 : Nat) (ra1_0 : Option Addr) (rc1_0 : Nat), v = .tuple [.slice ra0_0 r.1.length rc0_0, .slice ra1_0 r.2.1.length rc1_0, .int .i64 r.2.2].toArray ∧ Grow h h' ∧ OwnS (rInt .i64) wm h.size h' ra0_0 rc0_0 r.1 ∧ OwnS (rInt .i64) wm h.size h' ra1_0 rc1_0 r.2.1 ∧ (∀ i, BaseA ra1_0 i → BaseA ra0_0 i → False)) := by
  refine WF.begin (args := [_, _]) (fn := Try.f28) (by kernel_rfl) (by exact rfl) Try.ntmps28 (by simp) ?_
  simp only [frameOf_cons, frameOf_nil, Nat.reduceAdd]
  have hG : Grow h h := Grow.refl h
  unfold f28L at hL
  refine WC.seq ?_
  refine WC.region ?_
  refine WO.boxN h.size gN rfl (evT (fskip rfl fh) rfl) (vs := [.slice a1 p0.cells.length c2, .slice a3 p0.notes.length c4, .int .i64 p0.names, .slice a5 p0.freed.length c6]) rfl (fun h7 u8 hb9 => ?_)
  have whb9 : h.size ≤ h.size := hG.size
  have hsa1 := hsa1.mono (u8.fz hwm)
  have hsa3 := hsa3.mono (u8.fz hwm)
  have hsa5 := hsa5.mono (u8.fz hwm)
  have hG := u8.grow hG (Nat.le_refl _)
  refine WO.as gN rfl (evC rfl) ?_
  refine WO.as gN rfl (evC rfl) ?_
  refine WO.as gN rfl (evC rfl) ?_
  refine WO.nil ?_
  refine SeqK.nrm ?_
  refine WC.seq ?_
  refine WC.seq ?_
  refine WC.region ?_
  refine WO.ldA gN rfl agg26 size26 (evT (fs2 rfl (fskip rfl fh)) rfl) (At.box hb9) (j := 0) rfl rfl (ws := [.slice a1 p0.cells.length c2, .slice a3 p0.notes.length c4, .int .i64 p0.names, .slice a5 p0.freed.length c6]) rfl ?_
  obtain ⟨x10, hx10, hL⟩ := bind_some hL
  refine WO.cf gN rfl has20 (evs_cons (evT fh rfl) evs_nil) (f20_ok (Src.sl (Sl.src hsa1) (Nat.le_trans hwm hG.size)) (Src.sl (Sl.src hsa3) (Nat.le_trans hwm hG.size)) (Src.sl (Sl.src hsa5) (Nat.le_trans hwm hG.size)) hx10 _) ?_
  refine WO.not gN rfl (evT fh rfl) ?_
  refine WO.mv gN rfl (evT fh rfl) ?_
  refine WO.gmv (GuardIs.no rfl rfl rfl fh) rfl (fun hg => (evT (fs8 rfl fh) rfl)) ?_
  refine WO.gfld (GuardIs.no rfl rfl rfl (fskip rfl fh)) rfl fld26_2 (fun hg => (evT (fs8 rfl fh) rfl)) ?_
  refine WO.gld (GuardIs.no rfl rfl rfl (fs2 rfl fh)) rfl agg3 (fun hg => (evG fh rfl hg)) (fun hg => (At.box hb9)) (j := 2) rfl (v := .int .i64 p0.names) rfl ?_
  refine WO.gbin (GuardIs.no rfl rfl rfl (fs2 rfl (fskip rfl fh))) rfl (fun hg => (evG fh rfl hg)) (fun hg => (evC rfl)) (fun hg => abin_subw) ?_
  obtain ⟨x11, hx11, hL⟩ := gd_some hL
  refine WO.gcf (GuardIs.no rfl rfl rfl (fs4 rfl fh)) rfl has53 (fun hg => (evs_cons (evG (fs2 rfl (fskip rfl fh)) rfl hg) (evs_cons (evC rfl) (evs_cons (evG fh rfl hg) evs_nil)))) (fun hg => f53_ok  (hx11 hg) _) ?_
  refine WO.gnot (GuardIs.no rfl rfl rfl (fs4 rfl (fskip rfl fh))) rfl (fun hg => (evG fh rfl hg)) ?_
  refine WO.por gN rfl (evT (fs4 rfl (fs2 rfl fh)) rfl) (evC rfl) (evGU fh) ?_
  refine WO.nil ?_
  refine SeqK.nrm ?_
  refine WC.condN (evT fh rfl) (fun hc => ?_) (fun hc => ?_)
  · replace hL := cond_tt hc hL
    refine WC.seq ?_
    refine WC.region ?_
    refine WO.as gN rfl (evC rfl) ?_
    refine WO.as gN rfl (evC rfl) ?_
    refine WO.as gN rfl (evC rfl) ?_
    refine WO.nil ?_
    refine SeqK.nrm ?_
    refine WC.ret ?_
    refine SeqK.ret ?_
    have hr := Option.some.inj hL
    subst hr
    exact RetK.gen (vs := [.slice none 0 0, .slice none 0 0, .int .i64 2]) rfl (ares_tmp (evT (fs2 rfl fh) rfl) (ares_tmp (evT (fskip rfl fh) rfl) (ares_tmp (evT fh rfl) ares_nil))) rfl ⟨none, 0, none, 0, rfl, hG, OwnS.nil, OwnS.nil, (fun _ z _ => (BaseA.none z).elim)⟩
  · replace hL := cond_ff hc hL
    refine WC.skip ?_
    refine SeqK.nrm ?_
    refine WC.seq ?_
    refine WC.region ?_
    refine WO.as gN rfl (evC rfl) ?_
    refine WO.nil ?_
    refine SeqK.nrm ?_
    refine WC.seq ?_
    refine WC.region ?_
    refine WO.as gN rfl (evC rfl) ?_
    refine WO.nil ?_
    refine SeqK.nrm ?_
    refine WC.seq ?_
    refine WC.seq ?_
    refine WC.region ?_
    refine WO.as gN rfl (evC rfl) ?_
    refine WO.nil ?_
    refine SeqK.nrm ?_
    refine WC.block ?_
    refine WC.loop (WL.lift hL (fun (p : (List Int) × Int) (s : Fs) => match p with | (v16, v21) => ∃ (fr13 : Fr) (h12 : H) (a17 : Option Addr) (c18 : Nat), s = ⟨fr13, [], h12, none⟩ ∧ Grow h h12 ∧ fr13.at 1 = .int .i64 p1 ∧ fr13.at 2 = .pointer (some ⟨h.size, 0, none⟩) ∧ fr13.at 7 = .slice a17 v16.length c18 ∧ fr13.at 8 = .slice none 0 0 ∧ fr13.at 9 = .int .i64 v21 ∧ h12.at (h.size) = .row [.slice a1 p0.cells.length c2, .slice a3 p0.notes.length c4, .int .i64 p0.names, .slice a5 p0.freed.length c6] true 0 ∧ OwnS (rInt .i64) wm h.size h12 a17 c18 v16 ∧ Sl (rSl rWeighCell) wm h12 a1 c2 p0.cells ∧ Sl rWeighNote wm h12 a3 c4 p0.notes ∧ Sl (rInt .i64) wm h12 a5 c6 p0.freed) ⟨_, _, none, 0, rfl, hG, (fs8 rfl (fs8 rfl (fs2 rfl fh))), (fs8 rfl (fs8 rfl (fskip rfl fh))), (fs2 rfl fh), (fskip rfl fh), fh, hb9, OwnS.nil, hsa1, hsa3, hsa5⟩ ?_)
    clear hL
    rintro next28 ⟨v16, v21⟩ s hnext28 hL ⟨fr13, h12, a17, c18, rfl, hG, e14, e15, e19, e20, e22, hb23, ho24, hs25, hs26, hs27⟩
    dsimp only [f28_b0] at hL
    refine WC.seq ?_
    refine WC.seq ?_
    refine WC.region ?_
    refine WO.mv gN rfl (evT e22 rfl) ?_
    refine WO.fld gN rfl fld26_0 (evT (fskip rfl e15) rfl) ?_
    refine WO.ld gN rfl agg22 (evT fh rfl) (At.box hb23) (j := 0) rfl (v := .slice a1 p0.cells.length c2) rfl ?_
    refine WO.len gN rfl und22 (evT fh rfl) ?_
    refine WO.bin gN rfl (evT (fs2 rfl (fskip rfl fh)) rfl) (evT fh rfl) abin_lss ?_
    refine WO.nil ?_
    refine SeqK.nrm ?_
    refine WC.condN (evT fh rfl) (fun hc => ?_) (fun hc => ?_)
    · replace hL := cond_tt hc hL
      refine WC.skip ?_
      refine SeqK.nrm ?_
      refine WC.seqJ (r := r) (fun (v33 : (List Int)) (s : Fs) => ∃ (fr30 : Fr) (h29 : H) (a34 : Option Addr) (c35 : Nat), s = ⟨fr30, [], h29, none⟩ ∧ Grow h h29 ∧ fr30.at 1 = .int .i64 p1 ∧ fr30.at 2 = .pointer (some ⟨h.size, 0, none⟩) ∧ fr30.at 7 = .slice a34 v33.length c35 ∧ fr30.at 8 = .slice none 0 0 ∧ fr30.at 9 = .int .i64 v21 ∧ h29.at (h.size) = .row [.slice a1 p0.cells.length c2, .slice a3 p0.notes.length c4, .int .i64 p0.names, .slice a5 p0.freed.length c6] true 0 ∧ OwnS (rInt .i64) wm h.size h29 a34 c35 v33 ∧ Sl (rSl rWeighCell) wm h29 a1 c2 p0.cells ∧ Sl rWeighNote wm h29 a3 c4 p0.notes ∧ Sl (rInt .i64) wm h29 a5 c6 p0.freed) (f28_j0 v21 next28) ?_ ?_
      · clear hL
        rintro v33 s hL ⟨fr30, h29, a34, c35, rfl, hG, e31, e32, e36, e37, e38, hb39, ho40, hs41, hs42, hs43⟩
        dsimp only [f28_j0] at hL
        refine WC.region ?_
        refine WO.mv gN rfl (evT e38 rfl) ?_
        refine WO.bin gN rfl (evT fh rfl) (evC rfl) abin_addw ?_
        refine WO.as gN rfl (evT fh rfl) ?_
        refine WO.nil ?_
        exact LoopK.nrm (hnext28 _ _ hL ⟨_, _, a34, c35, rfl, hG, (fs2 rfl (fskip rfl e31)), (fs2 rfl (fskip rfl e32)), (fs2 rfl (fskip rfl e36)), (fs2 rfl (fskip rfl e37)), fh, hb39, ho40, hs41, hs42, hs43⟩)
      · skip
        refine WC.block ?_
        refine WC.seq ?_
        refine WC.region ?_
        refine WO.ldA gN rfl agg26 size26 (evT (fs4 rfl (fskip rfl e15)) rfl) (At.box hb23) (j := 0) rfl rfl (ws := [.slice a1 p0.cells.length c2, .slice a3 p0.notes.length c4, .int .i64 p0.names, .slice a5 p0.freed.length c6]) rfl ?_
        refine WO.mv gN rfl (evT (fs4 rfl (fs2 rfl e22)) rfl) ?_
        refine WO.mv gN rfl (evT (fs4 rfl (fs2 rfl (fskip rfl e14))) rfl) ?_
        obtain ⟨x44, hx44, hL⟩ := bind_some hL
        refine WO.cf gN rfl has72 (evs_cons (evT (fs2 rfl fh) rfl) (evs_cons (evT (fskip rfl fh) rfl) (evs_cons (evT fh rfl) evs_nil))) (f72_ok (Src.sl (Sl.src hs25) (Nat.le_trans hwm hG.size)) (Src.sl (Sl.src hs26) (Nat.le_trans hwm hG.size)) (Src.sl (Sl.src hs27) (Nat.le_trans hwm hG.size)) hx44 _) ?_
        refine WO.as gN rfl (evT fh rfl) ?_
        refine WO.nil ?_
        refine SeqK.nrm ?_
        refine WC.seq ?_
        refine WC.region ?_
        refine WO.mv gN rfl (evT fh rfl) ?_
        refine WO.bin gN rfl (evT fh rfl) (evC rfl) abin_geq ?_
        refine WO.mv gN rfl (evT fh rfl) ?_
        refine WO.gfld (GuardIs.yes rfl rfl rfl fh) rfl fld26_0 (fun hg => (evT (fs8 rfl (fs4 rfl (fskip rfl e15))) rfl)) ?_
        refine WO.gld (GuardIs.yes rfl rfl rfl (fskip rfl fh)) rfl agg22 (fun hg => (evG fh rfl hg)) (fun hg => (At.box hb23)) (j := 0) rfl (v := .slice a1 p0.cells.length c2) rfl ?_
        refine WO.gmv (GuardIs.yes rfl rfl rfl (fs2 rfl fh)) rfl (fun hg => (evT (fs8 rfl (fs4 rfl (fs2 rfl (fskip rfl e22)))) rfl)) ?_
        obtain ⟨x45, hx45, hL⟩ := gd_some hL
        obtain ⟨b46, o47, ⟨a48, c49⟩, hQ⟩ := Sl.atG (fun hg => hs25) hx45
        have hab46 := fun hg => (hQ hg).1
        have hAb46 := fun hg => (hQ hg).2.1
        have hSb46 := fun hg => (hQ hg).2.2.1
        have hFb46 := fun hg => (hQ hg).2.2.2
        refine WO.gix (GuardIs.yes rfl rfl rfl (fs2 rfl (fskip rfl fh))) rfl und22 size59 (fun hg => (evG (fskip rfl fh) rfl hg)) (fun hg => (evG fh rfl hg)) hab46 hx45 ?_
        have hsa48 : (decide (x44 ≥ 0)) = true → Sl rWeighCell wm h12 a48 c49 x45 := fun hg => (hFb46 hg)
        refine WO.gld (GuardIs.yes rfl rfl rfl (fs4 rfl fh)) rfl agg59 (fun hg => (evG fh rfl hg)) (fun hg => (hAb46 hg)) (j := 0) rfl (v := .slice a48 x45.length c49) rfl ?_
        refine WO.gmv (GuardIs.yes rfl rfl rfl (fs4 rfl (fskip rfl fh))) rfl (fun hg => (evT (fs8 rfl fh) rfl)) ?_
        obtain ⟨x50, hx50, hL⟩ := gd_some hL
        obtain ⟨b51, o52, _, hQ⟩ := Sl.atG (fun hg => (hsa48 hg)) hx50
        have hab51 := fun hg => (hQ hg).1
        have hAb51 := fun hg => (hQ hg).2.1
        have hSb51 := fun hg => (hQ hg).2.2.1
        have hFb51 := fun hg => (hQ hg).2.2.2
        refine WO.gix (GuardIs.yes rfl rfl rfl (fs4 rfl (fs2 rfl fh))) rfl und59 size61 (fun hg => (evG (fskip rfl fh) rfl hg)) (fun hg => (evG fh rfl hg)) hab51 hx50 ?_
        refine WO.gfld (GuardIs.yes rfl rfl rfl (fs4 rfl (fs2 rfl (fskip rfl fh)))) rfl fld61_5 (fun hg => (evG fh rfl hg)) ?_
        refine WO.gld (GuardIs.yes rfl rfl rfl (fs8 rfl fh)) rfl agg4 (fun hg => (evG fh rfl hg)) (fun hg => (hAb51 hg)) (j := 5) rfl (v := .bool x50.use) rfl ?_
        refine WO.pand gN rfl (evT (fs8 rfl (fskip rfl fh)) rfl) (evGU fh) (evC rfl) ?_
        refine WO.nil ?_
        refine SeqK.nrm ?_
        refine WC.condN (evT fh rfl) (fun hc => ?_) (fun hc => ?_)
        · replace hL := cond_tt hc hL
          refine WC.region ?_
          refine WO.mv gN rfl (evT (fs8 rfl (fs8 rfl (fs4 rfl (fs2 rfl (fskip rfl e19))))) rfl) ?_
          refine WO.mv gN rfl (evT (fs8 rfl (fs8 rfl (fs8 rfl e22))) rfl) ?_
          refine WO.bsN (e := (rInt .i64)) h.size gN rfl und24 size3 zero3 rfl rfl rfl (evp_cons (evT fh rfl) evp_nil) rfl [((), v21)] rfl (xs := [v21]) rfl (by intro q hq; simp only [List.mem_cons, List.not_mem_nil, or_false] at hq; subst hq; exact trivial) hwm hG.size rfl (fun h53 u54 ho55 => ?_)
          have dj56 := OwnS.newdj ho24
          have hb23 := u54.row (fun z => z) hb23
          have ho24 := OwnS.step u54 hwm (fun _ _ z => z) ho24
          have hs25 := hs25.mono (u54.fz hwm)
          have hs26 := hs26.mono (u54.fz hwm)
          have hs27 := hs27.mono (u54.fz hwm)
          have hG := u54.grow hG (Nat.le_refl _)
          obtain ⟨z57, hz57, hL⟩ := bind_some hL
          refine WO.apN (e := (rInt .i64)) h.size gN rfl app24_24 hwm hG.size (evT (fs2 rfl fh) rfl) (evT fh rfl) ho24 (OwnS.src ho55) hz57 (fun a58 c59 h60 u61 ho62 sb63 => ?_)
          have dj64 := OwnS.apdj sb63 (fun i p q => dj56 i q p) ho55
          have hb23 := u61.row (OwnS.notBox ho24 hb23) hb23
          have hs25 := hs25.mono (u61.fz hwm)
          have hs26 := hs26.mono (u61.fz hwm)
          have hs27 := hs27.mono (u61.fz hwm)
          have ho55 := OwnS.step u61 hwm dj56 ho55
          have hG := u61.grow hG (Nat.le_refl _)
          refine WO.as gN rfl (evT fh rfl) ?_
          refine WO.nil ?_
          refine BlkK.nrm ?_
          exact SeqJ.nrm _ hL ⟨_, _, a58, c59, rfl, hG, (fs8 rfl (fs8 rfl (fs8 rfl (fs4 rfl e14)))), (fs8 rfl (fs8 rfl (fs8 rfl (fs4 rfl e15)))), fh, (fs8 rfl (fs8 rfl (fs8 rfl (fs4 rfl e20)))), (fs8 rfl (fs8 rfl (fs8 rfl (fs4 rfl e22)))), hb23, ho62, hs25, hs26, hs27⟩
        · replace hL := cond_ff hc hL
          refine WC.skip ?_
          refine BlkK.nrm ?_
          exact SeqJ.nrm _ hL ⟨_, _, a17, c18, rfl, hG, (fs8 rfl (fs8 rfl (fs4 rfl (fs2 rfl (fskip rfl e14))))), (fs8 rfl (fs8 rfl (fs4 rfl (fs2 rfl (fskip rfl e15))))), (fs8 rfl (fs8 rfl (fs4 rfl (fs2 rfl (fskip rfl e19))))), (fs8 rfl (fs8 rfl (fs4 rfl (fs2 rfl (fskip rfl e20))))), (fs8 rfl (fs8 rfl (fs4 rfl (fs2 rfl (fskip rfl e22))))), hb23, ho24, hs25, hs26, hs27⟩
    · replace hL := cond_ff hc hL
      refine WC.exit ?_
      refine SeqK.exit ?_
      refine LoopK.exit ?_
      refine BlkK.here ?_
      refine SeqK.nrm ?_
      refine WC.seq ?_
      refine WC.seq ?_
      refine WC.region ?_
      refine WO.as gN rfl (evC rfl) ?_
      refine WO.nil ?_
      refine SeqK.nrm ?_
      refine WC.block ?_
      refine WC.loop (WL.lift hL (fun (p : (List Int) × Int) (s : Fs) => match p with | (v70, v74) => ∃ (fr66 : Fr) (h65 : H) (a71 : Option Addr) (c72 : Nat), s = ⟨fr66, [], h65, none⟩ ∧ Grow h h65 ∧ fr66.at 1 = .int .i64 p1 ∧ fr66.at 2 = .pointer (some ⟨h.size, 0, none⟩) ∧ fr66.at 7 = .slice a17 v16.length c18 ∧ fr66.at 8 = .slice a71 v70.length c72 ∧ fr66.at 11 = .int .i64 v74 ∧ h65.at (h.size) = .row [.slice a1 p0.cells.length c2, .slice a3 p0.notes.length c4, .int .i64 p0.names, .slice a5 p0.freed.length c6] true 0 ∧ OwnS (rInt .i64) wm h.size h65 a17 c18 v16 ∧ OwnS (rInt .i64) wm h.size h65 a71 c72 v70 ∧ Sl (rSl rWeighCell) wm h65 a1 c2 p0.cells ∧ Sl rWeighNote wm h65 a3 c4 p0.notes ∧ Sl (rInt .i64) wm h65 a5 c6 p0.freed ∧ (∀ i, BaseA a71 i → BaseA a17 i → False)) ⟨_, _, none, 0, rfl, hG, (fs4 rfl (fs2 rfl e14)), (fs4 rfl (fs2 rfl e15)), (fs4 rfl (fs2 rfl e19)), (fs4 rfl (fs2 rfl e20)), fh, hb23, ho24, OwnS.nil, hs25, hs26, hs27, (fun _ z _ => (BaseA.none z).elim)⟩ ?_)
      clear hL
      rintro next83 ⟨v70, v74⟩ s hnext83 hL ⟨fr66, h65, a71, c72, rfl, hG, e67, e68, e69, e73, e75, hb76, ho77, ho78, hs79, hs80, hs81, dj82⟩
      dsimp only [f28_b1] at hL
      refine WC.seq ?_
      refine WC.seq ?_
      refine WC.region ?_
      refine WO.mv gN rfl (evT e75 rfl) ?_
      refine WO.fld gN rfl fld26_1 (evT (fskip rfl e68) rfl) ?_
      refine WO.ld gN rfl agg23 (evT fh rfl) (At.box hb76) (j := 1) rfl (v := .slice a3 p0.notes.length c4) rfl ?_
      refine WO.len gN rfl und23 (evT fh rfl) ?_
      refine WO.bin gN rfl (evT (fs2 rfl (fskip rfl fh)) rfl) (evT fh rfl) abin_lss ?_
      refine WO.nil ?_
      refine SeqK.nrm ?_
      refine WC.condN (evT fh rfl) (fun hc => ?_) (fun hc => ?_)
      · replace hL := cond_tt hc hL
        refine WC.skip ?_
        refine SeqK.nrm ?_
        refine WC.seqJ (r := r) (fun (v89 : (List Int)) (s : Fs) => ∃ (fr85 : Fr) (h84 : H) (a90 : Option Addr) (c91 : Nat), s = ⟨fr85, [], h84, none⟩ ∧ Grow h h84 ∧ fr85.at 1 = .int .i64 p1 ∧ fr85.at 2 = .pointer (some ⟨h.size, 0, none⟩) ∧ fr85.at 7 = .slice a17 v16.length c18 ∧ fr85.at 8 = .slice a90 v89.length c91 ∧ fr85.at 11 = .int .i64 v74 ∧ h84.at (h.size) = .row [.slice a1 p0.cells.length c2, .slice a3 p0.notes.length c4, .int .i64 p0.names, .slice a5 p0.freed.length c6] true 0 ∧ OwnS (rInt .i64) wm h.size h84 a17 c18 v16 ∧ OwnS (rInt .i64) wm h.size h84 a90 c91 v89 ∧ Sl (rSl rWeighCell) wm h84 a1 c2 p0.cells ∧ Sl rWeighNote wm h84 a3 c4 p0.notes ∧ Sl (rInt .i64) wm h84 a5 c6 p0.freed ∧ (∀ i, BaseA a90 i → BaseA a17 i → False)) (f28_j1 v74 next83) ?_ ?_
        · clear hL
          rintro v89 s hL ⟨fr85, h84, a90, c91, rfl, hG, e86, e87, e88, e92, e93, hb94, ho95, ho96, hs97, hs98, hs99, dj100⟩
          dsimp only [f28_j1] at hL
          refine WC.region ?_
          refine WO.mv gN rfl (evT e93 rfl) ?_
          refine WO.bin gN rfl (evT fh rfl) (evC rfl) abin_addw ?_
          refine WO.as gN rfl (evT fh rfl) ?_
          refine WO.nil ?_
          exact LoopK.nrm (hnext83 _ _ hL ⟨_, _, a90, c91, rfl, hG, (fs2 rfl (fskip rfl e86)), (fs2 rfl (fskip rfl e87)), (fs2 rfl (fskip rfl e88)), (fs2 rfl (fskip rfl e92)), fh, hb94, ho95, ho96, hs97, hs98, hs99, dj100⟩)
        · skip
          refine WC.block ?_
          refine WC.seq ?_
          refine WC.region ?_
          refine WO.fld gN rfl fld26_1 (evT (fs4 rfl (fskip rfl e68)) rfl) ?_
          refine WO.ld gN rfl agg23 (evT fh rfl) (At.box hb76) (j := 1) rfl (v := .slice a3 p0.notes.length c4) rfl ?_
          refine WO.mv gN rfl (evT (fs4 rfl (fs2 rfl (fskip rfl e75))) rfl) ?_
          obtain ⟨x101, hx101, hL⟩ := bind_some hL
          obtain ⟨b102, o103, _, hab102, hAb102, hSb102, hFb102⟩ := Sl.at_ hs80 hx101
          refine WO.ix gN rfl und23 size58 (evT (fskip rfl fh) rfl) (evT fh rfl) hab102 hx101 ?_
          refine WO.fld gN rfl fld58_0 (evT fh rfl) ?_
          refine WO.ld gN rfl agg56 (evT fh rfl) hAb102 (j := 0) rfl (v := .int .i64 x101.kind) rfl ?_
          refine WO.bin gN rfl (evT fh rfl) (evC rfl) abin_eql ?_
          refine WO.mv gN rfl (evT fh rfl) ?_
          refine WO.gfld (GuardIs.yes rfl rfl rfl fh) rfl fld26_1 (fun hg => (evT (fs8 rfl (fs4 rfl (fskip rfl e68))) rfl)) ?_
          refine WO.gld (GuardIs.yes rfl rfl rfl (fskip rfl fh)) rfl agg23 (fun hg => (evG fh rfl hg)) (fun hg => (At.box hb76)) (j := 1) rfl (v := .slice a3 p0.notes.length c4) rfl ?_
          refine WO.gmv (GuardIs.yes rfl rfl rfl (fs2 rfl fh)) rfl (fun hg => (evT (fs8 rfl (fs4 rfl (fs2 rfl (fskip rfl e75)))) rfl)) ?_
          obtain ⟨x104, hx104, hL⟩ := gd_some hL
          obtain ⟨b105, o106, _, hQ⟩ := Sl.atG (fun hg => hs80) hx104
          have hab105 := fun hg => (hQ hg).1
          have hAb105 := fun hg => (hQ hg).2.1
          have hSb105 := fun hg => (hQ hg).2.2.1
          have hFb105 := fun hg => (hQ hg).2.2.2
          refine WO.gix (GuardIs.yes rfl rfl rfl (fs2 rfl (fskip rfl fh))) rfl und23 size58 (fun hg => (evG (fskip rfl fh) rfl hg)) (fun hg => (evG fh rfl hg)) hab105 hx104 ?_
          refine WO.gfld (GuardIs.yes rfl rfl rfl (fs4 rfl fh)) rfl fld58_2 (fun hg => (evG fh rfl hg)) ?_
          refine WO.gld (GuardIs.yes rfl rfl rfl (fs4 rfl (fskip rfl fh))) rfl agg3 (fun hg => (evG fh rfl hg)) (fun hg => (hAb105 hg)) (j := 2) rfl (v := .int .i64 x104.name) rfl ?_
          refine WO.gmv (GuardIs.yes rfl rfl rfl (fs4 rfl (fs2 rfl fh))) rfl (fun hg => (evT (fs8 rfl (fs8 rfl (fs2 rfl (fskip rfl e67)))) rfl)) ?_
          refine WO.gbin (GuardIs.yes rfl rfl rfl (fs4 rfl (fs2 rfl (fskip rfl fh)))) rfl (fun hg => (evG (fskip rfl fh) rfl hg)) (fun hg => (evG fh rfl hg)) (fun hg => abin_eql) ?_
          refine WO.pand gN rfl (evT (fs8 rfl fh) rfl) (evGU fh) (evC rfl) ?_
          refine WO.nil ?_
          refine SeqK.nrm ?_
          refine WC.condN (evT fh rfl) (fun hc => ?_) (fun hc => ?_)
          · replace hL := cond_tt hc hL
            refine WC.region ?_
            refine WO.mv gN rfl (evT (fs8 rfl (fs8 rfl (fs4 rfl (fs2 rfl e73)))) rfl) ?_
            refine WO.mv gN rfl (evT (fs8 rfl (fs8 rfl (fs4 rfl (fs2 rfl (fskip rfl e75))))) rfl) ?_
            refine WO.bsN (e := (rInt .i64)) h.size gN rfl und24 size3 zero3 rfl rfl rfl (evp_cons (evT fh rfl) evp_nil) rfl [((), v74)] rfl (xs := [v74]) rfl (by intro q hq; simp only [List.mem_cons, List.not_mem_nil, or_false] at hq; subst hq; exact trivial) hwm hG.size rfl (fun h107 u108 ho109 => ?_)
            have dj110 := OwnS.newdj ho77
            have dj111 := OwnS.newdj ho78
            have hb76 := u108.row (fun z => z) hb76
            have ho77 := OwnS.step u108 hwm (fun _ _ z => z) ho77
            have ho78 := OwnS.step u108 hwm (fun _ _ z => z) ho78
            have hs79 := hs79.mono (u108.fz hwm)
            have hs80 := hs80.mono (u108.fz hwm)
            have hs81 := hs81.mono (u108.fz hwm)
            have qhAb102 := Stb.fz (u108.fz hwm) hAb102 hSb102
            have hAb102 := At.fz (u108.fz hwm) hSb102 hAb102
            have hSb102 := qhAb102
            have hG := u108.grow hG (Nat.le_refl _)
            obtain ⟨z112, hz112, hL⟩ := bind_some hL
            refine WO.apN (e := (rInt .i64)) h.size gN rfl app24_24 hwm hG.size (evT (fs2 rfl fh) rfl) (evT fh rfl) ho78 (OwnS.src ho109) hz112 (fun a113 c114 h115 u116 ho117 sb118 => ?_)
            have dj119 := OwnS.apdj sb118 dj82 ho77
            have dj120 := OwnS.apdj sb118 (fun i p q => dj111 i q p) ho109
            have hb76 := u116.row (OwnS.notBox ho78 hb76) hb76
            have ho77 := OwnS.step u116 hwm (fun i p q => dj82 i q p) ho77
            have hs79 := hs79.mono (u116.fz hwm)
            have hs80 := hs80.mono (u116.fz hwm)
            have hs81 := hs81.mono (u116.fz hwm)
            have ho109 := OwnS.step u116 hwm dj111 ho109
            have qhAb102 := Stb.fz (u116.fz hwm) hAb102 hSb102
            have hAb102 := At.fz (u116.fz hwm) hSb102 hAb102
            have hSb102 := qhAb102
            have hG := u116.grow hG (Nat.le_refl _)
            refine WO.as gN rfl (evT fh rfl) ?_
            refine WO.nil ?_
            refine BlkK.nrm ?_
            exact SeqJ.nrm _ hL ⟨_, _, a113, c114, rfl, hG, (fs8 rfl (fs8 rfl (fs8 rfl (fs2 rfl (fskip rfl e67))))), (fs8 rfl (fs8 rfl (fs8 rfl (fs2 rfl (fskip rfl e68))))), (fs8 rfl (fs8 rfl (fs8 rfl (fs2 rfl (fskip rfl e69))))), fh, (fs8 rfl (fs8 rfl (fs8 rfl (fs2 rfl (fskip rfl e75))))), hb76, ho77, ho117, hs79, hs80, hs81, dj119⟩
          · replace hL := cond_ff hc hL
            refine WC.skip ?_
            refine BlkK.nrm ?_
            exact SeqJ.nrm _ hL ⟨_, _, a71, c72, rfl, hG, (fs8 rfl (fs8 rfl (fs4 rfl (fs2 rfl e67)))), (fs8 rfl (fs8 rfl (fs4 rfl (fs2 rfl e68)))), (fs8 rfl (fs8 rfl (fs4 rfl (fs2 rfl e69)))), (fs8 rfl (fs8 rfl (fs4 rfl (fs2 rfl e73)))), (fs8 rfl (fs8 rfl (fs4 rfl (fs2 rfl e75)))), hb76, ho77, ho78, hs79, hs80, hs81, dj82⟩
      · replace hL := cond_ff hc hL
        refine WC.exit ?_
        refine SeqK.exit ?_
        refine LoopK.exit ?_
        refine BlkK.here ?_
        refine SeqK.nrm ?_
        refine WC.seq ?_
        refine WC.region ?_
        refine WO.mv gN rfl (evT (fs4 rfl (fskip rfl e69)) rfl) ?_
        refine WO.mv gN rfl (evT (fs4 rfl (fs2 rfl e73)) rfl) ?_
        refine WO.as gN rfl (evT (fskip rfl fh) rfl) ?_
        refine WO.as gN rfl (evT (fskip rfl fh) rfl) ?_
        refine WO.as gN rfl (evC rfl) ?_
        refine WO.nil ?_
        refine SeqK.nrm ?_
        refine WC.ret ?_
        have hr := Option.some.inj hL
        subst hr
        exact RetK.gen (vs := [.slice a17 v16.length c18, .slice a71 v70.length c72, .int .i64 0]) rfl (ares_tmp (evT (fs2 rfl fh) rfl) (ares_tmp (evT (fskip rfl fh) rfl) (ares_tmp (evT fh rfl) ares_nil))) rfl ⟨a17, c18, a71, c72, rfl, hG, ho77, ho78, dj82⟩
theorem f124_wf {wm : Nat} {h : H} {p0 : Store} {p1 : Int} {b6 o7 : Nat} {m1 : Option Nat} {a2 : Option Addr} {c3 : Nat} {a4 : Option Addr} {c5 : Nat} {r : Bool} (hwm : wm ≤ h.size) (hAb6 : At h b6 o7 [.int .i64 p0.machines, .int .i64 p0.names, .map m1, .slice a2 p0.notes.length c3, .slice a4 p0.freed.length c5]) (hSb6 : Stb wm h b6) (hsm1 : MapS wvArr2Int wvWeighCell wm h m1 p0.cells) (hsa2 : Sl rWeighNote wm h a2 c3 p0.notes) (hsa4 : Sl (rInt .i64) wm h a4 c5 p0.freed) (hL : f124L p0 p1 = some r) :
    WR XX 124 #[.pointer (some ⟨b6, o7, none⟩), .int .i64 p1] wm h (fun v _ => v = .bool r) := by
  refine WF.begin (args := [_, _]) (fn := Try.f124) (by kernel_rfl) (by exact rfl) Try.ntmps124 (by simp) ?_
  simp only [frameOf_cons, frameOf_nil, Nat.reduceAdd]
  have hG : Grow h h := Grow.refl h
  unfold f124L at hL
  refine WC.seq ?_
  refine WC.region ?_
  refine WO.as gN rfl (evC rfl) ?_
  refine WO.nil ?_
  refine SeqK.nrm ?_
  refine WC.seq ?_
  refine WC.region ?_
  refine WO.mv gN rfl (evT (fskip rfl fh) rfl) ?_
  refine WO.bin gN rfl (evT fh rfl) (evC rfl) abin_geq ?_
  refine WO.mv gN rfl (evT fh rfl) ?_
  refine WO.gmv (GuardIs.yes rfl rfl rfl fh) rfl (fun hg => (evT (fs4 rfl fh) rfl)) ?_
  refine WO.gmv (GuardIs.yes rfl rfl rfl (fskip rfl fh)) rfl (fun hg => (evT (fs4 rfl (fs2 rfl fh)) rfl)) ?_
  refine WO.gnck (GuardIs.yes rfl rfl rfl (fs2 rfl fh)) rfl (fun hg => (evG fh rfl hg)) ?_
  refine WO.gfld (GuardIs.yes rfl rfl rfl (fs2 rfl (fskip rfl fh))) rfl fld97_0 (fun hg => (evG fh rfl hg)) ?_
  refine WO.gld (GuardIs.yes rfl rfl rfl (fs4 rfl fh)) rfl agg3 (fun hg => (evG fh rfl hg)) (fun hg => hAb6) (j := 0) rfl (v := .int .i64 p0.machines) rfl ?_
  refine WO.gbin (GuardIs.yes rfl rfl rfl (fs4 rfl (fskip rfl fh))) rfl (fun hg => (evG (fs4 rfl fh) rfl hg)) (fun hg => (evG fh rfl hg)) (fun hg => abin_lss) ?_
  refine WO.pand gN rfl (evT (fs4 rfl (fs2 rfl fh)) rfl) (evGU fh) (evC rfl) ?_
  refine WO.as gN rfl (evT fh rfl) ?_
  refine WO.nil ?_
  refine SeqK.nrm ?_
  refine WC.ret ?_
  have hr := Option.some.inj hL
  subst hr
  exact RetK.gen1 rfl (ares_tmp (evT fh rfl) ares_nil) rfl
theorem f124_ok {h : H} {p0 : Store} {p1 : Int} {b6 o7 : Nat} {m1 : Option Nat} {a2 : Option Addr} {c3 : Nat} {a4 : Option Addr} {c5 : Nat} {r : Bool} (hAb6 : At h b6 o7 [.int .i64 p0.machines, .int .i64 p0.names, .map m1, .slice a2 p0.notes.length c3, .slice a4 p0.freed.length c5]) (hSb6 : Stb h.size h b6) (hsm1 : MapS wvArr2Int wvWeighCell h.size h m1 p0.cells) (hsa2 : Sl rWeighNote h.size h a2 c3 p0.notes) (hsa4 : Sl (rInt .i64) h.size h a4 c5 p0.freed) (hL : f124L p0 p1 = some r) : Pure XX 124 #[.pointer (some ⟨b6, o7, none⟩), .int .i64 p1] h (.bool r) :=
  WF.pureR rfl (f124_wf (Nat.le_refl _) hAb6 hSb6 hsm1 hsa2 hsa4 hL)
theorem f89_wf {F : Nat} {wm : Nat} {h : H} {p0 : Store} {p1 : Int} {b6 o7 : Nat} {m1 : Option Nat} {a2 : Option Addr} {c3 : Nat} {a4 : Option Addr} {c5 : Nat} {r : Bool} (hwm : wm ≤ h.size) (hAb6 : At h b6 o7 [.int .i64 p0.machines, .int .i64 p0.names, .map m1, .slice a2 p0.notes.length c3, .slice a4 p0.freed.length c5]) (hSb6 : Stb wm h b6) (hsm1 : MapS wvArr2Int wvWeighCell wm h m1 p0.cells) (hsa2 : Sl rWeighNote wm h a2 c3 p0.notes) (hsa4 : Sl (rInt .i64) wm h a4 c5 p0.freed) (hL : f89L F p0 p1 = some r) :
    WR XX 89 #[.pointer (some ⟨b6, o7, none⟩), .int .i64 p1] wm h (fun v _ => v = .bool r) := by
  refine WF.begin (args := [_, _]) (fn := Try.f89) (by kernel_rfl) (by exact rfl) Try.ntmps89 (by simp) ?_
  simp only [frameOf_cons, frameOf_nil, Nat.reduceAdd]
  have hG : Grow h h := Grow.refl h
  unfold f89L at hL
  refine WC.seq ?_
  refine WC.region ?_
  refine WO.as gN rfl (evC rfl) ?_
  refine WO.nil ?_
  refine SeqK.nrm ?_
  refine WC.seq ?_
  refine WC.region ?_
  refine WO.mv gN rfl (evT (fskip rfl fh) rfl) ?_
  refine WO.bin gN rfl (evT fh rfl) (evC rfl) abin_geq ?_
  refine WO.mv gN rfl (evT fh rfl) ?_
  refine WO.gmv (GuardIs.yes rfl rfl rfl fh) rfl (fun hg => (evT (fs4 rfl fh) rfl)) ?_
  refine WO.gmv (GuardIs.yes rfl rfl rfl (fskip rfl fh)) rfl (fun hg => (evT (fs4 rfl (fs2 rfl fh)) rfl)) ?_
  refine WO.gnck (GuardIs.yes rfl rfl rfl (fs2 rfl fh)) rfl (fun hg => (evG fh rfl hg)) ?_
  refine WO.gfld (GuardIs.yes rfl rfl rfl (fs2 rfl (fskip rfl fh))) rfl fld97_1 (fun hg => (evG fh rfl hg)) ?_
  refine WO.gld (GuardIs.yes rfl rfl rfl (fs4 rfl fh)) rfl agg3 (fun hg => (evG fh rfl hg)) (fun hg => hAb6) (j := 1) rfl (v := .int .i64 p0.names) rfl ?_
  refine WO.gbin (GuardIs.yes rfl rfl rfl (fs4 rfl (fskip rfl fh))) rfl (fun hg => (evG (fs4 rfl fh) rfl hg)) (fun hg => (evG fh rfl hg)) (fun hg => abin_lss) ?_
  refine WO.pand gN rfl (evT (fs4 rfl (fs2 rfl fh)) rfl) (evGU fh) (evC rfl) ?_
  refine WO.mv gN rfl (evT fh rfl) ?_
  refine WO.gmv (GuardIs.yes rfl rfl rfl fh) rfl (fun hg => (evT (fs8 rfl (fs4 rfl (fskip rfl fh))) rfl)) ?_
  refine WO.gnck (GuardIs.yes rfl rfl rfl (fskip rfl fh)) rfl (fun hg => (evG fh rfl hg)) ?_
  refine WO.gfld (GuardIs.yes rfl rfl rfl (fs2 rfl fh)) rfl fld97_4 (fun hg => (evG fh rfl hg)) ?_
  refine WO.gld (GuardIs.yes rfl rfl rfl (fs2 rfl (fskip rfl fh))) rfl agg24 (fun hg => (evG fh rfl hg)) (fun hg => hAb6) (j := 4) rfl (v := .slice a4 p0.freed.length c5) rfl ?_
  refine WO.gmv (GuardIs.yes rfl rfl rfl (fs4 rfl fh)) rfl (fun hg => (evT (fs8 rfl (fs8 rfl fh)) rfl)) ?_
  obtain ⟨x8, hx8, hL⟩ := gd_some hL
  refine WO.gcf (GuardIs.yes rfl rfl rfl (fs4 rfl (fskip rfl fh))) rfl has75 (fun hg => (evs_cons (evG (fskip rfl fh) rfl hg) (evs_cons (evG fh rfl hg) evs_nil))) (fun hg => f75_ok (Src.sl (Sl.src hsa4) (Nat.le_trans hwm hG.size)) (hx8 hg) _) ?_
  refine WO.gnot (GuardIs.yes rfl rfl rfl (fs4 rfl (fs2 rfl fh))) rfl (fun hg => (evG fh rfl hg)) ?_
  refine WO.pand gN rfl (evT (fs4 rfl (fs2 rfl (fskip rfl fh))) rfl) (evGU fh) (evC rfl) ?_
  refine WO.as gN rfl (evT fh rfl) ?_
  refine WO.nil ?_
  refine SeqK.nrm ?_
  refine WC.ret ?_
  have hr := Option.some.inj hL
  subst hr
  exact RetK.gen1 rfl (ares_tmp (evT fh rfl) ares_nil) rfl
theorem f89_ok {F : Nat} {h : H} {p0 : Store} {p1 : Int} {b6 o7 : Nat} {m1 : Option Nat} {a2 : Option Addr} {c3 : Nat} {a4 : Option Addr} {c5 : Nat} {r : Bool} (hAb6 : At h b6 o7 [.int .i64 p0.machines, .int .i64 p0.names, .map m1, .slice a2 p0.notes.length c3, .slice a4 p0.freed.length c5]) (hSb6 : Stb h.size h b6) (hsm1 : MapS wvArr2Int wvWeighCell h.size h m1 p0.cells) (hsa2 : Sl rWeighNote h.size h a2 c3 p0.notes) (hsa4 : Sl (rInt .i64) h.size h a4 c5 p0.freed) (hL : f89L F p0 p1 = some r) : Pure XX 89 #[.pointer (some ⟨b6, o7, none⟩), .int .i64 p1] h (.bool r) :=
  WF.pureR rfl (f89_wf (Nat.le_refl _) hAb6 hSb6 hsm1 hsa2 hsa4 hL)
theorem f113_wf {F : Nat} {wm : Nat} {h : H} {p0 : Store} {p1 : Int} {p2 : WeighCell} {b6 o7 : Nat} {m1 : Option Nat} {a2 : Option Addr} {c3 : Nat} {a4 : Option Addr} {c5 : Nat} {r : Bool} (hwm : wm ≤ h.size) (hAb6 : At h b6 o7 [.int .i64 p0.machines, .int .i64 p0.names, .map m1, .slice a2 p0.notes.length c3, .slice a4 p0.freed.length c5]) (hSb6 : Stb wm h b6) (hsm1 : MapS wvArr2Int wvWeighCell wm h m1 p0.cells) (hsa2 : Sl rWeighNote wm h a2 c3 p0.notes) (hsa4 : Sl (rInt .i64) wm h a4 c5 p0.freed) (hL : f113L F p0 p1 p2 = some r) :
    WR XX 113 #[.pointer (some ⟨b6, o7, none⟩), .int .i64 p1, .agg [.int .i64 p2.name, .bool p2.root, .int .i64 p2.from_, .int .i64 p2.has, .int .i64 p2.out, .bool p2.use].toArray] wm h (fun v _ => v = .bool r) := by
  refine WF.begin (args := [_, _, _]) (fn := Try.f113) (by kernel_rfl) (by exact rfl) Try.ntmps113 (by simp) ?_
  simp only [frameOf_cons, frameOf_nil, Nat.reduceAdd]
  have hG : Grow h h := Grow.refl h
  unfold f113L at hL
  refine WC.seq ?_
  refine WC.region ?_
  refine WO.boxN h.size gN rfl (evT fh rfl) (vs := [.int .i64 p2.name, .bool p2.root, .int .i64 p2.from_, .int .i64 p2.has, .int .i64 p2.out, .bool p2.use]) rfl (fun h8 u9 hb10 => ?_)
  have whb10 : h.size ≤ h.size := hG.size
  have hsm1 := MapS.fz hsm1 (u9.fz hwm)
  have hsa2 := hsa2.mono (u9.fz hwm)
  have hsa4 := hsa4.mono (u9.fz hwm)
  have qhAb6 := Stb.fz (u9.fz hwm) hAb6 hSb6
  have hAb6 := At.fz (u9.fz hwm) hSb6 hAb6
  have hSb6 := qhAb6
  have hG := u9.grow hG (Nat.le_refl _)
  refine WO.as gN rfl (evC rfl) ?_
  refine WO.nil ?_
  refine SeqK.nrm ?_
  refine WC.seq ?_
  refine WC.seq ?_
  refine WC.region ?_
  refine WO.mv gN rfl (evT (fs4 rfl fh) rfl) ?_
  refine WO.fld gN rfl fld61_0 (evT (fs2 rfl fh) rfl) ?_
  refine WO.ld gN rfl agg3 (evT fh rfl) (At.box hb10) (j := 0) rfl (v := .int .i64 p2.name) rfl ?_
  obtain ⟨x11, hx11, hL⟩ := bind_some hL
  refine WO.cf gN rfl has89 (evs_cons (evT (fs2 rfl fh) rfl) (evs_cons (evT fh rfl) evs_nil)) (f89_ok hAb6 (Stb.up (Nat.le_trans hwm hG.size) hSb6) (MapAt.all (hsm1).at_) (Src.sl (Sl.src hsa2) (Nat.le_trans hwm hG.size)) (Src.sl (Sl.src hsa4) (Nat.le_trans hwm hG.size)) hx11 _) ?_
  refine WO.not gN rfl (evT fh rfl) ?_
  refine WO.mv gN rfl (evT fh rfl) ?_
  refine WO.gfld (GuardIs.no rfl rfl rfl fh) rfl fld61_4 (fun hg => (evT (fs4 rfl (fs2 rfl (fskip rfl fh))) rfl)) ?_
  refine WO.gld (GuardIs.no rfl rfl rfl (fskip rfl fh)) rfl agg3 (fun hg => (evG fh rfl hg)) (fun hg => (At.box hb10)) (j := 4) rfl (v := .int .i64 p2.out) rfl ?_
  refine WO.gbin (GuardIs.no rfl rfl rfl (fs2 rfl fh)) rfl (fun hg => (evG fh rfl hg)) (fun hg => (evC rfl)) (fun hg => abin_lss) ?_
  refine WO.por gN rfl (evT (fs2 rfl (fskip rfl fh)) rfl) (evC rfl) (evGU fh) ?_
  refine WO.mv gN rfl (evT fh rfl) ?_
  refine WO.gfld (GuardIs.no rfl rfl rfl fh) rfl fld61_4 (fun hg => (evT (fs8 rfl (fs4 rfl fh)) rfl)) ?_
  refine WO.gld (GuardIs.no rfl rfl rfl (fskip rfl fh)) rfl agg3 (fun hg => (evG fh rfl hg)) (fun hg => (At.box hb10)) (j := 4) rfl (v := .int .i64 p2.out) rfl ?_
  refine WO.gbin (GuardIs.no rfl rfl rfl (fs2 rfl fh)) rfl (fun hg => (evG fh rfl hg)) (fun hg => (evC rfl)) (fun hg => abin_gtr) ?_
  refine WO.por gN rfl (evT (fs2 rfl (fskip rfl fh)) rfl) (evC rfl) (evGU fh) ?_
  refine WO.mv gN rfl (evT fh rfl) ?_
  refine WO.gfld (GuardIs.no rfl rfl rfl fh) rfl fld61_5 (fun hg => (evT (fs8 rfl (fs8 rfl (fskip rfl fh))) rfl)) ?_
  refine WO.gld (GuardIs.no rfl rfl rfl (fskip rfl fh)) rfl agg4 (fun hg => (evG fh rfl hg)) (fun hg => (At.box hb10)) (j := 5) rfl (v := .bool p2.use) rfl ?_
  refine WO.gnot (GuardIs.no rfl rfl rfl (fs2 rfl fh)) rfl (fun hg => (evG fh rfl hg)) ?_
  refine WO.gmv (GuardIs.no rfl rfl rfl (fs2 rfl (fskip rfl fh))) rfl (fun hg => (evG fh rfl hg)) ?_
  refine WO.gfld (GuardIs.yes2 rfl rfl rfl fh) rfl fld61_4 (fun hg => (evT (fs8 rfl (fs8 rfl (fs4 rfl (fskip rfl fh)))) rfl)) ?_
  refine WO.gld (GuardIs.yes2 rfl rfl rfl (fskip rfl fh)) rfl agg3 (fun hg => (evG fh rfl hg)) (fun hg => (At.box hb10)) (j := 4) rfl (v := .int .i64 p2.out) rfl ?_
  refine WO.gbin (GuardIs.yes2 rfl rfl rfl (fs2 rfl fh)) rfl (fun hg => (evG fh rfl hg)) (fun hg => (evC rfl)) (fun hg => abin_eql) ?_
  refine WO.gand (GuardIs.no rfl rfl rfl (fs4 rfl (fs2 rfl (fskip rfl fh)))) rfl (fun hg => (evG (fs2 rfl (fskip rfl fh)) rfl hg)) (fun hg => evGU2 fh hg) (fun hg => (evC rfl)) ?_
  refine WO.por gN rfl (evT (fs8 rfl fh) rfl) (evC rfl) (evGU fh) ?_
  refine WO.nil ?_
  refine SeqK.nrm ?_
  refine WC.condN (evT fh rfl) (fun hc => ?_) (fun hc => ?_)
  · replace hL := cond_tt hc hL
    refine WC.seq ?_
    refine WC.region ?_
    refine WO.as gN rfl (evC rfl) ?_
    refine WO.nil ?_
    refine SeqK.nrm ?_
    refine WC.ret ?_
    refine SeqK.ret ?_
    have hr := Option.some.inj hL
    subst hr
    exact RetK.gen1 rfl (ares_tmp (evT fh rfl) ares_nil) rfl
  · replace hL := cond_ff hc hL
    refine WC.skip ?_
    refine SeqK.nrm ?_
    refine WC.seq ?_
    refine WC.seq ?_
    refine WC.region ?_
    refine WO.fld gN rfl fld61_1 (evT (fs8 rfl (fs8 rfl (fs8 rfl (fs2 rfl fh)))) rfl) ?_
    refine WO.ld gN rfl agg4 (evT fh rfl) (At.box hb10) (j := 1) rfl (v := .bool p2.root) rfl ?_
    refine WO.mv gN rfl (evT fh rfl) ?_
    refine WO.gfld (GuardIs.no rfl rfl rfl fh) rfl fld61_2 (fun hg => (evT (fs8 rfl (fs8 rfl (fs8 rfl (fs4 rfl (fskip rfl fh))))) rfl)) ?_
    refine WO.gld (GuardIs.no rfl rfl rfl (fskip rfl fh)) rfl agg3 (fun hg => (evG fh rfl hg)) (fun hg => (At.box hb10)) (j := 2) rfl (v := .int .i64 p2.from_) rfl ?_
    refine WO.gbin (GuardIs.no rfl rfl rfl (fs2 rfl fh)) rfl (fun hg => (evG fh rfl hg)) (fun hg => (evC rfl)) (fun hg => abin_eql) ?_
    refine WO.por gN rfl (evT (fs2 rfl (fskip rfl fh)) rfl) (evC rfl) (evGU fh) ?_
    refine WO.nil ?_
    refine SeqK.nrm ?_
    refine WC.condN (evT fh rfl) (fun hc => ?_) (fun hc => ?_)
    · replace hL := cond_tt hc hL
      refine WC.seq ?_
      refine WC.region ?_
      refine WO.fld gN rfl fld61_2 (evT (fs8 rfl (fs8 rfl (fs8 rfl (fs8 rfl (fskip rfl fh))))) rfl) ?_
      refine WO.ld gN rfl agg3 (evT fh rfl) (At.box hb10) (j := 2) rfl (v := .int .i64 p2.from_) rfl ?_
      refine WO.bin gN rfl (evT fh rfl) (evC rfl) abin_eql ?_
      refine WO.mv gN rfl (evT fh rfl) ?_
      refine WO.gfld (GuardIs.yes rfl rfl rfl fh) rfl fld61_3 (fun hg => (evT (fs8 rfl (fs8 rfl (fs8 rfl (fs8 rfl (fs4 rfl (fskip rfl fh)))))) rfl)) ?_
      refine WO.gld (GuardIs.yes rfl rfl rfl (fskip rfl fh)) rfl agg3 (fun hg => (evG fh rfl hg)) (fun hg => (At.box hb10)) (j := 3) rfl (v := .int .i64 p2.has) rfl ?_
      refine WO.gbin (GuardIs.yes rfl rfl rfl (fs2 rfl fh)) rfl (fun hg => (evG fh rfl hg)) (fun hg => (evC rfl)) (fun hg => abin_eql) ?_
      refine WO.pand gN rfl (evT (fs2 rfl (fskip rfl fh)) rfl) (evGU fh) (evC rfl) ?_
      refine WO.as gN rfl (evT fh rfl) ?_
      refine WO.nil ?_
      refine SeqK.nrm ?_
      refine WC.ret ?_
      refine SeqK.ret ?_
      have hr := Option.some.inj hL
      subst hr
      exact RetK.gen1 rfl (ares_tmp (evT fh rfl) ares_nil) rfl
    · replace hL := cond_ff hc hL
      refine WC.skip ?_
      refine SeqK.nrm ?_
      refine WC.seq ?_
      refine WC.region ?_
      refine WO.mv gN rfl (evT (fs8 rfl (fs8 rfl (fs8 rfl (fs8 rfl (fs4 rfl fh))))) rfl) ?_
      refine WO.fld gN rfl fld61_2 (evT (fs8 rfl (fs8 rfl (fs8 rfl (fs8 rfl (fs2 rfl fh))))) rfl) ?_
      refine WO.ld gN rfl agg3 (evT fh rfl) (At.box hb10) (j := 2) rfl (v := .int .i64 p2.from_) rfl ?_
      obtain ⟨x12, hx12, hL⟩ := bind_some hL
      refine WO.cf gN rfl has124 (evs_cons (evT (fs2 rfl fh) rfl) (evs_cons (evT fh rfl) evs_nil)) (f124_ok hAb6 (Stb.up (Nat.le_trans hwm hG.size) hSb6) (MapAt.all (hsm1).at_) (Src.sl (Sl.src hsa2) (Nat.le_trans hwm hG.size)) (Src.sl (Sl.src hsa4) (Nat.le_trans hwm hG.size)) hx12 _) ?_
      refine WO.mv gN rfl (evT fh rfl) ?_
      refine WO.gfld (GuardIs.yes rfl rfl rfl fh) rfl fld61_2 (fun hg => (evT (fs8 rfl (fs8 rfl (fs8 rfl (fs8 rfl (fs4 rfl (fs2 rfl fh)))))) rfl)) ?_
      refine WO.gld (GuardIs.yes rfl rfl rfl (fskip rfl fh)) rfl agg3 (fun hg => (evG fh rfl hg)) (fun hg => (At.box hb10)) (j := 2) rfl (v := .int .i64 p2.from_) rfl ?_
      refine WO.gmv (GuardIs.yes rfl rfl rfl (fs2 rfl fh)) rfl (fun hg => (evT (fs8 rfl (fs8 rfl (fs8 rfl (fs8 rfl (fs8 rfl (fs2 rfl fh)))))) rfl)) ?_
      refine WO.gbin (GuardIs.yes rfl rfl rfl (fs2 rfl (fskip rfl fh))) rfl (fun hg => (evG (fskip rfl fh) rfl hg)) (fun hg => (evG fh rfl hg)) (fun hg => abin_neq) ?_
      refine WO.pand gN rfl (evT (fs4 rfl fh) rfl) (evGU fh) (evC rfl) ?_
      refine WO.mv gN rfl (evT fh rfl) ?_
      refine WO.gfld (GuardIs.yes rfl rfl rfl fh) rfl fld61_3 (fun hg => (evT (fs8 rfl (fs8 rfl (fs8 rfl (fs8 rfl (fs8 rfl (fs4 rfl fh)))))) rfl)) ?_
      refine WO.gld (GuardIs.yes rfl rfl rfl (fskip rfl fh)) rfl agg3 (fun hg => (evG fh rfl hg)) (fun hg => (At.box hb10)) (j := 3) rfl (v := .int .i64 p2.has) rfl ?_
      refine WO.gbin (GuardIs.yes rfl rfl rfl (fs2 rfl fh)) rfl (fun hg => (evG fh rfl hg)) (fun hg => (evC rfl)) (fun hg => abin_geq) ?_
      refine WO.pand gN rfl (evT (fs2 rfl (fskip rfl fh)) rfl) (evGU fh) (evC rfl) ?_
      refine WO.mv gN rfl (evT fh rfl) ?_
      refine WO.gfld (GuardIs.yes rfl rfl rfl fh) rfl fld61_3 (fun hg => (evT (fs8 rfl (fs8 rfl (fs8 rfl (fs8 rfl (fs8 rfl (fs8 rfl (fskip rfl fh))))))) rfl)) ?_
      refine WO.gld (GuardIs.yes rfl rfl rfl (fskip rfl fh)) rfl agg3 (fun hg => (evG fh rfl hg)) (fun hg => (At.box hb10)) (j := 3) rfl (v := .int .i64 p2.has) rfl ?_
      refine WO.gbin (GuardIs.yes rfl rfl rfl (fs2 rfl fh)) rfl (fun hg => (evG fh rfl hg)) (fun hg => (evC rfl)) (fun hg => abin_leq) ?_
      refine WO.pand gN rfl (evT (fs2 rfl (fskip rfl fh)) rfl) (evGU fh) (evC rfl) ?_
      refine WO.as gN rfl (evT fh rfl) ?_
      refine WO.nil ?_
      refine SeqK.nrm ?_
      refine WC.ret ?_
      have hr := Option.some.inj hL
      subst hr
      exact RetK.gen1 rfl (ares_tmp (evT fh rfl) ares_nil) rfl
theorem f113_ok {F : Nat} {h : H} {p0 : Store} {p1 : Int} {p2 : WeighCell} {b6 o7 : Nat} {m1 : Option Nat} {a2 : Option Addr} {c3 : Nat} {a4 : Option Addr} {c5 : Nat} {r : Bool} (hAb6 : At h b6 o7 [.int .i64 p0.machines, .int .i64 p0.names, .map m1, .slice a2 p0.notes.length c3, .slice a4 p0.freed.length c5]) (hSb6 : Stb h.size h b6) (hsm1 : MapS wvArr2Int wvWeighCell h.size h m1 p0.cells) (hsa2 : Sl rWeighNote h.size h a2 c3 p0.notes) (hsa4 : Sl (rInt .i64) h.size h a4 c5 p0.freed) (hL : f113L F p0 p1 p2 = some r) : Pure XX 113 #[.pointer (some ⟨b6, o7, none⟩), .int .i64 p1, .agg [.int .i64 p2.name, .bool p2.root, .int .i64 p2.from_, .int .i64 p2.has, .int .i64 p2.out, .bool p2.use].toArray] h (.bool r) :=
  WF.pureR rfl (f113_wf (Nat.le_refl _) hAb6 hSb6 hsm1 hsa2 hsa4 hL)
theorem f114_wf {F : Nat} {wm : Nat} {h : H} {p0 : Store} {p1 : WeighNote} {b6 o7 : Nat} {m1 : Option Nat} {a2 : Option Addr} {c3 : Nat} {a4 : Option Addr} {c5 : Nat} {r : Bool} (hwm : wm ≤ h.size) (hAb6 : At h b6 o7 [.int .i64 p0.machines, .int .i64 p0.names, .map m1, .slice a2 p0.notes.length c3, .slice a4 p0.freed.length c5]) (hSb6 : Stb wm h b6) (hsm1 : MapS wvArr2Int wvWeighCell wm h m1 p0.cells) (hsa2 : Sl rWeighNote wm h a2 c3 p0.notes) (hsa4 : Sl (rInt .i64) wm h a4 c5 p0.freed) (hL : f114L F p0 p1 = some r) :
    WR XX 114 #[.pointer (some ⟨b6, o7, none⟩), .agg [.int .i64 p1.kind, .int .i64 p1.to_, .int .i64 p1.name, .int .i64 p1.via, .int .i64 p1.w].toArray] wm h (fun v _ => v = .bool r) := by
  refine WF.begin (args := [_, _]) (fn := Try.f114) (by kernel_rfl) (by exact rfl) Try.ntmps114 (by simp) ?_
  simp only [frameOf_cons, frameOf_nil, Nat.reduceAdd]
  have hG : Grow h h := Grow.refl h
  unfold f114L at hL
  refine WC.seq ?_
  refine WC.region ?_
  refine WO.boxN h.size gN rfl (evT fh rfl) (vs := [.int .i64 p1.kind, .int .i64 p1.to_, .int .i64 p1.name, .int .i64 p1.via, .int .i64 p1.w]) rfl (fun h8 u9 hb10 => ?_)
  have whb10 : h.size ≤ h.size := hG.size
  have hsm1 := MapS.fz hsm1 (u9.fz hwm)
  have hsa2 := hsa2.mono (u9.fz hwm)
  have hsa4 := hsa4.mono (u9.fz hwm)
  have qhAb6 := Stb.fz (u9.fz hwm) hAb6 hSb6
  have hAb6 := At.fz (u9.fz hwm) hSb6 hAb6
  have hSb6 := qhAb6
  have hG := u9.grow hG (Nat.le_refl _)
  refine WO.as gN rfl (evC rfl) ?_
  refine WO.nil ?_
  refine SeqK.nrm ?_
  refine WC.seq ?_
  refine WC.seq ?_
  refine WC.region ?_
  refine WO.mv gN rfl (evT (fs2 rfl (fskip rfl fh)) rfl) ?_
  refine WO.fld gN rfl fld58_1 (evT (fs2 rfl fh) rfl) ?_
  refine WO.ld gN rfl agg3 (evT fh rfl) (At.box hb10) (j := 1) rfl (v := .int .i64 p1.to_) rfl ?_
  obtain ⟨x11, hx11, hL⟩ := bind_some hL
  refine WO.cf gN rfl has124 (evs_cons (evT (fs2 rfl fh) rfl) (evs_cons (evT fh rfl) evs_nil)) (f124_ok hAb6 (Stb.up (Nat.le_trans hwm hG.size) hSb6) (MapAt.all (hsm1).at_) (Src.sl (Sl.src hsa2) (Nat.le_trans hwm hG.size)) (Src.sl (Sl.src hsa4) (Nat.le_trans hwm hG.size)) hx11 _) ?_
  refine WO.not gN rfl (evT fh rfl) ?_
  refine WO.mv gN rfl (evT fh rfl) ?_
  refine WO.gmv (GuardIs.no rfl rfl rfl fh) rfl (fun hg => (evT (fs8 rfl (fskip rfl fh)) rfl)) ?_
  refine WO.gfld (GuardIs.no rfl rfl rfl (fskip rfl fh)) rfl fld58_2 (fun hg => (evT (fs8 rfl fh) rfl)) ?_
  refine WO.gld (GuardIs.no rfl rfl rfl (fs2 rfl fh)) rfl agg3 (fun hg => (evG fh rfl hg)) (fun hg => (At.box hb10)) (j := 2) rfl (v := .int .i64 p1.name) rfl ?_
  obtain ⟨x12, hx12, hL⟩ := gd_some hL
  refine WO.gcf (GuardIs.no rfl rfl rfl (fs2 rfl (fskip rfl fh))) rfl has89 (fun hg => (evs_cons (evG (fs2 rfl fh) rfl hg) (evs_cons (evG fh rfl hg) evs_nil))) (fun hg => f89_ok hAb6 (Stb.up (Nat.le_trans hwm hG.size) hSb6) (MapAt.all (hsm1).at_) (Src.sl (Sl.src hsa2) (Nat.le_trans hwm hG.size)) (Src.sl (Sl.src hsa4) (Nat.le_trans hwm hG.size)) (hx12 hg) _) ?_
  refine WO.gnot (GuardIs.no rfl rfl rfl (fs4 rfl fh)) rfl (fun hg => (evG fh rfl hg)) ?_
  refine WO.por gN rfl (evT (fs4 rfl (fskip rfl fh)) rfl) (evC rfl) (evGU fh) ?_
  refine WO.mv gN rfl (evT fh rfl) ?_
  refine WO.gfld (GuardIs.no rfl rfl rfl fh) rfl fld58_4 (fun hg => (evT (fs8 rfl (fs4 rfl (fs2 rfl fh))) rfl)) ?_
  refine WO.gld (GuardIs.no rfl rfl rfl (fskip rfl fh)) rfl agg3 (fun hg => (evG fh rfl hg)) (fun hg => (At.box hb10)) (j := 4) rfl (v := .int .i64 p1.w) rfl ?_
  refine WO.gbin (GuardIs.no rfl rfl rfl (fs2 rfl fh)) rfl (fun hg => (evG fh rfl hg)) (fun hg => (evC rfl)) (fun hg => abin_lss) ?_
  refine WO.por gN rfl (evT (fs2 rfl (fskip rfl fh)) rfl) (evC rfl) (evGU fh) ?_
  refine WO.mv gN rfl (evT fh rfl) ?_
  refine WO.gfld (GuardIs.no rfl rfl rfl fh) rfl fld58_4 (fun hg => (evT (fs8 rfl (fs8 rfl (fs2 rfl (fskip rfl fh)))) rfl)) ?_
  refine WO.gld (GuardIs.no rfl rfl rfl (fskip rfl fh)) rfl agg3 (fun hg => (evG fh rfl hg)) (fun hg => (At.box hb10)) (j := 4) rfl (v := .int .i64 p1.w) rfl ?_
  refine WO.gbin (GuardIs.no rfl rfl rfl (fs2 rfl fh)) rfl (fun hg => (evG fh rfl hg)) (fun hg => (evC rfl)) (fun hg => abin_gtr) ?_
  refine WO.por gN rfl (evT (fs2 rfl (fskip rfl fh)) rfl) (evC rfl) (evGU fh) ?_
  refine WO.nil ?_
  refine SeqK.nrm ?_
  refine WC.condN (evT fh rfl) (fun hc => ?_) (fun hc => ?_)
  · replace hL := cond_tt hc hL
    refine WC.seq ?_
    refine WC.region ?_
    refine WO.as gN rfl (evC rfl) ?_
    refine WO.nil ?_
    refine SeqK.nrm ?_
    refine WC.ret ?_
    refine SeqK.ret ?_
    have hr := Option.some.inj hL
    subst hr
    exact RetK.gen1 rfl (ares_tmp (evT fh rfl) ares_nil) rfl
  · replace hL := cond_ff hc hL
    refine WC.skip ?_
    refine SeqK.nrm ?_
    refine WC.seq ?_
    refine WC.seq ?_
    refine WC.region ?_
    refine WO.fld gN rfl fld58_0 (evT (fs8 rfl (fs8 rfl (fs4 rfl (fs2 rfl (fskip rfl fh))))) rfl) ?_
    refine WO.ld gN rfl agg56 (evT fh rfl) (At.box hb10) (j := 0) rfl (v := .int .i64 p1.kind) rfl ?_
    refine WO.nil ?_
    refine SeqK.nrm ?_
    refine WC.block ?_
    refine WC.seq ?_
    refine WC.region ?_
    refine WO.bin gN rfl (evT fh rfl) (evC rfl) abin_eql ?_
    refine WO.as gN rfl (evT fh rfl) ?_
    refine WO.nil ?_
    refine SeqK.nrm ?_
    refine WC.condN (evT fh rfl) (fun hc => ?_) (fun hc => ?_)
    · replace hL := cond_tt hc hL
      refine WC.seq ?_
      refine WC.region ?_
      refine WO.mv gN rfl (evT (fs8 rfl (fs8 rfl (fs8 rfl (fs4 rfl (fskip rfl fh))))) rfl) ?_
      refine WO.fld gN rfl fld58_3 (evT (fs8 rfl (fs8 rfl (fs8 rfl (fs4 rfl fh)))) rfl) ?_
      refine WO.ld gN rfl agg3 (evT fh rfl) (At.box hb10) (j := 3) rfl (v := .int .i64 p1.via) rfl ?_
      obtain ⟨x13, hx13, hL⟩ := bind_some hL
      refine WO.cf gN rfl has124 (evs_cons (evT (fs2 rfl fh) rfl) (evs_cons (evT fh rfl) evs_nil)) (f124_ok hAb6 (Stb.up (Nat.le_trans hwm hG.size) hSb6) (MapAt.all (hsm1).at_) (Src.sl (Sl.src hsa2) (Nat.le_trans hwm hG.size)) (Src.sl (Sl.src hsa4) (Nat.le_trans hwm hG.size)) hx13 _) ?_
      refine WO.as gN rfl (evT fh rfl) ?_
      refine WO.nil ?_
      refine SeqK.nrm ?_
      refine WC.ret ?_
      refine BlkK.ret ?_
      refine SeqK.ret ?_
      have hr := Option.some.inj hL
      subst hr
      exact RetK.gen1 rfl (ares_tmp (evT fh rfl) ares_nil) rfl
    · replace hL := cond_ff hc hL
      refine WC.seq ?_
      refine WC.region ?_
      refine WO.bin gN rfl (evT (fs2 rfl fh) rfl) (evC rfl) abin_eql ?_
      refine WO.as gN rfl (evT fh rfl) ?_
      refine WO.nil ?_
      refine SeqK.nrm ?_
      refine WC.condN (evT fh rfl) (fun hc => ?_) (fun hc => ?_)
      · replace hL := cond_tt hc hL
        refine WC.seq ?_
        refine WC.region ?_
        refine WO.fld gN rfl fld58_3 (evT (fs8 rfl (fs8 rfl (fs8 rfl (fs4 rfl (fskip rfl fh))))) rfl) ?_
        refine WO.ld gN rfl agg3 (evT fh rfl) (At.box hb10) (j := 3) rfl (v := .int .i64 p1.via) rfl ?_
        refine WO.bin gN rfl (evT fh rfl) (evC rfl) abin_eql ?_
        refine WO.as gN rfl (evT fh rfl) ?_
        refine WO.nil ?_
        refine SeqK.nrm ?_
        refine WC.ret ?_
        refine BlkK.ret ?_
        refine SeqK.ret ?_
        have hr := Option.some.inj hL
        subst hr
        exact RetK.gen1 rfl (ares_tmp (evT fh rfl) ares_nil) rfl
      · replace hL := cond_ff hc hL
        refine WC.skip ?_
        refine BlkK.nrm ?_
        refine SeqK.nrm ?_
        refine WC.seq ?_
        refine WC.region ?_
        refine WO.fld gN rfl fld58_0 (evT (fs8 rfl (fs8 rfl (fs8 rfl (fs4 rfl (fskip rfl fh))))) rfl) ?_
        refine WO.ld gN rfl agg56 (evT fh rfl) (At.box hb10) (j := 0) rfl (v := .int .i64 p1.kind) rfl ?_
        refine WO.bin gN rfl (evT fh rfl) (evC rfl) abin_eql ?_
        refine WO.mv gN rfl (evT fh rfl) ?_
        refine WO.gfld (GuardIs.yes rfl rfl rfl fh) rfl fld58_3 (fun hg => (evT (fs8 rfl (fs8 rfl (fs8 rfl (fs8 rfl (fskip rfl fh))))) rfl)) ?_
        refine WO.gld (GuardIs.yes rfl rfl rfl (fskip rfl fh)) rfl agg3 (fun hg => (evG fh rfl hg)) (fun hg => (At.box hb10)) (j := 3) rfl (v := .int .i64 p1.via) rfl ?_
        refine WO.gbin (GuardIs.yes rfl rfl rfl (fs2 rfl fh)) rfl (fun hg => (evG fh rfl hg)) (fun hg => (evC rfl)) (fun hg => abin_eql) ?_
        refine WO.pand gN rfl (evT (fs2 rfl (fskip rfl fh)) rfl) (evGU fh) (evC rfl) ?_
        refine WO.mv gN rfl (evT fh rfl) ?_
        refine WO.gfld (GuardIs.yes rfl rfl rfl fh) rfl fld58_4 (fun hg => (evT (fs8 rfl (fs8 rfl (fs8 rfl (fs8 rfl (fs4 rfl (fs2 rfl fh)))))) rfl)) ?_
        refine WO.gld (GuardIs.yes rfl rfl rfl (fskip rfl fh)) rfl agg3 (fun hg => (evG fh rfl hg)) (fun hg => (At.box hb10)) (j := 4) rfl (v := .int .i64 p1.w) rfl ?_
        refine WO.gbin (GuardIs.yes rfl rfl rfl (fs2 rfl fh)) rfl (fun hg => (evG fh rfl hg)) (fun hg => (evC rfl)) (fun hg => abin_eql) ?_
        refine WO.pand gN rfl (evT (fs2 rfl (fskip rfl fh)) rfl) (evGU fh) (evC rfl) ?_
        refine WO.as gN rfl (evT fh rfl) ?_
        refine WO.nil ?_
        refine SeqK.nrm ?_
        refine WC.ret ?_
        have hr := Option.some.inj hL
        subst hr
        exact RetK.gen1 rfl (ares_tmp (evT fh rfl) ares_nil) rfl
theorem f114_ok {F : Nat} {h : H} {p0 : Store} {p1 : WeighNote} {b6 o7 : Nat} {m1 : Option Nat} {a2 : Option Addr} {c3 : Nat} {a4 : Option Addr} {c5 : Nat} {r : Bool} (hAb6 : At h b6 o7 [.int .i64 p0.machines, .int .i64 p0.names, .map m1, .slice a2 p0.notes.length c3, .slice a4 p0.freed.length c5]) (hSb6 : Stb h.size h b6) (hsm1 : MapS wvArr2Int wvWeighCell h.size h m1 p0.cells) (hsa2 : Sl rWeighNote h.size h a2 c3 p0.notes) (hsa4 : Sl (rInt .i64) h.size h a4 c5 p0.freed) (hL : f114L F p0 p1 = some r) : Pure XX 114 #[.pointer (some ⟨b6, o7, none⟩), .agg [.int .i64 p1.kind, .int .i64 p1.to_, .int .i64 p1.name, .int .i64 p1.via, .int .i64 p1.w].toArray] h (.bool r) :=
  WF.pureR rfl (f114_wf (Nat.le_refl _) hAb6 hSb6 hsm1 hsa2 hsa4 hL)
theorem f88_wf {F : Nat} {wm : Nat} {h : H} {p0 : Store} {p1 : WeighWorld} {b6 o7 : Nat} {m1 : Option Nat} {a2 : Option Addr} {c3 : Nat} {a4 : Option Addr} {c5 : Nat} {a8 : Option Addr} {c9 : Nat} {a10 : Option Addr} {c11 : Nat} {a12 : Option Addr} {c13 : Nat} {r : Bool} (hwm : wm ≤ h.size) (hAb6 : At h b6 o7 [.int .i64 p0.machines, .int .i64 p0.names, .map m1, .slice a2 p0.notes.length c3, .slice a4 p0.freed.length c5]) (hSb6 : Stb wm h b6) (hsm1 : MapS wvArr2Int wvWeighCell wm h m1 p0.cells) (hsa2 : Sl rWeighNote wm h a2 c3 p0.notes) (hsa4 : Sl (rInt .i64) wm h a4 c5 p0.freed) (hsa8 : Sl (rSl rWeighCell) wm h a8 c9 p1.cells) (hsa10 : Sl rWeighNote wm h a10 c11 p1.notes) (hsa12 : Sl (rInt .i64) wm h a12 c13 p1.freed) (hL : f88L F p0 p1 = some r) :
    WR XX 88 #[.pointer (some ⟨b6, o7, none⟩), .agg [.slice a8 p1.cells.length c9, .slice a10 p1.notes.length c11, .int .i64 p1.names, .slice a12 p1.freed.length c13].toArray] wm h (fun v _ => v = .bool r) := by
  refine WF.begin (args := [_, _]) (fn := Try.f88) (by kernel_rfl) (by exact rfl) Try.ntmps88 (by simp) ?_
  simp only [frameOf_cons, frameOf_nil, Nat.reduceAdd]
  have hG : Grow h h := Grow.refl h
  unfold f88L at hL
  refine WC.seq ?_
  refine WC.region ?_
  refine WO.boxN h.size gN rfl (evT fh rfl) (vs := [.slice a8 p1.cells.length c9, .slice a10 p1.notes.length c11, .int .i64 p1.names, .slice a12 p1.freed.length c13]) rfl (fun h14 u15 hb16 => ?_)
  have whb16 : h.size ≤ h.size := hG.size
  have hsm1 := MapS.fz hsm1 (u15.fz hwm)
  have hsa2 := hsa2.mono (u15.fz hwm)
  have hsa4 := hsa4.mono (u15.fz hwm)
  have hsa8 := hsa8.mono (u15.fz hwm)
  have hsa10 := hsa10.mono (u15.fz hwm)
  have hsa12 := hsa12.mono (u15.fz hwm)
  have qhAb6 := Stb.fz (u15.fz hwm) hAb6 hSb6
  have hAb6 := At.fz (u15.fz hwm) hSb6 hAb6
  have hSb6 := qhAb6
  have hG := u15.grow hG (Nat.le_refl _)
  refine WO.as gN rfl (evC rfl) ?_
  refine WO.nil ?_
  refine SeqK.nrm ?_
  refine WC.seq ?_
  refine WC.seq ?_
  refine WC.region ?_
  refine WO.fld gN rfl fld26_0 (evT (fskip rfl fh) rfl) ?_
  refine WO.ld gN rfl agg22 (evT fh rfl) (At.box hb16) (j := 0) rfl (v := .slice a8 p1.cells.length c9) rfl ?_
  refine WO.len gN rfl und22 (evT fh rfl) ?_
  refine WO.mv gN rfl (evC rfl) ?_
  refine WO.nil ?_
  refine SeqK.nrm ?_
  refine WC.block ?_
  refine WC.loop (WL.lift hL (fun (v23 : Int) (s : Fs) => ∃ (fr18 : Fr) (h17 : H), s = ⟨fr18, [], h17, none⟩ ∧ Grow h h17 ∧ fr18.at 0 = .pointer (some ⟨b6, o7, none⟩) ∧ fr18.at 3 = .pointer (some ⟨h.size, 0, none⟩) ∧ fr18.at 12 = .slice a8 p1.cells.length c9 ∧ fr18.at 13 = .int .i64 (p1.cells.length : Int) ∧ fr18.at 14 = .int .i64 v23 ∧ h17.at (h.size) = .row [.slice a8 p1.cells.length c9, .slice a10 p1.notes.length c11, .int .i64 p1.names, .slice a12 p1.freed.length c13] true 0 ∧ MapS wvArr2Int wvWeighCell wm h17 m1 p0.cells ∧ Sl rWeighNote wm h17 a2 c3 p0.notes ∧ Sl (rInt .i64) wm h17 a4 c5 p0.freed ∧ Sl (rSl rWeighCell) wm h17 a8 c9 p1.cells ∧ Sl rWeighNote wm h17 a10 c11 p1.notes ∧ Sl (rInt .i64) wm h17 a12 c13 p1.freed ∧ At h17 b6 o7 [.int .i64 p0.machines, .int .i64 p0.names, .map m1, .slice a2 p0.notes.length c3, .slice a4 p0.freed.length c5] ∧ Stb wm h17 b6) ⟨_, _, rfl, hG, (fs4 rfl (fs2 rfl (fskip rfl fh))), (fs4 rfl (fskip rfl fh)), (fs2 rfl fh), (fskip rfl fh), fh, hb16, hsm1, hsa2, hsa4, hsa8, hsa10, hsa12, hAb6, hSb6⟩ ?_)
  clear hL
  rintro next34 v23 s hnext34 hL ⟨fr18, h17, rfl, hG, e19, e20, e21, e22, e24, hb25, hs26, hs27, hs28, hs29, hs30, hs31, hA32, hS33⟩
  dsimp only [f88_b0] at hL
  refine WC.seq ?_
  refine WC.region ?_
  refine WO.bin gN rfl (evT e24 rfl) (evT e22 rfl) abin_lss ?_
  refine WO.nil ?_
  refine SeqK.nrm ?_
  refine WC.seq ?_
  refine WC.condN (evT fh rfl) (fun hc => ?_) (fun hc => ?_)
  · replace hL := cond_tt hc hL
    refine WC.skip ?_
    refine SeqK.nrm ?_
    refine WC.seq ?_
    refine WC.block ?_
    refine WC.seq ?_
    refine WC.region ?_
    refine WO.mv gN rfl (evT (fskip rfl e24) rfl) ?_
    obtain ⟨x35, hx35, hL⟩ := bind_some hL
    obtain ⟨b36, o37, ⟨a38, c39⟩, hab36, hAb36, hSb36, hFb36⟩ := Sl.at_ hs29 hx35
    refine WO.ix gN rfl und22 size59 (evT (fs2 rfl e21) rfl) (evT (fs2 rfl e24) rfl) hab36 hx35 ?_
    have hsa38 : Sl rWeighCell wm h17 a38 c39 x35 := hFb36
    refine WO.ld gN rfl agg59 (evT fh rfl) hAb36 (j := 0) rfl (v := .slice a38 x35.length c39) rfl ?_
    refine WO.as gN rfl (evT (fs2 rfl fh) rfl) ?_
    refine WO.as gN rfl (evT (fskip rfl fh) rfl) ?_
    refine WO.nil ?_
    refine SeqK.nrm ?_
    refine WC.seq ?_
    refine WC.region ?_
    refine WO.mv gN rfl (evT fh rfl) ?_
    refine WO.len gN rfl und59 (evT fh rfl) ?_
    refine WO.mv gN rfl (evC rfl) ?_
    refine WO.nil ?_
    refine SeqK.nrm ?_
    refine WC.block ?_
    refine WC.loop (WL.lift hL (fun (v51 : Int) (s : Fs) => ∃ (fr41 : Fr) (h40 : H), s = ⟨fr41, [], h40, none⟩ ∧ Grow h h40 ∧ fr41.at 0 = .pointer (some ⟨b6, o7, none⟩) ∧ fr41.at 3 = .pointer (some ⟨h.size, 0, none⟩) ∧ fr41.at 5 = .int .i64 v23 ∧ fr41.at 6 = .slice a38 x35.length c39 ∧ fr41.at 12 = .slice a8 p1.cells.length c9 ∧ fr41.at 13 = .int .i64 (p1.cells.length : Int) ∧ fr41.at 14 = .int .i64 v23 ∧ fr41.at 19 = .slice a38 x35.length c39 ∧ fr41.at 20 = .int .i64 (x35.length : Int) ∧ fr41.at 21 = .int .i64 v51 ∧ h40.at (h.size) = .row [.slice a8 p1.cells.length c9, .slice a10 p1.notes.length c11, .int .i64 p1.names, .slice a12 p1.freed.length c13] true 0 ∧ MapS wvArr2Int wvWeighCell wm h40 m1 p0.cells ∧ Sl rWeighNote wm h40 a2 c3 p0.notes ∧ Sl (rInt .i64) wm h40 a4 c5 p0.freed ∧ Sl rWeighCell wm h40 a38 c39 x35 ∧ Sl (rSl rWeighCell) wm h40 a8 c9 p1.cells ∧ Sl rWeighNote wm h40 a10 c11 p1.notes ∧ Sl (rInt .i64) wm h40 a12 c13 p1.freed ∧ At h40 b6 o7 [.int .i64 p0.machines, .int .i64 p0.names, .map m1, .slice a2 p0.notes.length c3, .slice a4 p0.freed.length c5] ∧ Stb wm h40 b6) ⟨_, _, rfl, hG, (fs8 rfl (fskip rfl e19)), (fs8 rfl (fskip rfl e20)), (fs4 rfl fh), (fs2 rfl (fskip rfl fh)), (fs8 rfl (fskip rfl e21)), (fs8 rfl (fskip rfl e22)), (fs8 rfl (fskip rfl e24)), (fs2 rfl fh), (fskip rfl fh), fh, hb25, hs26, hs27, hs28, hsa38, hs29, hs30, hs31, hA32, hS33⟩ ?_)
    clear hL
    rintro next63 v51 s hnext63 hL ⟨fr41, h40, rfl, hG, e42, e43, e44, e45, e46, e47, e48, e49, e50, e52, hb53, hs54, hs55, hs56, hs57, hs58, hs59, hs60, hA61, hS62⟩
    dsimp only [f88_b1] at hL
    refine WC.seq ?_
    refine WC.region ?_
    refine WO.bin gN rfl (evT e52 rfl) (evT e50 rfl) abin_lss ?_
    refine WO.nil ?_
    refine SeqK.nrm ?_
    refine WC.seq ?_
    refine WC.condN (evT fh rfl) (fun hc => ?_) (fun hc => ?_)
    · replace hL := cond_tt hc hL
      refine WC.skip ?_
      refine SeqK.nrm ?_
      refine WC.seq ?_
      refine WC.block ?_
      refine WC.seq ?_
      refine WC.region ?_
      refine WO.mv gN rfl (evT (fskip rfl e52) rfl) ?_
      obtain ⟨x64, hx64, hL⟩ := bind_some hL
      obtain ⟨b65, o66, _, hab65, hAb65, hSb65, hFb65⟩ := Sl.at_ hs57 hx64
      refine WO.ix gN rfl und59 size61 (evT (fs2 rfl e49) rfl) (evT (fs2 rfl e52) rfl) hab65 hx64 ?_
      refine WO.ldA gN rfl agg61 size61 (evT fh rfl) hAb65 (j := 0) rfl rfl (ws := [.int .i64 x64.name, .bool x64.root, .int .i64 x64.from_, .int .i64 x64.has, .int .i64 x64.out, .bool x64.use]) rfl ?_
      refine WO.alcN h.size gN rfl zero61 (vs := [.int .i64 0, .bool false, .int .i64 0, .int .i64 0, .int .i64 0, .bool false]) rfl (fun h67 u68 hb69 => ?_)
      have whb69 : h.size ≤ h40.size := hG.size
      have ne70 := Nat.ne_of_lt (live_lt hb53 rfl)
      have hb53 := u68.row (fun z => z) hb53
      have hs54 := MapS.fz hs54 (u68.fz hwm)
      have hs55 := hs55.mono (u68.fz hwm)
      have hs56 := hs56.mono (u68.fz hwm)
      have hs57 := hs57.mono (u68.fz hwm)
      have hs58 := hs58.mono (u68.fz hwm)
      have hs59 := hs59.mono (u68.fz hwm)
      have hs60 := hs60.mono (u68.fz hwm)
      have qhA61 := Stb.fz (u68.fz hwm) hA61 hS62
      have hA61 := At.fz (u68.fz hwm) hS62 hA61
      have hS62 := qhA61
      have qhAb65 := Stb.fz (u68.fz hwm) hAb65 hSb65
      have hAb65 := At.fz (u68.fz hwm) hSb65 hAb65
      have hSb65 := qhAb65
      have hG := u68.grow hG (Nat.le_refl _)
      refine WO.as gN rfl (evT (fs2 rfl (fskip rfl fh)) rfl) ?_
      refine WO.stN h.size gN size61 (evT (fskip rfl fh) rfl) (evT (fs2 rfl fh) rfl) hb69 whb69 hwm (vs := [.int .i64 x64.name, .bool x64.root, .int .i64 x64.from_, .int .i64 x64.has, .int .i64 x64.out, .bool x64.use]) rfl rfl rfl rfl (cs' := [.int .i64 x64.name, .bool x64.root, .int .i64 x64.from_, .int .i64 x64.has, .int .i64 x64.out, .bool x64.use]) rfl (fun h71 u72 hb73 => ?_)
      have hb53 := u72.row ne70 hb53
      have hs54 := MapS.fz hs54 (u72.fz hwm)
      have hs55 := hs55.mono (u72.fz hwm)
      have hs56 := hs56.mono (u72.fz hwm)
      have hs57 := hs57.mono (u72.fz hwm)
      have hs58 := hs58.mono (u72.fz hwm)
      have hs59 := hs59.mono (u72.fz hwm)
      have hs60 := hs60.mono (u72.fz hwm)
      have qhA61 := Stb.fz (u72.fz hwm) hA61 hS62
      have hA61 := At.fz (u72.fz hwm) hS62 hA61
      have hS62 := qhA61
      have qhAb65 := Stb.fz (u72.fz hwm) hAb65 hSb65
      have hAb65 := At.fz (u72.fz hwm) hSb65 hAb65
      have hSb65 := qhAb65
      have hG := u72.grow hG (Nat.le_refl _)
      refine WO.nil ?_
      refine SeqK.nrm ?_
      refine WC.seq ?_
      refine WC.drawQ mixed (by kernel_rfl) ?_
      refine WQ.mv gN rfl (evT (fs4 rfl (fs2 rfl e42)) rfl) ?_
      refine WQ.mv gN rfl (evT (fs4 rfl (fs2 rfl (fskip rfl e44))) rfl) ?_
      refine WQ.ldA gN rfl agg61 size61 (evT (fs2 rfl (fskip rfl fh)) rfl) (At.box hb73) (j := 0) rfl rfl (ws := [.int .i64 x64.name, .bool x64.root, .int .i64 x64.from_, .int .i64 x64.has, .int .i64 x64.out, .bool x64.use]) rfl ?_
      obtain ⟨x74, hx74, hL⟩ := bind_some hL
      refine WQ.cf gN rfl has113 (evs_cons (evT (fs2 rfl fh) rfl) (evs_cons (evT (fskip rfl fh) rfl) (evs_cons (evT fh rfl) evs_nil))) (f113_ok hA61 (Stb.up (Nat.le_trans hwm hG.size) hS62) (MapAt.all (hs54).at_) (Src.sl (Sl.src hs55) (Nat.le_trans hwm hG.size)) (Src.sl (Sl.src hs56) (Nat.le_trans hwm hG.size)) hx74 _) ?_
      refine WQ.not gN rfl (evT fh rfl) ?_
      refine WQ.mv gN rfl (evT fh rfl) ?_
      refine WQ.gmv (GuardIs.no rfl rfl rfl fh) rfl (fun hg => (evT (fs4 rfl (fs2 rfl fh)) rfl)) ?_
      refine WQ.gbin (GuardIs.no rfl rfl rfl (fskip rfl fh)) rfl (fun hg => (evG fh rfl hg)) (fun hg => (evC rfl)) (fun hg => abin_gtr) ?_
      refine WQ.gmv (GuardIs.no rfl rfl rfl (fs2 rfl fh)) rfl (fun hg => (evG fh rfl hg)) ?_
      refine WQ.gfld (GuardIs.yes2 rfl rfl rfl fh) rfl fld61_0 (fun hg => (evT (fs8 rfl (fs2 rfl fh)) rfl)) ?_
      refine WQ.gld (GuardIs.yes2 rfl rfl rfl (fskip rfl fh)) rfl agg3 (fun hg => (evG fh rfl hg)) (fun hg => (At.box hb73)) (j := 0) rfl (v := .int .i64 x64.name) rfl ?_
      refine WQ.gmv (GuardIs.yes2 rfl rfl rfl (fs2 rfl fh)) rfl (fun hg => (evT (fs8 rfl (fs8 rfl (fskip rfl e45))) rfl)) ?_
      refine WQ.gmv (GuardIs.yes2 rfl rfl rfl (fs2 rfl (fskip rfl fh))) rfl (fun hg => (evT (fs8 rfl (fs4 rfl fh)) rfl)) ?_
      refine WQ.gbin (GuardIs.yes2 rfl rfl rfl (fs4 rfl fh)) rfl (fun hg => (evG fh rfl hg)) (fun hg => (evC rfl)) (fun hg => abin_subw) ?_
      obtain ⟨x75, hx75, hL⟩ := gd_some hL
      obtain ⟨b76, o77, _, hQ⟩ := Sl.atG (fun hg => hs57) hx75
      have hab76 := fun hg => (hQ hg).1
      have hAb76 := fun hg => (hQ hg).2.1
      have hSb76 := fun hg => (hQ hg).2.2.1
      have hFb76 := fun hg => (hQ hg).2.2.2
      refine WQ.gix (GuardIs.yes2 rfl rfl rfl (fs4 rfl (fskip rfl fh))) rfl und59 size61 (fun hg => (evG (fs2 rfl fh) rfl hg)) (fun hg => (evG fh rfl hg)) hab76 hx75 ?_
      refine WQ.gfld (GuardIs.yes2 rfl rfl rfl (fs4 rfl (fs2 rfl fh))) rfl fld61_0 (fun hg => (evG fh rfl hg)) ?_
      refine WQ.gld (GuardIs.yes2 rfl rfl rfl (fs4 rfl (fs2 rfl (fskip rfl fh)))) rfl agg3 (fun hg => (evG fh rfl hg)) (fun hg => (hAb76 hg)) (j := 0) rfl (v := .int .i64 x75.name) rfl ?_
      refine WQ.gbin (GuardIs.yes2 rfl rfl rfl (fs8 rfl fh)) rfl (fun hg => (evG (fs4 rfl (fs2 rfl fh)) rfl hg)) (fun hg => (evG fh rfl hg)) (fun hg => abin_leq) ?_
      refine WQ.gand (GuardIs.no rfl rfl rfl (fs8 rfl (fs4 rfl fh))) rfl (fun hg => (evG (fs8 rfl (fskip rfl fh)) rfl hg)) (fun hg => evGU2 fh hg) (fun hg => (evC rfl)) ?_
      refine WQ.or gN rfl (evT (fs8 rfl (fs4 rfl (fskip rfl fh))) rfl) (evC rfl) (evGU fh) ?_
      refine WQ.nil ?_
      refine SeqK.nrm ?_
      refine WC.condN (evT fh rfl) (fun hc => ?_) (fun hc => ?_)
      · replace hL := cond_tt hc hL
        refine WC.seq ?_
        refine WC.region ?_
        refine WO.as gN rfl (evC rfl) ?_
        refine WO.nil ?_
        refine SeqK.nrm ?_
        refine WC.ret ?_
        refine BlkK.ret ?_
        refine SeqK.ret ?_
        refine LoopK.ret ?_
        refine BlkK.ret ?_
        refine BlkK.ret ?_
        refine SeqK.ret ?_
        refine LoopK.ret ?_
        refine BlkK.ret ?_
        refine SeqK.ret ?_
        have hr := Option.some.inj hL
        subst hr
        exact RetK.gen1 rfl (ares_tmp (evT fh rfl) ares_nil) rfl
      · replace hL := cond_ff hc hL
        refine WC.skip ?_
        refine BlkK.nrm ?_
        refine SeqK.nrm ?_
        refine WC.region ?_
        refine WO.bin gN rfl (evT (fs8 rfl (fs8 rfl (fs8 rfl (fs2 rfl e52)))) rfl) (evC rfl) abin_addw ?_
        refine WO.mv gN rfl (evT fh rfl) ?_
        refine WO.nil ?_
        exact LoopK.nrm (hnext63 _ _ hL ⟨_, _, rfl, hG, (fs8 rfl (fs8 rfl (fs8 rfl (fs4 rfl e42)))), (fs8 rfl (fs8 rfl (fs8 rfl (fs4 rfl e43)))), (fs8 rfl (fs8 rfl (fs8 rfl (fs4 rfl e44)))), (fs8 rfl (fs8 rfl (fs8 rfl (fs4 rfl e45)))), (fs8 rfl (fs8 rfl (fs8 rfl (fs4 rfl e46)))), (fs8 rfl (fs8 rfl (fs8 rfl (fs4 rfl e47)))), (fs8 rfl (fs8 rfl (fs8 rfl (fs4 rfl e48)))), (fs8 rfl (fs8 rfl (fs8 rfl (fs4 rfl e49)))), (fs8 rfl (fs8 rfl (fs8 rfl (fs4 rfl e50)))), fh, hb53, hs54, hs55, hs56, hs57, hs58, hs59, hs60, hA61, hS62⟩)
    · replace hL := cond_ff hc hL
      refine WC.exit ?_
      refine SeqK.exit ?_
      refine LoopK.exit ?_
      refine BlkK.here ?_
      refine BlkK.nrm ?_
      refine SeqK.nrm ?_
      refine WC.region ?_
      refine WO.bin gN rfl (evT (fskip rfl e48) rfl) (evC rfl) abin_addw ?_
      refine WO.mv gN rfl (evT fh rfl) ?_
      refine WO.nil ?_
      exact LoopK.nrm (hnext34 _ _ hL ⟨_, _, rfl, hG, (fs2 rfl (fskip rfl e42)), (fs2 rfl (fskip rfl e43)), (fs2 rfl (fskip rfl e46)), (fs2 rfl (fskip rfl e47)), fh, hb53, hs54, hs55, hs56, hs58, hs59, hs60, hA61, hS62⟩)
  · replace hL := cond_ff hc hL
    refine WC.exit ?_
    refine SeqK.exit ?_
    refine LoopK.exit ?_
    refine BlkK.here ?_
    refine SeqK.nrm ?_
    refine WC.seq ?_
    refine WC.seq ?_
    refine WC.region ?_
    refine WO.fld gN rfl fld26_1 (evT (fskip rfl e20) rfl) ?_
    refine WO.ld gN rfl agg23 (evT fh rfl) (At.box hb25) (j := 1) rfl (v := .slice a10 p1.notes.length c11) rfl ?_
    refine WO.len gN rfl und23 (evT fh rfl) ?_
    refine WO.mv gN rfl (evC rfl) ?_
    refine WO.nil ?_
    refine SeqK.nrm ?_
    refine WC.block ?_
    refine WC.loop (WL.lift hL (fun (v83 : Int) (s : Fs) => ∃ (fr79 : Fr) (h78 : H), s = ⟨fr79, [], h78, none⟩ ∧ Grow h h78 ∧ fr79.at 0 = .pointer (some ⟨b6, o7, none⟩) ∧ fr79.at 49 = .slice a10 p1.notes.length c11 ∧ fr79.at 50 = .int .i64 (p1.notes.length : Int) ∧ fr79.at 51 = .int .i64 v83 ∧ MapS wvArr2Int wvWeighCell wm h78 m1 p0.cells ∧ Sl rWeighNote wm h78 a2 c3 p0.notes ∧ Sl (rInt .i64) wm h78 a4 c5 p0.freed ∧ Sl rWeighNote wm h78 a10 c11 p1.notes ∧ At h78 b6 o7 [.int .i64 p0.machines, .int .i64 p0.names, .map m1, .slice a2 p0.notes.length c3, .slice a4 p0.freed.length c5] ∧ Stb wm h78 b6) ⟨_, _, rfl, hG, (fs4 rfl (fskip rfl e19)), (fs2 rfl fh), (fskip rfl fh), fh, hs26, hs27, hs28, hs30, hA32, hS33⟩ ?_)
    clear hL
    rintro next91 v83 s hnext91 hL ⟨fr79, h78, rfl, hG, e80, e81, e82, e84, hs85, hs86, hs87, hs88, hA89, hS90⟩
    dsimp only [f88_b2] at hL
    refine WC.seq ?_
    refine WC.region ?_
    refine WO.bin gN rfl (evT e84 rfl) (evT e82 rfl) abin_lss ?_
    refine WO.nil ?_
    refine SeqK.nrm ?_
    refine WC.seq ?_
    refine WC.condN (evT fh rfl) (fun hc => ?_) (fun hc => ?_)
    · replace hL := cond_tt hc hL
      refine WC.skip ?_
      refine SeqK.nrm ?_
      refine WC.seq ?_
      refine WC.block ?_
      refine WC.seq ?_
      refine WC.region ?_
      obtain ⟨x92, hx92, hL⟩ := bind_some hL
      obtain ⟨b93, o94, _, hab93, hAb93, hSb93, hFb93⟩ := Sl.at_ hs88 hx92
      refine WO.ix gN rfl und23 size58 (evT (fskip rfl e81) rfl) (evT (fskip rfl e84) rfl) hab93 hx92 ?_
      refine WO.ldA gN rfl agg58 size58 (evT fh rfl) hAb93 (j := 0) rfl rfl (ws := [.int .i64 x92.kind, .int .i64 x92.to_, .int .i64 x92.name, .int .i64 x92.via, .int .i64 x92.w]) rfl ?_
      refine WO.alcN h.size gN rfl zero58 (vs := [.int .i64 0, .int .i64 0, .int .i64 0, .int .i64 0, .int .i64 0]) rfl (fun h95 u96 hb97 => ?_)
      have whb97 : h.size ≤ h78.size := hG.size
      have hs85 := MapS.fz hs85 (u96.fz hwm)
      have hs86 := hs86.mono (u96.fz hwm)
      have hs87 := hs87.mono (u96.fz hwm)
      have hs88 := hs88.mono (u96.fz hwm)
      have qhA89 := Stb.fz (u96.fz hwm) hA89 hS90
      have hA89 := At.fz (u96.fz hwm) hS90 hA89
      have hS90 := qhA89
      have qhAb93 := Stb.fz (u96.fz hwm) hAb93 hSb93
      have hAb93 := At.fz (u96.fz hwm) hSb93 hAb93
      have hSb93 := qhAb93
      have hG := u96.grow hG (Nat.le_refl _)
      refine WO.stN h.size gN size58 (evT fh rfl) (evT (fskip rfl fh) rfl) hb97 whb97 hwm (vs := [.int .i64 x92.kind, .int .i64 x92.to_, .int .i64 x92.name, .int .i64 x92.via, .int .i64 x92.w]) rfl rfl rfl rfl (cs' := [.int .i64 x92.kind, .int .i64 x92.to_, .int .i64 x92.name, .int .i64 x92.via, .int .i64 x92.w]) rfl (fun h98 u99 hb100 => ?_)
      have hs85 := MapS.fz hs85 (u99.fz hwm)
      have hs86 := hs86.mono (u99.fz hwm)
      have hs87 := hs87.mono (u99.fz hwm)
      have hs88 := hs88.mono (u99.fz hwm)
      have qhA89 := Stb.fz (u99.fz hwm) hA89 hS90
      have hA89 := At.fz (u99.fz hwm) hS90 hA89
      have hS90 := qhA89
      have qhAb93 := Stb.fz (u99.fz hwm) hAb93 hSb93
      have hAb93 := At.fz (u99.fz hwm) hSb93 hAb93
      have hSb93 := qhAb93
      have hG := u99.grow hG (Nat.le_refl _)
      refine WO.nil ?_
      refine SeqK.nrm ?_
      refine WC.seq ?_
      refine WC.region ?_
      refine WO.mv gN rfl (evT (fs4 rfl e80) rfl) ?_
      refine WO.ldA gN rfl agg58 size58 (evT (fskip rfl fh) rfl) (At.box hb100) (j := 0) rfl rfl (ws := [.int .i64 x92.kind, .int .i64 x92.to_, .int .i64 x92.name, .int .i64 x92.via, .int .i64 x92.w]) rfl ?_
      obtain ⟨x101, hx101, hL⟩ := bind_some hL
      refine WO.cf gN rfl has114 (evs_cons (evT (fskip rfl fh) rfl) (evs_cons (evT fh rfl) evs_nil)) (f114_ok hA89 (Stb.up (Nat.le_trans hwm hG.size) hS90) (MapAt.all (hs85).at_) (Src.sl (Sl.src hs86) (Nat.le_trans hwm hG.size)) (Src.sl (Sl.src hs87) (Nat.le_trans hwm hG.size)) hx101 _) ?_
      refine WO.not gN rfl (evT fh rfl) ?_
      refine WO.nil ?_
      refine SeqK.nrm ?_
      refine WC.condN (evT fh rfl) (fun hc => ?_) (fun hc => ?_)
      · replace hL := cond_tt hc hL
        refine WC.seq ?_
        refine WC.region ?_
        refine WO.as gN rfl (evC rfl) ?_
        refine WO.nil ?_
        refine SeqK.nrm ?_
        refine WC.ret ?_
        refine BlkK.ret ?_
        refine SeqK.ret ?_
        refine LoopK.ret ?_
        refine BlkK.ret ?_
        refine SeqK.ret ?_
        have hr := Option.some.inj hL
        subst hr
        exact RetK.gen1 rfl (ares_tmp (evT fh rfl) ares_nil) rfl
      · replace hL := cond_ff hc hL
        refine WC.skip ?_
        refine BlkK.nrm ?_
        refine SeqK.nrm ?_
        refine WC.region ?_
        refine WO.bin gN rfl (evT (fs8 rfl e84) rfl) (evC rfl) abin_addw ?_
        refine WO.mv gN rfl (evT fh rfl) ?_
        refine WO.nil ?_
        exact LoopK.nrm (hnext91 _ _ hL ⟨_, _, rfl, hG, (fs8 rfl (fs2 rfl e80)), (fs8 rfl (fs2 rfl e81)), (fs8 rfl (fs2 rfl e82)), fh, hs85, hs86, hs87, hs88, hA89, hS90⟩)
    · replace hL := cond_ff hc hL
      refine WC.exit ?_
      refine SeqK.exit ?_
      refine LoopK.exit ?_
      refine BlkK.here ?_
      refine SeqK.nrm ?_
      refine WC.seq ?_
      refine WC.region ?_
      refine WO.as gN rfl (evC rfl) ?_
      refine WO.nil ?_
      refine SeqK.nrm ?_
      refine WC.ret ?_
      have hr := Option.some.inj hL
      subst hr
      exact RetK.gen1 rfl (ares_tmp (evT fh rfl) ares_nil) rfl
theorem f88_ok {F : Nat} {h : H} {p0 : Store} {p1 : WeighWorld} {b6 o7 : Nat} {m1 : Option Nat} {a2 : Option Addr} {c3 : Nat} {a4 : Option Addr} {c5 : Nat} {a8 : Option Addr} {c9 : Nat} {a10 : Option Addr} {c11 : Nat} {a12 : Option Addr} {c13 : Nat} {r : Bool} (hAb6 : At h b6 o7 [.int .i64 p0.machines, .int .i64 p0.names, .map m1, .slice a2 p0.notes.length c3, .slice a4 p0.freed.length c5]) (hSb6 : Stb h.size h b6) (hsm1 : MapS wvArr2Int wvWeighCell h.size h m1 p0.cells) (hsa2 : Sl rWeighNote h.size h a2 c3 p0.notes) (hsa4 : Sl (rInt .i64) h.size h a4 c5 p0.freed) (hsa8 : Sl (rSl rWeighCell) h.size h a8 c9 p1.cells) (hsa10 : Sl rWeighNote h.size h a10 c11 p1.notes) (hsa12 : Sl (rInt .i64) h.size h a12 c13 p1.freed) (hL : f88L F p0 p1 = some r) : Pure XX 88 #[.pointer (some ⟨b6, o7, none⟩), .agg [.slice a8 p1.cells.length c9, .slice a10 p1.notes.length c11, .int .i64 p1.names, .slice a12 p1.freed.length c13].toArray] h (.bool r) :=
  WF.pureR rfl (f88_wf (Nat.le_refl _) hAb6 hSb6 hsm1 hsa2 hsa4 hsa8 hsa10 hsa12 hL)
theorem f86_wf {wm : Nat} {h : H} {p0 : (List WeighNote)} {a1 : Option Addr} {c2 : Nat} {r : (List WeighNote)} (hwm : wm ≤ h.size) (hsa1 : Sl rWeighNote wm h a1 c2 p0) (hL : f86L p0 = some r) :
    WR XX 86 #[.slice a1 p0.length c2] wm h (fun v h' => ∃ (ra0_0 : Option Addr) (rc0_0 : Nat), v = .slice ra0_0 r.length rc0_0 ∧ Grow h h' ∧ OwnS rWeighNote wm h.size h' ra0_0 rc0_0 r) := by
  refine WF.begin (args := [_]) (fn := Try.f86) (by kernel_rfl) (by exact rfl) Try.ntmps86 (by simp) ?_
  simp only [frameOf_cons, frameOf_nil, Nat.reduceAdd]
  have hG : Grow h h := Grow.refl h
  unfold f86L at hL
  refine WC.seq ?_
  refine WC.region ?_
  refine WO.as gN rfl (evC rfl) ?_
  refine WO.nil ?_
  refine SeqK.nrm ?_
  refine WC.seq ?_
  refine WC.seq ?_
  refine WC.region ?_
  rcases Sl.cases hsa1 with ⟨rfl, rfl, rfl⟩ | ⟨qa, rfl⟩
  ·
    refine WO.mv gN rfl (evT (fskip rfl fh) rfl) ?_
    refine WO.bin gN rfl (evT fh rfl) (evC rfl) (abin_nilT und23) ?_
    refine WO.nil ?_
    refine SeqK.nrm ?_
    refine WC.condTN (evT fh rfl) rfl ?_
    rw [app_nn _ (by decide)] at hL
    replace hL : some [] = some r := hL
    refine WC.seq ?_
    refine WC.region ?_
    refine WO.as gN rfl (evC rfl) ?_
    refine WO.nil ?_
    refine SeqK.nrm ?_
    refine WC.ret ?_
    refine SeqK.ret ?_
    have hr := Option.some.inj hL
    subst hr
    exact RetK.gen1 rfl (ares_tmp (evT fh rfl) ares_nil) ⟨none, 0, rfl, hG, OwnS.nil⟩
  ·
    refine WO.mv gN rfl (evT (fskip rfl fh) rfl) ?_
    refine WO.bin gN rfl (evT fh rfl) (evC rfl) (abin_nilF und23) ?_
    refine WO.nil ?_
    refine SeqK.nrm ?_
    refine WC.condFN (evT fh rfl) rfl ?_
    refine WC.skip ?_
    refine SeqK.nrm ?_
    refine WC.seq ?_
    refine WC.region ?_
    refine WO.bsN (e := rWeighNote) h.size gN rfl und23 size58 zero58 rfl rfl rfl evp_nil rfl [] rfl (xs := []) rfl (by intro q hq; cases hq) hwm hG.size rfl (fun h3 u4 ho5 => ?_)
    have hsa1 := hsa1.mono (u4.fz hwm)
    have hG := u4.grow hG (Nat.le_refl _)
    refine WO.mv gN rfl (evT (fs4 rfl fh) rfl) ?_
    obtain ⟨z6, hz6, hL⟩ := bind_some hL
    refine WO.apN (e := rWeighNote) h.size gN rfl app23_23 hwm hG.size (evT (fskip rfl fh) rfl) (evT fh rfl) ho5 (Sl.src hsa1) hz6 (fun a7 c8 h9 u10 ho11 sb12 => ?_)
    have hsa1 := hsa1.mono (u10.fz hwm)
    have hG := u10.grow hG (Nat.le_refl _)
    refine WO.as gN rfl (evT fh rfl) ?_
    refine WO.nil ?_
    refine SeqK.nrm ?_
    refine WC.ret ?_
    have hr := Option.some.inj hL
    subst hr
    exact RetK.gen1 rfl (ares_tmp (evT fh rfl) ares_nil) ⟨a7, c8, rfl, hG, ho11⟩
theorem f87_wf {wm : Nat} {h : H} {p0 : (List Int)} {a1 : Option Addr} {c2 : Nat} {r : (List Int)} (hwm : wm ≤ h.size) (hsa1 : Sl (rInt .i64) wm h a1 c2 p0) (hL : f87L p0 = some r) :
    WR XX 87 #[.slice a1 p0.length c2] wm h (fun v h' => ∃ (ra0_0 : Option Addr) (rc0_0 : Nat), v = .slice ra0_0 r.length rc0_0 ∧ Grow h h' ∧ OwnS (rInt .i64) wm h.size h' ra0_0 rc0_0 r) := by
  refine WF.begin (args := [_]) (fn := Try.f87) (by kernel_rfl) (by exact rfl) Try.ntmps87 (by simp) ?_
  simp only [frameOf_cons, frameOf_nil, Nat.reduceAdd]
  have hG : Grow h h := Grow.refl h
  unfold f87L at hL
  refine WC.seq ?_
  refine WC.region ?_
  refine WO.as gN rfl (evC rfl) ?_
  refine WO.nil ?_
  refine SeqK.nrm ?_
  refine WC.seq ?_
  refine WC.seq ?_
  refine WC.region ?_
  rcases Sl.cases hsa1 with ⟨rfl, rfl, rfl⟩ | ⟨qa, rfl⟩
  ·
    refine WO.mv gN rfl (evT (fskip rfl fh) rfl) ?_
    refine WO.bin gN rfl (evT fh rfl) (evC rfl) (abin_nilT und24) ?_
    refine WO.nil ?_
    refine SeqK.nrm ?_
    refine WC.condTN (evT fh rfl) rfl ?_
    rw [app_nn _ (by decide)] at hL
    replace hL : some [] = some r := hL
    refine WC.seq ?_
    refine WC.region ?_
    refine WO.as gN rfl (evC rfl) ?_
    refine WO.nil ?_
    refine SeqK.nrm ?_
    refine WC.ret ?_
    refine SeqK.ret ?_
    have hr := Option.some.inj hL
    subst hr
    exact RetK.gen1 rfl (ares_tmp (evT fh rfl) ares_nil) ⟨none, 0, rfl, hG, OwnS.nil⟩
  ·
    refine WO.mv gN rfl (evT (fskip rfl fh) rfl) ?_
    refine WO.bin gN rfl (evT fh rfl) (evC rfl) (abin_nilF und24) ?_
    refine WO.nil ?_
    refine SeqK.nrm ?_
    refine WC.condFN (evT fh rfl) rfl ?_
    refine WC.skip ?_
    refine SeqK.nrm ?_
    refine WC.seq ?_
    refine WC.region ?_
    refine WO.bsN (e := (rInt .i64)) h.size gN rfl und24 size3 zero3 rfl rfl rfl evp_nil rfl [] rfl (xs := []) rfl (by intro q hq; cases hq) hwm hG.size rfl (fun h3 u4 ho5 => ?_)
    have hsa1 := hsa1.mono (u4.fz hwm)
    have hG := u4.grow hG (Nat.le_refl _)
    refine WO.mv gN rfl (evT (fs4 rfl fh) rfl) ?_
    obtain ⟨z6, hz6, hL⟩ := bind_some hL
    refine WO.apN (e := (rInt .i64)) h.size gN rfl app24_24 hwm hG.size (evT (fskip rfl fh) rfl) (evT fh rfl) ho5 (Sl.src hsa1) hz6 (fun a7 c8 h9 u10 ho11 sb12 => ?_)
    have hsa1 := hsa1.mono (u10.fz hwm)
    have hG := u10.grow hG (Nat.le_refl _)
    refine WO.as gN rfl (evT fh rfl) ?_
    refine WO.nil ?_
    refine SeqK.nrm ?_
    refine WC.ret ?_
    have hr := Option.some.inj hL
    subst hr
    exact RetK.gen1 rfl (ares_tmp (evT fh rfl) ares_nil) ⟨a7, c8, rfl, hG, ho11⟩
theorem f56_wf {F : Nat} {wm : Nat} {h : H} {p0 : WeighWorld} {a1 : Option Addr} {c2 : Nat} {a3 : Option Addr} {c4 : Nat} {a5 : Option Addr} {c6 : Nat} {r : Store} (hwm : wm ≤ h.size) (hsa1 : Sl (rSl rWeighCell) wm h a1 c2 p0.cells) (hsa3 : Sl rWeighNote wm h a3 c4 p0.notes) (hsa5 : Sl (rInt .i64) wm h a5 c6 p0.freed) (hL : f56L F p0 = some r) :
    WR XX 56 #[.agg [.slice a1 p0.cells.length c2, .slice a3 p0.notes.length c4, .int .i64 p0.names, .slice a5 p0.freed.length c6].toArray] wm h (fun v h' => ∃ (rb0 : Nat) (rm0_0 : Option Nat) (ra0_1 : Option Addr) (rc0_1 : Nat) (ra0_2 : Option Addr) (rc0_2 : Nat), v = .pointer (some ⟨rb0, 0, none⟩) ∧ Grow h h' ∧ h'.at rb0 = .row [.int .i64 r.machines, .int .i64 r.names, .map rm0_0, .slice ra0_1 r.notes.length rc0_1, .slice ra0_2 r.freed.length rc0_2] true 0 ∧ h.size ≤ rb0 ∧ MapO wvArr2Int wvWeighCell h.size h' rm0_0 r.cells ∧ OwnS rWeighNote wm h.size h' ra0_1 rc0_1 r.notes ∧ OwnS (rInt .i64) wm h.size h' ra0_2 rc0_2 r.freed ∧ (∀ i, BaseA ra0_2 i → BaseA ra0_1 i → False)) := by
  refine WF.begin (args := [_]) (fn := Try.f56) (by kernel_rfl) (by exact rfl) Try.ntmps56 (by simp) ?_
  simp only [frameOf_cons, frameOf_nil, Nat.reduceAdd]
  have hG : Grow h h := Grow.refl h
  unfold f56L at hL
  refine WC.seq ?_
  refine WC.region ?_
  refine WO.boxN h.size gN rfl (evT fh rfl) (vs := [.slice a1 p0.cells.length c2, .slice a3 p0.notes.length c4, .int .i64 p0.names, .slice a5 p0.freed.length c6]) rfl (fun h7 u8 hb9 => ?_)
  have whb9 : h.size ≤ h.size := hG.size
  have hsa1 := hsa1.mono (u8.fz hwm)
  have hsa3 := hsa3.mono (u8.fz hwm)
  have hsa5 := hsa5.mono (u8.fz hwm)
  have hG := u8.grow hG (Nat.le_refl _)
  refine WO.as gN rfl (evC rfl) ?_
  refine WO.nil ?_
  refine SeqK.nrm ?_
  refine WC.seq ?_
  refine WC.drawD mixed (by kernel_rfl) ?_
  refine WD.fld gN rfl fld26_0 (evT (fskip rfl fh) rfl) ?_
  refine WD.ld gN rfl agg22 (evT fh rfl) (At.box hb9) (j := 0) rfl (v := .slice a1 p0.cells.length c2) rfl ?_
  refine WD.len gN rfl und22 (evT fh rfl) ?_
  refine WD.fld gN rfl fld26_2 (evT (fs4 rfl fh) rfl) ?_
  refine WD.ld gN rfl agg3 (evT fh rfl) (At.box hb9) (j := 2) rfl (v := .int .i64 p0.names) rfl ?_
  refine WD.sv gN rfl mkm_sv (.inl rfl) ?_
  have u11 := Up.push h.size h7 (.map [] 0)
  have ho12 : MapO wvArr2Int wvWeighCell h.size (h7.push (.map [] 0)) (some h7.size) [] := MapO.new h.size hG.size
  generalize h7.push (.map [] 0) = h10 at u11 ho12 ⊢
  have hb9 := u11.row (fun z => z) hb9
  have hsa1 := hsa1.mono (u11.fz hwm)
  have hsa3 := hsa3.mono (u11.fz hwm)
  have hsa5 := hsa5.mono (u11.fz hwm)
  have hG := u11.grow hG (Nat.le_refl _)
  refine WD.fld gN rfl fld26_1 (evT (fs4 rfl (fs2 rfl (fskip rfl fh))) rfl) ?_
  refine WD.ld gN rfl agg23 (evT fh rfl) (At.box hb9) (j := 1) rfl (v := .slice a3 p0.notes.length c4) rfl ?_
  obtain ⟨x13, hx13, hL⟩ := bind_some hL
  refine WD.cwS gN rfl has86 (evs_cons (evT fh rfl) evs_nil) (f86_wf (Nat.le_refl _) (Src.sl (Sl.src hsa3) (Nat.le_trans hwm hG.size)) hx13) (fun y21 h16 hr18 => ?_)
  obtain ⟨a14, c15, rfl, gr17, ho20⟩ := hr18
  have u19 := Up.of_grow h.size gr17
  have ho20 := OwnS.flat (wm' := wm) (by intro _ _ _ _; trivial) ho20
  have ho20 := OwnS.lower hG.size ho20
  have hb9 := u19.row (fun z => z) hb9
  have hsa1 := hsa1.mono (u19.fz hwm)
  have hsa3 := hsa3.mono (u19.fz hwm)
  have hsa5 := hsa5.mono (u19.fz hwm)
  have ho12 := MapO.step u19 (fun _ _ z => z) ho12
  have hG := u19.grow hG (Nat.le_refl _)
  refine WD.fld gN rfl fld26_3 (evT (fs8 rfl (fs2 rfl fh)) rfl) ?_
  refine WD.ld gN rfl agg24 (evT fh rfl) (At.box hb9) (j := 3) rfl (v := .slice a5 p0.freed.length c6) rfl ?_
  obtain ⟨x22, hx22, hL⟩ := bind_some hL
  refine WD.cwS gN rfl has87 (evs_cons (evT fh rfl) evs_nil) (f87_wf (Nat.le_refl _) (Src.sl (Sl.src hsa5) (Nat.le_trans hwm hG.size)) hx22) (fun y30 h25 hr27 => ?_)
  obtain ⟨a23, c24, rfl, gr26, ho29⟩ := hr27
  have u28 := Up.of_grow h.size gr26
  have dj31 := OwnS.calldj ho29 ho20
  have ho29 := OwnS.flat (wm' := wm) (by intro _ _ _ _; trivial) ho29
  have ho29 := OwnS.lower hG.size ho29
  have hb9 := u28.row (fun z => z) hb9
  have hsa1 := hsa1.mono (u28.fz hwm)
  have hsa3 := hsa3.mono (u28.fz hwm)
  have hsa5 := hsa5.mono (u28.fz hwm)
  have ho12 := MapO.step u28 (fun _ _ z => z) ho12
  have ho20 := OwnS.step u28 hwm (fun _ _ z => z) ho20
  have hG := u28.grow hG (Nat.le_refl _)
  refine WD.bld gN rfl bld97 (evp_cons (evT (fs8 rfl (fskip rfl fh)) rfl) (evp_cons (evT (fs4 rfl (fs2 rfl (fskip rfl fh))) rfl) (evp_cons (evT (fs4 rfl (fs2 rfl fh)) rfl) (evp_cons (evT (fs2 rfl (fskip rfl fh)) rfl) (evp_cons (evT fh rfl) evp_nil))))) rfl (cs' := [.int .i64 (p0.cells.length : Int), .int .i64 p0.names, .map (some h7.size), .slice a14 x13.length c15, .slice a23 x22.length c24]) rfl ?_
  refine WD.boxN h.size gN rfl (evT fh rfl) (vs := [.int .i64 (p0.cells.length : Int), .int .i64 p0.names, .map (some h7.size), .slice a14 x13.length c15, .slice a23 x22.length c24]) rfl (fun h32 u33 hb34 => ?_)
  have whb34 : h.size ≤ h25.size := hG.size
  have ne35 := Nat.ne_of_lt (live_lt hb9 rfl)
  have hb9 := u33.row (fun z => z) hb9
  have hsa1 := hsa1.mono (u33.fz hwm)
  have hsa3 := hsa3.mono (u33.fz hwm)
  have hsa5 := hsa5.mono (u33.fz hwm)
  have ho12 := MapO.step u33 (fun _ _ z => z) ho12
  have ho20 := OwnS.step u33 hwm (fun _ _ z => z) ho20
  have ho29 := OwnS.step u33 hwm (fun _ _ z => z) ho29
  have hG := u33.grow hG (Nat.le_refl _)
  refine WD.as gN rfl (evT fh rfl) ?_
  refine WD.nil ?_
  refine SeqK.nrm ?_
  refine WC.seq ?_
  refine WC.seq ?_
  refine WC.region ?_
  refine WO.fld gN rfl fld26_0 (evT (fs8 rfl (fs8 rfl fh)) rfl) ?_
  refine WO.ld gN rfl agg22 (evT fh rfl) (At.box hb9) (j := 0) rfl (v := .slice a1 p0.cells.length c2) rfl ?_
  refine WO.len gN rfl und22 (evT fh rfl) ?_
  refine WO.mv gN rfl (evC rfl) ?_
  refine WO.nil ?_
  refine SeqK.nrm ?_
  refine WC.block ?_
  refine WC.loop (WL.lift hL (fun (p : Int × (List (Arr2Int × WeighCell))) (s : Fs) => match p with | (v41, v43) => ∃ (fr37 : Fr) (h36 : H), s = ⟨fr37, [], h36, none⟩ ∧ Grow h h36 ∧ fr37.at 3 = .pointer (some ⟨h25.size, 0, none⟩) ∧ fr37.at 23 = .slice a1 p0.cells.length c2 ∧ fr37.at 24 = .int .i64 (p0.cells.length : Int) ∧ fr37.at 25 = .int .i64 v41 ∧ h36.at (h25.size) = .row [.int .i64 (p0.cells.length : Int), .int .i64 p0.names, .map (some h7.size), .slice a14 x13.length c15, .slice a23 x22.length c24] true 0 ∧ Sl (rSl rWeighCell) wm h36 a1 c2 p0.cells ∧ MapO wvArr2Int wvWeighCell h.size h36 (some h7.size) v43 ∧ OwnS rWeighNote wm h.size h36 a14 c15 x13 ∧ OwnS (rInt .i64) wm h.size h36 a23 c24 x22 ∧ (∀ i, BaseA a23 i → BaseA a14 i → False)) ⟨_, _, rfl, hG, (fs4 rfl fh), (fs2 rfl fh), (fskip rfl fh), fh, hb34, hsa1, ho12, ho20, ho29, dj31⟩ ?_)
  clear hL
  rintro next50 ⟨v41, v43⟩ s hnext50 hL ⟨fr37, h36, rfl, hG, e38, e39, e40, e42, hb44, hs45, ho46, ho47, ho48, dj49⟩
  dsimp only [f56_b0] at hL
  refine WC.seq ?_
  refine WC.region ?_
  refine WO.bin gN rfl (evT e42 rfl) (evT e40 rfl) abin_lss ?_
  refine WO.nil ?_
  refine SeqK.nrm ?_
  refine WC.seq ?_
  refine WC.condN (evT fh rfl) (fun hc => ?_) (fun hc => ?_)
  · replace hL := cond_tt hc hL
    refine WC.skip ?_
    refine SeqK.nrm ?_
    refine WC.seq ?_
    refine WC.block ?_
    refine WC.seq ?_
    refine WC.region ?_
    refine WO.mv gN rfl (evT (fskip rfl e42) rfl) ?_
    obtain ⟨x51, hx51, hL⟩ := bind_some hL
    obtain ⟨b52, o53, ⟨a54, c55⟩, hab52, hAb52, hSb52, hFb52⟩ := Sl.at_ hs45 hx51
    refine WO.ix gN rfl und22 size59 (evT (fs2 rfl e39) rfl) (evT (fs2 rfl e42) rfl) hab52 hx51 ?_
    have hsa54 : Sl rWeighCell wm h36 a54 c55 x51 := hFb52
    refine WO.ld gN rfl agg59 (evT fh rfl) hAb52 (j := 0) rfl (v := .slice a54 x51.length c55) rfl ?_
    refine WO.as gN rfl (evT (fs2 rfl fh) rfl) ?_
    refine WO.as gN rfl (evT (fskip rfl fh) rfl) ?_
    refine WO.nil ?_
    refine SeqK.nrm ?_
    refine WC.seq ?_
    refine WC.region ?_
    refine WO.mv gN rfl (evT fh rfl) ?_
    refine WO.len gN rfl und59 (evT fh rfl) ?_
    refine WO.mv gN rfl (evC rfl) ?_
    refine WO.nil ?_
    refine SeqK.nrm ?_
    refine WC.block ?_
    refine WC.loop (WL.lift hL (fun (p : Int × (List (Arr2Int × WeighCell))) (s : Fs) => match p with | (v65, v67) => ∃ (fr57 : Fr) (h56 : H), s = ⟨fr57, [], h56, none⟩ ∧ Grow h h56 ∧ fr57.at 3 = .pointer (some ⟨h25.size, 0, none⟩) ∧ fr57.at 4 = .int .i64 v41 ∧ fr57.at 23 = .slice a1 p0.cells.length c2 ∧ fr57.at 24 = .int .i64 (p0.cells.length : Int) ∧ fr57.at 25 = .int .i64 v41 ∧ fr57.at 30 = .slice a54 x51.length c55 ∧ fr57.at 31 = .int .i64 (x51.length : Int) ∧ fr57.at 32 = .int .i64 v65 ∧ h56.at (h25.size) = .row [.int .i64 (p0.cells.length : Int), .int .i64 p0.names, .map (some h7.size), .slice a14 x13.length c15, .slice a23 x22.length c24] true 0 ∧ Sl (rSl rWeighCell) wm h56 a1 c2 p0.cells ∧ Sl rWeighCell wm h56 a54 c55 x51 ∧ MapO wvArr2Int wvWeighCell h.size h56 (some h7.size) v67 ∧ OwnS rWeighNote wm h.size h56 a14 c15 x13 ∧ OwnS (rInt .i64) wm h.size h56 a23 c24 x22 ∧ (∀ i, BaseA a23 i → BaseA a14 i → False)) ⟨_, _, rfl, hG, (fs8 rfl (fskip rfl e38)), (fs4 rfl fh), (fs8 rfl (fskip rfl e39)), (fs8 rfl (fskip rfl e40)), (fs8 rfl (fskip rfl e42)), (fs2 rfl fh), (fskip rfl fh), fh, hb44, hs45, hsa54, ho46, ho47, ho48, dj49⟩ ?_)
    clear hL
    rintro next75 ⟨v65, v67⟩ s hnext75 hL ⟨fr57, h56, rfl, hG, e58, e59, e60, e61, e62, e63, e64, e66, hb68, hs69, hs70, ho71, ho72, ho73, dj74⟩
    dsimp only [f56_b1] at hL
    refine WC.seq ?_
    refine WC.region ?_
    refine WO.bin gN rfl (evT e66 rfl) (evT e64 rfl) abin_lss ?_
    refine WO.nil ?_
    refine SeqK.nrm ?_
    refine WC.seq ?_
    refine WC.condN (evT fh rfl) (fun hc => ?_) (fun hc => ?_)
    · replace hL := cond_tt hc hL
      refine WC.skip ?_
      refine SeqK.nrm ?_
      refine WC.seq ?_
      refine WC.block ?_
      refine WC.seq ?_
      refine WC.region ?_
      obtain ⟨x76, hx76, hL⟩ := bind_some hL
      obtain ⟨b77, o78, _, hab77, hAb77, hSb77, hFb77⟩ := Sl.at_ hs70 hx76
      refine WO.ix gN rfl und59 size61 (evT (fskip rfl e63) rfl) (evT (fskip rfl e66) rfl) hab77 hx76 ?_
      refine WO.ldA gN rfl agg61 size61 (evT fh rfl) hAb77 (j := 0) rfl rfl (ws := [.int .i64 x76.name, .bool x76.root, .int .i64 x76.from_, .int .i64 x76.has, .int .i64 x76.out, .bool x76.use]) rfl ?_
      refine WO.alcN h.size gN rfl zero61 (vs := [.int .i64 0, .bool false, .int .i64 0, .int .i64 0, .int .i64 0, .bool false]) rfl (fun h79 u80 hb81 => ?_)
      have whb81 : h.size ≤ h56.size := hG.size
      have ne82 := Nat.ne_of_lt (live_lt hb68 rfl)
      have hb68 := u80.row (fun z => z) hb68
      have hs69 := hs69.mono (u80.fz hwm)
      have hs70 := hs70.mono (u80.fz hwm)
      have ho71 := MapO.step u80 (fun _ _ z => z) ho71
      have ho72 := OwnS.step u80 hwm (fun _ _ z => z) ho72
      have ho73 := OwnS.step u80 hwm (fun _ _ z => z) ho73
      have qhAb77 := Stb.fz (u80.fz hwm) hAb77 hSb77
      have hAb77 := At.fz (u80.fz hwm) hSb77 hAb77
      have hSb77 := qhAb77
      have hG := u80.grow hG (Nat.le_refl _)
      refine WO.stN h.size gN size61 (evT fh rfl) (evT (fskip rfl fh) rfl) hb81 whb81 hwm (vs := [.int .i64 x76.name, .bool x76.root, .int .i64 x76.from_, .int .i64 x76.has, .int .i64 x76.out, .bool x76.use]) rfl rfl rfl rfl (cs' := [.int .i64 x76.name, .bool x76.root, .int .i64 x76.from_, .int .i64 x76.has, .int .i64 x76.out, .bool x76.use]) rfl (fun h83 u84 hb85 => ?_)
      have hb68 := u84.row ne82 hb68
      have hs69 := hs69.mono (u84.fz hwm)
      have hs70 := hs70.mono (u84.fz hwm)
      have ho71 := MapO.step u84 (fun i e z => MapO.notBox ho71.at_ hb81 (z ▸ e)) ho71
      have ho72 := OwnS.step u84 hwm (fun i hb z => by subst z; exact OwnS.notBox ho72 hb81 hb) ho72
      have ho73 := OwnS.step u84 hwm (fun i hb z => by subst z; exact OwnS.notBox ho73 hb81 hb) ho73
      have qhAb77 := Stb.fz (u84.fz hwm) hAb77 hSb77
      have hAb77 := At.fz (u84.fz hwm) hSb77 hAb77
      have hSb77 := qhAb77
      have hG := u84.grow hG (Nat.le_refl _)
      refine WO.nil ?_
      refine SeqK.nrm ?_
      refine WC.drawD mixed (by kernel_rfl) ?_
      refine WD.mv gN rfl (evT (fs4 rfl e58) rfl) ?_
      refine WD.nck gN rfl (evT fh rfl) ?_
      refine WD.fld gN rfl fld97_2 (evT fh rfl) ?_
      refine WD.ld gN rfl agg95 (evT fh rfl) (At.box hb68) (j := 2) rfl (v := .map (some h7.size)) rfl ?_
      refine WD.mv gN rfl (evT (fs8 rfl e59) rfl) ?_
      refine WD.fld gN rfl fld61_0 (evT (fs4 rfl (fskip rfl fh)) rfl) ?_
      refine WD.ld gN rfl agg3 (evT fh rfl) (At.box hb85) (j := 0) rfl (v := .int .i64 x76.name) rfl ?_
      refine WD.bldA gN rfl bld113 (evp_cons (evT (fs2 rfl fh) rfl) (evp_cons (evT fh rfl) evp_nil)) rfl (cs' := [.int .i64 v41, .int .i64 x76.name]) rfl ?_
      refine WD.ldA gN rfl agg61 size61 (evT (fs8 rfl fh) rfl) (At.box hb85) (j := 0) rfl rfl (ws := [.int .i64 x76.name, .bool x76.root, .int .i64 x76.from_, .int .i64 x76.has, .int .i64 x76.out, .bool x76.use]) rfl ?_
      refine WD.updN (kv := wvArr2Int) (vv := wvWeighCell) (k := (Arr2Int.mk v41 x76.name)) (v := x76) gN key113 und95 hwm (evT (fs4 rfl (fskip rfl fh)) rfl) rfl (evT (fskip rfl fh) rfl) (evT fh rfl) ho71 (fun h86 u87 ho88 => ?_) (by kernel_rfl)
      have hb68 := u87.row (MapO.notBox ho71.at_ hb68) hb68
      have hb85 := u87.row (MapO.notBox ho71.at_ hb85) hb85
      have hs69 := hs69.mono (u87.fz hwm)
      have hs70 := hs70.mono (u87.fz hwm)
      have ho72 := OwnS.step u87 hwm (fun i hb => MapO.notRow ho71.at_ ho72 i hb) ho72
      have ho73 := OwnS.step u87 hwm (fun i hb => MapO.notRow ho71.at_ ho73 i hb) ho73
      have qhAb77 := Stb.fz (u87.fz hwm) hAb77 hSb77
      have hAb77 := At.fz (u87.fz hwm) hSb77 hAb77
      have hSb77 := qhAb77
      have hG := u87.grow hG (Nat.le_refl _)
      refine WD.nil ?_
      refine BlkK.nrm ?_
      refine SeqK.nrm ?_
      refine WC.region ?_
      refine WO.bin gN rfl (evT (fs8 rfl (fs4 rfl (fskip rfl e66))) rfl) (evC rfl) abin_addw ?_
      refine WO.mv gN rfl (evT fh rfl) ?_
      refine WO.nil ?_
      exact LoopK.nrm (hnext75 _ _ hL ⟨_, _, rfl, hG, (fs8 rfl (fs4 rfl (fs2 rfl (fskip rfl e58)))), (fs8 rfl (fs4 rfl (fs2 rfl (fskip rfl e59)))), (fs8 rfl (fs4 rfl (fs2 rfl (fskip rfl e60)))), (fs8 rfl (fs4 rfl (fs2 rfl (fskip rfl e61)))), (fs8 rfl (fs4 rfl (fs2 rfl (fskip rfl e62)))), (fs8 rfl (fs4 rfl (fs2 rfl (fskip rfl e63)))), (fs8 rfl (fs4 rfl (fs2 rfl (fskip rfl e64)))), fh, hb68, hs69, hs70, ho88, ho72, ho73, dj74⟩)
    · replace hL := cond_ff hc hL
      refine WC.exit ?_
      refine SeqK.exit ?_
      refine LoopK.exit ?_
      refine BlkK.here ?_
      refine BlkK.nrm ?_
      refine SeqK.nrm ?_
      refine WC.region ?_
      refine WO.bin gN rfl (evT (fskip rfl e62) rfl) (evC rfl) abin_addw ?_
      refine WO.mv gN rfl (evT fh rfl) ?_
      refine WO.nil ?_
      exact LoopK.nrm (hnext50 _ _ hL ⟨_, _, rfl, hG, (fs2 rfl (fskip rfl e58)), (fs2 rfl (fskip rfl e60)), (fs2 rfl (fskip rfl e61)), fh, hb68, hs69, ho71, ho72, ho73, dj74⟩)
  · replace hL := cond_ff hc hL
    refine WC.exit ?_
    refine SeqK.exit ?_
    refine LoopK.exit ?_
    refine BlkK.here ?_
    refine SeqK.nrm ?_
    refine WC.seq ?_
    refine WC.region ?_
    refine WO.mv gN rfl (evT (fskip rfl e38) rfl) ?_
    refine WO.as gN rfl (evT fh rfl) ?_
    refine WO.nil ?_
    refine SeqK.nrm ?_
    refine WC.ret ?_
    have hr := Option.some.inj hL
    subst hr
    exact RetK.gen1 rfl (ares_tmp (evT fh rfl) ares_nil) ⟨h25.size, (some h7.size), a14, c15, a23, c24, rfl, hG, hb44, whb34, ho46, ho47, ho48, dj49⟩
theorem f91_wf {F : Nat} {wm : Nat} {h : H} {p0 : Store} {p1 : Int} {p2 : Int} {b6 o7 : Nat} {m1 : Option Nat} {a2 : Option Addr} {c3 : Nat} {a4 : Option Addr} {c5 : Nat} {r : Bool} (hwm : wm ≤ h.size) (hAb6 : At h b6 o7 [.int .i64 p0.machines, .int .i64 p0.names, .map m1, .slice a2 p0.notes.length c3, .slice a4 p0.freed.length c5]) (hSb6 : Stb wm h b6) (hsm1 : MapS wvArr2Int wvWeighCell wm h m1 p0.cells) (hsa2 : Sl rWeighNote wm h a2 c3 p0.notes) (hsa4 : Sl (rInt .i64) wm h a4 c5 p0.freed) (hL : f91L F p0 p1 p2 = some r) :
    WR XX 91 #[.pointer (some ⟨b6, o7, none⟩), .int .i64 p1, .int .i64 p2] wm h (fun v _ => v = .bool r) := by
  refine WF.begin (args := [_, _, _]) (fn := Try.f91) (by kernel_rfl) (by exact rfl) Try.ntmps91 (by simp) ?_
  simp only [frameOf_cons, frameOf_nil, Nat.reduceAdd]
  have hG : Grow h h := Grow.refl h
  unfold f91L at hL
  refine WC.seq ?_
  refine WC.region ?_
  refine WO.as gN rfl (evC rfl) ?_
  refine WO.nil ?_
  refine SeqK.nrm ?_
  refine WC.scope ?_
  refine WC.seq ?_
  refine WC.label ?_
  refine SeqK.nrm ?_
  refine WC.seq ?_
  refine WC.seq ?_
  refine WC.region ?_
  refine WO.mv gN rfl (evT (fs2 rfl (fskip rfl fh)) rfl) ?_
  refine WO.nck gN rfl (evT fh rfl) ?_
  refine WO.fld gN rfl fld97_0 (evT fh rfl) ?_
  refine WO.ld gN rfl agg3 (evT fh rfl) hAb6 (j := 0) rfl (v := .int .i64 p0.machines) rfl ?_
  refine WO.mv gN rfl (evC rfl) ?_
  refine WO.nil ?_
  refine SeqK.nrm ?_
  refine WC.block ?_
  refine WC.loop (WL.lift hL (fun (v14 : Int) (s : Fs) => ∃ (fr9 : Fr) (h8 : H), s = ⟨fr9, [], h8, none⟩ ∧ Grow h h8 ∧ fr9.at 0 = .pointer (some ⟨b6, o7, none⟩) ∧ fr9.at 1 = .int .i64 p1 ∧ fr9.at 2 = .int .i64 p2 ∧ fr9.at 13 = .int .i64 p0.machines ∧ fr9.at 14 = .int .i64 v14 ∧ MapS wvArr2Int wvWeighCell wm h8 m1 p0.cells ∧ Sl rWeighNote wm h8 a2 c3 p0.notes ∧ Sl (rInt .i64) wm h8 a4 c5 p0.freed ∧ At h8 b6 o7 [.int .i64 p0.machines, .int .i64 p0.names, .map m1, .slice a2 p0.notes.length c3, .slice a4 p0.freed.length c5] ∧ Stb wm h8 b6) ⟨_, _, rfl, hG, (fs8 rfl fh), (fs4 rfl (fs2 rfl (fskip rfl fh))), (fs4 rfl (fs2 rfl fh)), (fskip rfl fh), fh, hsm1, hsa2, hsa4, hAb6, hSb6⟩ ?_)
  clear hL
  rintro next21 v14 s hnext21 hL ⟨fr9, h8, rfl, hG, e10, e11, e12, e13, e15, hs16, hs17, hs18, hA19, hS20⟩
  dsimp only [f91_b0] at hL
  refine WC.seq ?_
  refine WC.region ?_
  refine WO.bin gN rfl (evT e15 rfl) (evT e13 rfl) abin_lss ?_
  refine WO.nil ?_
  refine SeqK.nrm ?_
  refine WC.seq ?_
  refine WC.condN (evT fh rfl) (fun hc => ?_) (fun hc => ?_)
  · replace hL := cond_tt hc hL
    refine WC.skip ?_
    refine SeqK.nrm ?_
    refine WC.seqJ (r := r) (fun (p : Unit) (s : Fs) => ∃ (fr23 : Fr) (h22 : H), s = ⟨fr23, [], h22, none⟩ ∧ Grow h h22 ∧ fr23.at 0 = .pointer (some ⟨b6, o7, none⟩) ∧ fr23.at 1 = .int .i64 p1 ∧ fr23.at 2 = .int .i64 p2 ∧ fr23.at 13 = .int .i64 p0.machines ∧ fr23.at 14 = .int .i64 v14 ∧ MapS wvArr2Int wvWeighCell wm h22 m1 p0.cells ∧ Sl rWeighNote wm h22 a2 c3 p0.notes ∧ Sl (rInt .i64) wm h22 a4 c5 p0.freed ∧ At h22 b6 o7 [.int .i64 p0.machines, .int .i64 p0.names, .map m1, .slice a2 p0.notes.length c3, .slice a4 p0.freed.length c5] ∧ Stb wm h22 b6) (f91_j0 v14 next21) ?_ ?_
    · clear hL
      rintro _ s hL ⟨fr23, h22, rfl, hG, e24, e25, e26, e27, e28, hs29, hs30, hs31, hA32, hS33⟩
      dsimp only [f91_j0] at hL
      refine WC.region ?_
      refine WO.bin gN rfl (evT e28 rfl) (evC rfl) abin_addw ?_
      refine WO.mv gN rfl (evT fh rfl) ?_
      refine WO.nil ?_
      exact LoopK.nrm (hnext21 _ _ hL ⟨_, _, rfl, hG, (fs2 rfl e24), (fs2 rfl e25), (fs2 rfl e26), (fs2 rfl e27), fh, hs29, hs30, hs31, hA32, hS33⟩)
    · skip
      refine WC.block ?_
      refine WC.seq ?_
      refine WC.region ?_
      refine WO.mv gN rfl (evT (fskip rfl e15) rfl) ?_
      refine WO.as gN rfl (evT fh rfl) ?_
      refine WO.nil ?_
      refine SeqK.nrm ?_
      refine WC.seq ?_
      refine WC.region ?_
      refine WO.mv gN rfl (evT (fs2 rfl (fskip rfl e10)) rfl) ?_
      refine WO.nck gN rfl (evT fh rfl) ?_
      refine WO.fld gN rfl fld97_2 (evT fh rfl) ?_
      refine WO.ld gN rfl agg95 (evT fh rfl) hA19 (j := 2) rfl (v := .map m1) rfl ?_
      refine WO.mv gN rfl (evT (fs4 rfl fh) rfl) ?_
      refine WO.mv gN rfl (evT (fs8 rfl e11) rfl) ?_
      refine WO.bldA gN rfl bld113 (evp_cons (evT (fskip rfl fh) rfl) (evp_cons (evT fh rfl) evp_nil)) rfl (cs' := [.int .i64 v14, .int .i64 p1]) rfl ?_
      obtain ⟨x34, hx34, hL⟩ := bind_some hL
      refine WO.v gN rfl (av_lkp2x (kv := wvArr2Int) (vv := wvWeighCell) (k := (Arr2Int.mk v14 p1)) (z := (WeighCell.mk 0 false 0 0 0 false)) key113 und95 zero61 (evT (fs2 rfl (fskip rfl fh)) rfl) (evT fh rfl) (hs16).at_ hx34 (w := .agg [.int .i64 x34.1.name, .bool x34.1.root, .int .i64 x34.1.from_, .int .i64 x34.1.has, .int .i64 x34.1.out, .bool x34.1.use].toArray) rfl) rfl ?_
      refine WO.mv gN rfl (evT fh rfl) ?_
      refine WO.v gN rfl (av_extract (evT fh rfl) (v := .agg [.int .i64 x34.1.name, .bool x34.1.root, .int .i64 x34.1.from_, .int .i64 x34.1.has, .int .i64 x34.1.out, .bool x34.1.use].toArray) rfl) rfl ?_
      refine WO.v gN rfl (av_extract (evT (fskip rfl fh) rfl) (v := .bool x34.2) rfl) rfl ?_
      refine WO.alcN h.size gN rfl zero61 (vs := [.int .i64 0, .bool false, .int .i64 0, .int .i64 0, .int .i64 0, .bool false]) rfl (fun h35 u36 hb37 => ?_)
      have whb37 : h.size ≤ h8.size := hG.size
      have hs16 := MapS.fz hs16 (u36.fz hwm)
      have hs17 := hs17.mono (u36.fz hwm)
      have hs18 := hs18.mono (u36.fz hwm)
      have qhA19 := Stb.fz (u36.fz hwm) hA19 hS20
      have hA19 := At.fz (u36.fz hwm) hS20 hA19
      have hS20 := qhA19
      have hG := u36.grow hG (Nat.le_refl _)
      refine WO.stN h.size gN size61 (evT fh rfl) (evT (fs2 rfl fh) rfl) hb37 whb37 hwm (vs := [.int .i64 x34.1.name, .bool x34.1.root, .int .i64 x34.1.from_, .int .i64 x34.1.has, .int .i64 x34.1.out, .bool x34.1.use]) rfl rfl rfl rfl (cs' := [.int .i64 x34.1.name, .bool x34.1.root, .int .i64 x34.1.from_, .int .i64 x34.1.has, .int .i64 x34.1.out, .bool x34.1.use]) rfl (fun h38 u39 hb40 => ?_)
      have hs16 := MapS.fz hs16 (u39.fz hwm)
      have hs17 := hs17.mono (u39.fz hwm)
      have hs18 := hs18.mono (u39.fz hwm)
      have qhA19 := Stb.fz (u39.fz hwm) hA19 hS20
      have hA19 := At.fz (u39.fz hwm) hS20 hA19
      have hS20 := qhA19
      have hG := u39.grow hG (Nat.le_refl _)
      refine WO.as gN rfl (evT (fskip rfl fh) rfl) ?_
      refine WO.nil ?_
      refine SeqK.nrm ?_
      refine WC.seq ?_
      refine WC.seq ?_
      refine WC.region ?_
      refine WO.mv gN rfl (evT fh rfl) ?_
      refine WO.not gN rfl (evT fh rfl) ?_
      refine WO.nil ?_
      refine SeqK.nrm ?_
      refine WC.condN (evT fh rfl) (fun hc => ?_) (fun hc => ?_)
      · replace hL := cond_tt hc hL
        refine WC.exit ?_
        refine SeqK.exit ?_
        refine BlkK.here ?_
        exact SeqJ.nrm _ hL ⟨_, _, rfl, hG, (fs8 rfl (fs8 rfl (fs2 rfl e10))), (fs8 rfl (fs8 rfl (fs2 rfl e11))), (fs8 rfl (fs8 rfl (fs2 rfl e12))), (fs8 rfl (fs8 rfl (fs2 rfl e13))), (fs8 rfl (fs8 rfl (fs2 rfl e15))), hs16, hs17, hs18, hA19, hS20⟩
      · replace hL := cond_ff hc hL
        refine WC.skip ?_
        refine SeqK.nrm ?_
        refine WC.seq ?_
        refine WC.seq ?_
        refine WC.region ?_
        refine WO.mv gN rfl (evT (fs8 rfl (fs8 rfl (fs2 rfl e10))) rfl) ?_
        refine WO.nck gN rfl (evT fh rfl) ?_
        refine WO.fld gN rfl fld97_0 (evT fh rfl) ?_
        refine WO.ld gN rfl agg3 (evT fh rfl) hA19 (j := 0) rfl (v := .int .i64 p0.machines) rfl ?_
        refine WO.mv gN rfl (evC rfl) ?_
        refine WO.nil ?_
        refine SeqK.nrm ?_
        refine WC.block ?_
        refine WC.loop (WL.lift hL (fun (p : Int × Bool × Int × Int × Bool × Int × Int × Int × Bool) (s : Fs) => match p with | (v46, v49, v54, v56, v57, v58, v59, v60, v61) => ∃ (fr42 : Fr) (h41 : H), s = ⟨fr42, [], h41, none⟩ ∧ Grow h h41 ∧ fr42.at 0 = .pointer (some ⟨b6, o7, none⟩) ∧ fr42.at 1 = .int .i64 p1 ∧ fr42.at 2 = .int .i64 p2 ∧ fr42.at 7 = .int .i64 v46 ∧ fr42.at 8 = .pointer (some ⟨h8.size, 0, none⟩) ∧ fr42.at 9 = .bool v49 ∧ fr42.at 13 = .int .i64 p0.machines ∧ fr42.at 14 = .int .i64 v14 ∧ fr42.at 33 = .int .i64 p0.machines ∧ fr42.at 34 = .int .i64 v54 ∧ h41.at (h8.size) = .row [.int .i64 v56, .bool v57, .int .i64 v58, .int .i64 v59, .int .i64 v60, .bool v61] true 0 ∧ MapS wvArr2Int wvWeighCell wm h41 m1 p0.cells ∧ Sl rWeighNote wm h41 a2 c3 p0.notes ∧ Sl (rInt .i64) wm h41 a4 c5 p0.freed ∧ At h41 b6 o7 [.int .i64 p0.machines, .int .i64 p0.names, .map m1, .slice a2 p0.notes.length c3, .slice a4 p0.freed.length c5] ∧ Stb wm h41 b6) ⟨_, _, rfl, hG, (fs8 rfl (fs8 rfl (fs4 rfl (fs2 rfl (fskip rfl e10))))), (fs8 rfl (fs8 rfl (fs4 rfl (fs2 rfl (fskip rfl e11))))), (fs8 rfl (fs8 rfl (fs4 rfl (fs2 rfl (fskip rfl e12))))), (fs8 rfl (fs8 rfl (fs4 rfl fh))), (fs8 rfl fh), (fs4 rfl (fs2 rfl (fskip rfl fh))), (fs8 rfl (fs8 rfl (fs4 rfl (fs2 rfl (fskip rfl e13))))), (fs8 rfl (fs8 rfl (fs4 rfl (fs2 rfl (fskip rfl e15))))), (fskip rfl fh), fh, hb40, hs16, hs17, hs18, hA19, hS20⟩ ?_)
        clear hL
        rintro next68 ⟨v46, v49, v54, v56, v57, v58, v59, v60, v61⟩ s hnext68 hL ⟨fr42, h41, rfl, hG, e43, e44, e45, e47, e48, e50, e51, e52, e53, e55, hb62, hs63, hs64, hs65, hA66, hS67⟩
        dsimp only [f91_b1] at hL
        refine WC.seq ?_
        refine WC.region ?_
        refine WO.bin gN rfl (evT e55 rfl) (evT e53 rfl) abin_lss ?_
        refine WO.nil ?_
        refine SeqK.nrm ?_
        refine WC.seq ?_
        refine WC.condN (evT fh rfl) (fun hc => ?_) (fun hc => ?_)
        · replace hL := cond_tt hc hL
          refine WC.skip ?_
          refine SeqK.nrm ?_
          refine WC.seq ?_
          refine WC.block ?_
          refine WC.seq ?_
          refine WC.seq ?_
          refine WC.region ?_
          refine WO.mv gN rfl (evT (fskip rfl e47) rfl) ?_
          refine WO.mv gN rfl (evT (fs2 rfl e45) rfl) ?_
          refine WO.bin gN rfl (evT (fskip rfl fh) rfl) (evT fh rfl) abin_eql ?_
          refine WO.nil ?_
          refine SeqK.nrm ?_
          refine WC.condN (evT fh rfl) (fun hc => ?_) (fun hc => ?_)
          · replace hL := cond_tt hc hL
            refine WC.exit ?_
            refine SeqK.exit ?_
            refine BlkK.other rfl ?_
            refine SeqK.exit ?_
            refine LoopK.exit ?_
            refine BlkK.other rfl ?_
            refine SeqK.exit ?_
            refine BlkK.here ?_
            exact SeqJ.nrm _ hL ⟨_, _, rfl, hG, (fs4 rfl e43), (fs4 rfl e44), (fs4 rfl e45), (fs4 rfl e51), (fs4 rfl e52), hs63, hs64, hs65, hA66, hS67⟩
          · replace hL := cond_ff hc hL
            refine WC.skip ?_
            refine SeqK.nrm ?_
            refine WC.seq ?_
            refine WC.seq ?_
            refine WC.region ?_
            refine WO.mv gN rfl (evT (fs4 rfl e50) rfl) ?_
            refine WO.not gN rfl (evT fh rfl) ?_
            refine WO.mv gN rfl (evT fh rfl) ?_
            refine WO.gfld (GuardIs.no rfl rfl rfl fh) rfl fld61_2 (fun hg => (evT (fs4 rfl (fs2 rfl (fskip rfl e48))) rfl)) ?_
            refine WO.gld (GuardIs.no rfl rfl rfl (fskip rfl fh)) rfl agg3 (fun hg => (evG fh rfl hg)) (fun hg => (At.box hb62)) (j := 2) rfl (v := .int .i64 v58) rfl ?_
            refine WO.gbin (GuardIs.no rfl rfl rfl (fs2 rfl fh)) rfl (fun hg => (evG fh rfl hg)) (fun hg => (evC rfl)) (fun hg => abin_lss) ?_
            refine WO.por gN rfl (evT (fs2 rfl (fskip rfl fh)) rfl) (evC rfl) (evGU fh) ?_
            refine WO.nil ?_
            refine SeqK.nrm ?_
            refine WC.condN (evT fh rfl) (fun hc => ?_) (fun hc => ?_)
            · replace hL := cond_tt hc hL
              refine WC.seq ?_
              refine WC.region ?_
              refine WO.as gN rfl (evC rfl) ?_
              refine WO.nil ?_
              refine SeqK.nrm ?_
              refine WC.ret ?_
              refine SeqK.ret ?_
              refine BlkK.ret ?_
              refine SeqK.ret ?_
              refine LoopK.ret ?_
              refine BlkK.ret ?_
              refine SeqK.ret ?_
              refine BlkK.ret ?_
              refine SeqJ.ret ?_
              refine LoopK.ret ?_
              refine BlkK.ret ?_
              refine SeqK.ret ?_
              refine ScpK.ret ?_
              have hr := Option.some.inj hL
              subst hr
              exact RetK.gen1 rfl (ares_tmp (evT fh rfl) ares_nil) rfl
            · replace hL := cond_ff hc hL
              refine WC.skip ?_
              refine SeqK.nrm ?_
              refine WC.seq ?_
              refine WC.region ?_
              refine WO.fld gN rfl fld61_2 (evT (fs8 rfl (fs2 rfl (fskip rfl e48))) rfl) ?_
              refine WO.ld gN rfl agg3 (evT fh rfl) (At.box hb62) (j := 2) rfl (v := .int .i64 v58) rfl ?_
              refine WO.as gN rfl (evT fh rfl) ?_
              refine WO.nil ?_
              refine SeqK.nrm ?_
              refine WC.region ?_
              refine WO.mv gN rfl (evT (fs8 rfl (fs4 rfl (fs2 rfl e43))) rfl) ?_
              refine WO.nck gN rfl (evT fh rfl) ?_
              refine WO.fld gN rfl fld97_2 (evT fh rfl) ?_
              refine WO.ld gN rfl agg95 (evT fh rfl) hA66 (j := 2) rfl (v := .map m1) rfl ?_
              refine WO.mv gN rfl (evT (fs4 rfl fh) rfl) ?_
              refine WO.mv gN rfl (evT (fs8 rfl (fs8 rfl (fs2 rfl (fskip rfl e44)))) rfl) ?_
              refine WO.bldA gN rfl bld113 (evp_cons (evT (fskip rfl fh) rfl) (evp_cons (evT fh rfl) evp_nil)) rfl (cs' := [.int .i64 v58, .int .i64 p1]) rfl ?_
              obtain ⟨x69, hx69, hL⟩ := bind_some hL
              refine WO.v gN rfl (av_lkp2x (kv := wvArr2Int) (vv := wvWeighCell) (k := (Arr2Int.mk v58 p1)) (z := (WeighCell.mk 0 false 0 0 0 false)) key113 und95 zero61 (evT (fs2 rfl (fskip rfl fh)) rfl) (evT fh rfl) (hs63).at_ hx69 (w := .agg [.int .i64 x69.1.name, .bool x69.1.root, .int .i64 x69.1.from_, .int .i64 x69.1.has, .int .i64 x69.1.out, .bool x69.1.use].toArray) rfl) rfl ?_
              refine WO.mv gN rfl (evT fh rfl) ?_
              refine WO.v gN rfl (av_extract (evT fh rfl) (v := .agg [.int .i64 x69.1.name, .bool x69.1.root, .int .i64 x69.1.from_, .int .i64 x69.1.has, .int .i64 x69.1.out, .bool x69.1.use].toArray) rfl) rfl ?_
              refine WO.v gN rfl (av_extract (evT (fskip rfl fh) rfl) (v := .bool x69.2) rfl) rfl ?_
              refine WO.stN h.size gN size61 (evT (fs8 rfl (fs8 rfl (fs8 rfl (fskip rfl e48)))) rfl) (evT (fskip rfl fh) rfl) hb62 whb37 hwm (vs := [.int .i64 x69.1.name, .bool x69.1.root, .int .i64 x69.1.from_, .int .i64 x69.1.has, .int .i64 x69.1.out, .bool x69.1.use]) rfl rfl rfl rfl (cs' := [.int .i64 x69.1.name, .bool x69.1.root, .int .i64 x69.1.from_, .int .i64 x69.1.has, .int .i64 x69.1.out, .bool x69.1.use]) rfl (fun h70 u71 hb72 => ?_)
              have hs63 := MapS.fz hs63 (u71.fz hwm)
              have hs64 := hs64.mono (u71.fz hwm)
              have hs65 := hs65.mono (u71.fz hwm)
              have qhA66 := Stb.fz (u71.fz hwm) hA66 hS67
              have hA66 := At.fz (u71.fz hwm) hS67 hA66
              have hS67 := qhA66
              have hG := u71.grow hG (Nat.le_refl _)
              refine WO.as gN rfl (evT fh rfl) ?_
              refine WO.nil ?_
              refine BlkK.nrm ?_
              refine SeqK.nrm ?_
              refine WC.region ?_
              refine WO.bin gN rfl (evT (fs8 rfl (fs8 rfl (fs8 rfl (fs2 rfl e55)))) rfl) (evC rfl) abin_addw ?_
              refine WO.mv gN rfl (evT fh rfl) ?_
              refine WO.nil ?_
              exact LoopK.nrm (hnext68 _ _ hL ⟨_, _, rfl, hG, (fs8 rfl (fs8 rfl (fs8 rfl (fs4 rfl e43)))), (fs8 rfl (fs8 rfl (fs8 rfl (fs4 rfl e44)))), (fs8 rfl (fs8 rfl (fs8 rfl (fs4 rfl e45)))), (fs8 rfl (fs4 rfl (fs2 rfl fh))), (fs8 rfl (fs8 rfl (fs8 rfl (fs4 rfl e48)))), (fs2 rfl fh), (fs8 rfl (fs8 rfl (fs8 rfl (fs4 rfl e51)))), (fs8 rfl (fs8 rfl (fs8 rfl (fs4 rfl e52)))), (fs8 rfl (fs8 rfl (fs8 rfl (fs4 rfl e53)))), fh, hb72, hs63, hs64, hs65, hA66, hS67⟩)
        · replace hL := cond_ff hc hL
          refine WC.exit ?_
          refine SeqK.exit ?_
          refine LoopK.exit ?_
          refine BlkK.here ?_
          refine SeqK.nrm ?_
          refine WC.seq ?_
          refine WC.region ?_
          refine WO.mv gN rfl (evT (fskip rfl e47) rfl) ?_
          refine WO.mv gN rfl (evT (fs2 rfl e45) rfl) ?_
          refine WO.bin gN rfl (evT (fskip rfl fh) rfl) (evT fh rfl) abin_neq ?_
          refine WO.nil ?_
          refine SeqK.nrm ?_
          refine WC.condN (evT fh rfl) (fun hc => ?_) (fun hc => ?_)
          · replace hL := cond_tt hc hL
            refine WC.seq ?_
            refine WC.region ?_
            refine WO.as gN rfl (evC rfl) ?_
            refine WO.nil ?_
            refine SeqK.nrm ?_
            refine WC.ret ?_
            refine BlkK.ret ?_
            refine SeqJ.ret ?_
            refine LoopK.ret ?_
            refine BlkK.ret ?_
            refine SeqK.ret ?_
            refine ScpK.ret ?_
            have hr := Option.some.inj hL
            subst hr
            exact RetK.gen1 rfl (ares_tmp (evT fh rfl) ares_nil) rfl
          · replace hL := cond_ff hc hL
            refine WC.skip ?_
            refine BlkK.nrm ?_
            exact SeqJ.nrm _ hL ⟨_, _, rfl, hG, (fs4 rfl e43), (fs4 rfl e44), (fs4 rfl e45), (fs4 rfl e51), (fs4 rfl e52), hs63, hs64, hs65, hA66, hS67⟩
  · replace hL := cond_ff hc hL
    refine WC.exit ?_
    refine SeqK.exit ?_
    refine LoopK.exit ?_
    refine BlkK.here ?_
    refine SeqK.nrm ?_
    refine WC.seq ?_
    refine WC.region ?_
    refine WO.as gN rfl (evC rfl) ?_
    refine WO.nil ?_
    refine SeqK.nrm ?_
    refine WC.ret ?_
    refine ScpK.ret ?_
    have hr := Option.some.inj hL
    subst hr
    exact RetK.gen1 rfl (ares_tmp (evT fh rfl) ares_nil) rfl
theorem f91_ok {F : Nat} {h : H} {p0 : Store} {p1 : Int} {p2 : Int} {b6 o7 : Nat} {m1 : Option Nat} {a2 : Option Addr} {c3 : Nat} {a4 : Option Addr} {c5 : Nat} {r : Bool} (hAb6 : At h b6 o7 [.int .i64 p0.machines, .int .i64 p0.names, .map m1, .slice a2 p0.notes.length c3, .slice a4 p0.freed.length c5]) (hSb6 : Stb h.size h b6) (hsm1 : MapS wvArr2Int wvWeighCell h.size h m1 p0.cells) (hsa2 : Sl rWeighNote h.size h a2 c3 p0.notes) (hsa4 : Sl (rInt .i64) h.size h a4 c5 p0.freed) (hL : f91L F p0 p1 p2 = some r) : Pure XX 91 #[.pointer (some ⟨b6, o7, none⟩), .int .i64 p1, .int .i64 p2] h (.bool r) :=
  WF.pureR rfl (f91_wf (Nat.le_refl _) hAb6 hSb6 hsm1 hsa2 hsa4 hL)
end Go.Proofs.Ytekpjgmhkkjhgaa
end
end
section
set_option linter.unusedVariables false
set_option linter.unusedSimpArgs false
namespace Go.Proofs.Ytekpjgmhkkjhgaa
open Go.Lf
def f110_b1 {σ : Type} (p0 : Store) (y : (Int → WeighCell → σ → Option σ)) (v10 : Int) (next14 : (Int × σ → Option σ)) : Int × σ → (Int × σ → Option σ) → Option σ := fun (v20, v23) next24 =>
  (bif decide (v20 < p0.names) then (pget2 p0.cells (Arr2Int.mk v10 v20) (WeighCell.mk 0 false 0 0 0 false)).bind fun x25 => (bif x25.2 then (y v10 x25.1 v23).bind fun v34 => (bif (!true) then some v34 else next24 (w64 (v20 + 1), v34)) else (bif false then some v23 else next24 (w64 (v20 + 1), v23))) else next14 (w64 (v10 + 1), v23))
def f110_b0 {σ : Type} (F : Nat) (p0 : Store) (y : (Int → WeighCell → σ → Option σ)) : Int × σ → (Int × σ → Option σ) → Option σ := fun (v10, v13) next14 =>
  (bif decide (v10 < p0.machines) then loop F (f110_b1 p0 y v10 next14) (0, v13) else some v13)
def f110L {σ : Type} (F : Nat) (p0 : Store) (y : (Int → WeighCell → σ → Option σ)) (s0 : σ) : Option σ :=
  loop F (f110_b0 F p0 y) (0, s0)
def f90_y0 (p1 : Int) : Int → WeighCell → ((List Int)) → Option ((List Int)) := fun x66 x67 v42 =>
  (bif ((x67.name == p1) && x67.root) then (app 8 v42 [x66]).bind fun z85 => some z85 else some v42)
def f90_j0 (v110 : Int) (next122 : (Int × (List Int) → Option (List Int))) : (List Int) → Option (List Int) := fun v131 =>
  next122 (w64 (v110 + 1), v131)
def f90_b0 (p0 : Store) (p1 : Int) : Int × (List Int) → (Int × (List Int) → Option (List Int)) → Option (List Int) := fun (v110, v113) next122 =>
  (bif decide (v110 < (p0.notes.length : Int)) then (geti p0.notes v110).bind fun x140 => (bif ((x140.kind == 3) && (x140.name == p1)) then (app 8 v113 [x140.to_]).bind fun z155 => (f90_j0 v110 next122) z155 else (f90_j0 v110 next122) v113) else some v113)
def f90L (F : Nat) (p0 : Store) (p1 : Int) : Option (List Int) :=
  (f110L F p0 (f90_y0 p1) []).bind fun v42 => loop F (f90_b0 p0 p1) (0, v42)
def f68_y0 : Int → WeighCell → ((List (Arr2Int × Int)) × (List (Arr2Int × Int))) → Option ((List (Arr2Int × Int)) × (List (Arr2Int × Int))) := fun x79 x80 (v53, v55) =>
  (pget v53 (Arr2Int.mk x79 x80.name) 0).bind fun x94 => (bif decide (x80.from_ ≥ 0) then (pget v55 (Arr2Int.mk x80.from_ x80.name) 0).bind fun x103 => some ((mset (ment v53 (Arr2Int.mk x79 x80.name) 0) (Arr2Int.mk x79 x80.name) (w64 (x94 + x80.out))), (mset (ment v55 (Arr2Int.mk x80.from_ x80.name) 0) (Arr2Int.mk x80.from_ x80.name) (w64 (x103 + x80.has)))) else some ((mset (ment v53 (Arr2Int.mk x79 x80.name) 0) (Arr2Int.mk x79 x80.name) (w64 (x94 + x80.out))), v55))
def f68_j0 (v126 : Int) (next139 : (Int × (List (Arr2Int × Int)) × (List (Arr2Int × Int)) → Option ((List (Arr2Int × Int)) × (List (Arr2Int × Int))))) : (List (Arr2Int × Int)) × (List (Arr2Int × Int)) → Option ((List (Arr2Int × Int)) × (List (Arr2Int × Int))) := fun (v147, v149) =>
  next139 (w64 (v126 + 1), v147, v149)
def f68_b0 (p0 : Store) : Int × (List (Arr2Int × Int)) × (List (Arr2Int × Int)) → (Int × (List (Arr2Int × Int)) × (List (Arr2Int × Int)) → Option ((List (Arr2Int × Int)) × (List (Arr2Int × Int)))) → Option ((List (Arr2Int × Int)) × (List (Arr2Int × Int))) := fun (v126, v128, v130) next139 =>
  (bif decide (v126 < (p0.notes.length : Int)) then (geti p0.notes v126).bind fun x158 => (bif (x158.kind == 1) then (pget v130 (Arr2Int.mk x158.via x158.name) 0).bind fun x169 => (f68_j0 v126 next139) (v128, (mset (ment v130 (Arr2Int.mk x158.via x158.name) 0) (Arr2Int.mk x158.via x158.name) (w64 (x169 + x158.w)))) else (bif (x158.kind == 2) then (pget v130 (Arr2Int.mk x158.to_ x158.name) 0).bind fun x178 => (f68_j0 v126 next139) (v128, (mset (ment v130 (Arr2Int.mk x158.to_ x158.name) 0) (Arr2Int.mk x158.to_ x158.name) (w64 (x178 + x158.w)))) else (pget v128 (Arr2Int.mk x158.to_ x158.name) 0).bind fun x187 => (f68_j0 v126 next139) ((mset (ment v128 (Arr2Int.mk x158.to_ x158.name) 0) (Arr2Int.mk x158.to_ x158.name) (w64 (x187 + 16))), v130))) else some (v128, v130))
def f68L (F : Nat) (p0 : Store) : Option ((List (Arr2Int × Int)) × (List (Arr2Int × Int))) :=
  (f110L F p0 (f68_y0) ([], [])).bind fun q44 => match q44 with | (v53, v55) => loop F (f68_b0 p0) (0, v53, v55)
end Go.Proofs.Ytekpjgmhkkjhgaa
end
section
set_option linter.unusedVariables false
set_option linter.unusedSimpArgs false
set_option maxRecDepth 20000
noncomputable section
namespace Go.Proofs.Ytekpjgmhkkjhgaa
open Go.Abs Go.Lf
theorem f71_wf {wm : Nat} {h : H} {b o : Nat} (hwm : wm ≤ h.size) :
    WR XX 71 #[.pointer (some ⟨b, o, none⟩)] wm h (fun v h' => ∃ rb : Nat, v = .func (.func 110) #[] [.pointer (some ⟨rb, 0, none⟩)].toArray ∧ Grow h h' ∧ h'.at rb = .row [.pointer (some ⟨b, o, none⟩)] true 0 ∧ h.size ≤ rb) := by
  refine WF.begin (args := [_]) (fn := Try.f71) (by kernel_rfl) (by exact rfl) Try.ntmps71 (by simp) ?_
  simp only [frameOf_cons, frameOf_nil, Nat.reduceAdd]
  have hG : Grow h h := Grow.refl h
  refine WC.seq ?_
  refine WC.region ?_
  refine WO.boxN h.size gN rfl (evT fh rfl) (vs := [.pointer (some ⟨b, o, none⟩)]) rfl (fun h1 u2 hb3 => ?_)
  have whb3 : h.size ≤ h.size := hG.size
  have hG := u2.grow hG (Nat.le_refl _)
  refine WO.as gN rfl (evC rfl) ?_
  refine WO.nil ?_
  refine SeqK.nrm ?_
  refine WC.seq ?_
  refine WC.region ?_
  refine WO.v gN rfl (av_mkf (evs_cons (evT (fskip rfl fh) rfl) evs_nil)) rfl ?_
  refine WO.as gN rfl (evT fh rfl) ?_
  refine WO.nil ?_
  refine SeqK.nrm ?_
  refine WC.ret ?_
  exact RetK.gen1 rfl (ares_tmp (evT fh rfl) ares_nil) ⟨h.size, rfl, hG, hb3, whb3⟩
theorem f110_wf {F : Nat} {wm : Nat} {h : H} {σ : Type} {l b1 b o : Nat} {m1 : Option Nat} {a2 : Option Addr} {c3 : Nat} {a4 : Option Addr} {c5 : Nat} {p0 : Store} {J : σ → H → Prop} {y : (Int → WeighCell → σ → Option σ)} {s0 r : σ} (hwm : wm ≤ h.size)
    (hJF : ∀ s h', J s h' → h'.at b1 = .row [.pointer (some ⟨b, o, none⟩)] true 0 ∧ At h' b o [.int .i64 p0.machines, .int .i64 p0.names, .map m1, .slice a2 p0.notes.length c3, .slice a4 p0.freed.length c5] ∧ MapAt wvArr2Int wvWeighCell h' m1 p0.cells ∧ YldAt h' l 2 ∧ SzLe h h')
    (hJc : ∀ s h1 h2 (t : Nat → Prop), J s h1 → Up h.size t h1 h2 → (∀ i, t i → ∃ cs, h1.at i = .row cs true 0) → J s h2)
    (hrnd : ∀ s s' x0 x1 h1, J s h1 → y x0 x1 s = some s' → RdOK XX l #[.int .i64 x0, .agg [.int .i64 x1.name, .bool x1.root, .int .i64 x1.from_, .int .i64 x1.has, .int .i64 x1.out, .bool x1.use].toArray] wm h1 (fun b h' => b = true ∧ J s' h'))
    (hJ : J s0 h) (hL : f110L F p0 y s0 = some r) : WR XX 110 #[.func (.yield l) #[] #[], .pointer (some ⟨b1, 0, none⟩)] wm h (fun v h' => v = .tuple [].toArray ∧ J r h') := by
  refine WF.begin (args := [_, _]) (fn := Try.f110) (by kernel_rfl) (by exact rfl) Try.ntmps110 (by simp) ?_
  simp only [frameOf_cons, frameOf_nil, Nat.reduceAdd]
  obtain ⟨hb1, hA, hmm1, hY, hG⟩ := hJF _ _ hJ
  unfold f110L at hL
  refine WC.seq ?_
  refine WC.region ?_
  refine WO.as gN rfl (evC rfl) ?_
  refine WO.nil ?_
  refine SeqK.nrm ?_
  refine WC.block ?_
  refine WC.loop (WL.lift hL (fun (p : Int × σ) (s : Fs) => match p with | (v10, v13) => ∃ (fr7 : Fr) (h6 : H), s = ⟨fr7, [], h6, none⟩ ∧ SzLe h h6 ∧ fr7.at 0 = .func (.yield l) #[] #[] ∧ fr7.at 1 = .pointer (some ⟨b1, 0, none⟩) ∧ fr7.at 3 = .int .i64 v10 ∧ h6.at (b1) = .row [.pointer (some ⟨b, o, none⟩)] true 0 ∧ J v13 h6) ⟨_, _, rfl, hG, (fs2 rfl fh), (fskip rfl fh), fh, hb1, hJ⟩ ?_)
  clear hL
  rintro next14 ⟨v10, v13⟩ s hnext14 hL ⟨fr7, h6, rfl, hG, e8, e9, e11, hb12, hJ⟩
  obtain ⟨hb1, hA, hmm1, hY, hG⟩ := hJF _ _ hJ
  dsimp only [f110_b0] at hL
  refine WC.seq ?_
  refine WC.seq ?_
  refine WC.region ?_
  refine WO.mv gN rfl (evT e11 rfl) ?_
  refine WO.ld gN rfl agg94 (evT (fskip rfl e9) rfl) (At.box hb12) (j := 0) rfl (v := .pointer (some ⟨b, o, none⟩)) rfl ?_
  refine WO.nck gN rfl (evT fh rfl) ?_
  refine WO.fld gN rfl fld97_0 (evT fh rfl) ?_
  refine WO.ld gN rfl agg3 (evT fh rfl) hA (j := 0) rfl (v := .int .i64 p0.machines) rfl ?_
  refine WO.bin gN rfl (evT (fs4 rfl fh) rfl) (evT fh rfl) abin_lss ?_
  refine WO.nil ?_
  refine SeqK.nrm ?_
  refine WC.condN (evT fh rfl) (fun hc => ?_) (fun hc => ?_)
  · replace hL := cond_tt hc hL
    refine WC.skip ?_
    refine SeqK.nrm ?_
    refine WC.seq ?_
    refine WC.block ?_
    refine WC.seq ?_
    refine WC.region ?_
    refine WO.as gN rfl (evC rfl) ?_
    refine WO.nil ?_
    refine SeqK.nrm ?_
    refine WC.block ?_
    refine WC.loop (WL.lift hL (fun (p : Int × σ) (s : Fs) => match p with | (v20, v23) => ∃ (fr16 : Fr) (h15 : H), s = ⟨fr16, [], h15, none⟩ ∧ SzLe h h15 ∧ fr16.at 0 = .func (.yield l) #[] #[] ∧ fr16.at 1 = .pointer (some ⟨b1, 0, none⟩) ∧ fr16.at 3 = .int .i64 v10 ∧ fr16.at 4 = .int .i64 v20 ∧ h15.at (b1) = .row [.pointer (some ⟨b, o, none⟩)] true 0 ∧ J v23 h15) ⟨_, _, rfl, hG, (fs4 rfl (fs2 rfl (fskip rfl e8))), (fs4 rfl (fs2 rfl (fskip rfl e9))), (fs4 rfl (fs2 rfl (fskip rfl e11))), fh, hb12, hJ⟩ ?_)
    clear hL
    rintro next24 ⟨v20, v23⟩ s hnext24 hL ⟨fr16, h15, rfl, hG, e17, e18, e19, e21, hb22, hJ⟩
    obtain ⟨hb1, hA, hmm1, hY, hG⟩ := hJF _ _ hJ
    dsimp only [f110_b1] at hL
    refine WC.seq ?_
    refine WC.seq ?_
    refine WC.region ?_
    refine WO.mv gN rfl (evT e21 rfl) ?_
    refine WO.ld gN rfl agg94 (evT (fskip rfl e18) rfl) (At.box hb22) (j := 0) rfl (v := .pointer (some ⟨b, o, none⟩)) rfl ?_
    refine WO.nck gN rfl (evT fh rfl) ?_
    refine WO.fld gN rfl fld97_1 (evT fh rfl) ?_
    refine WO.ld gN rfl agg3 (evT fh rfl) hA (j := 1) rfl (v := .int .i64 p0.names) rfl ?_
    refine WO.bin gN rfl (evT (fs4 rfl fh) rfl) (evT fh rfl) abin_lss ?_
    refine WO.nil ?_
    refine SeqK.nrm ?_
    refine WC.condN (evT fh rfl) (fun hc => ?_) (fun hc => ?_)
    · replace hL := cond_tt hc hL
      refine WC.skip ?_
      refine SeqK.nrm ?_
      refine WC.seq ?_
      refine WC.block ?_
      refine WC.seq ?_
      refine WC.region ?_
      refine WO.ld gN rfl agg94 (evT (fs4 rfl (fs2 rfl e18)) rfl) (At.box hb22) (j := 0) rfl (v := .pointer (some ⟨b, o, none⟩)) rfl ?_
      refine WO.nck gN rfl (evT fh rfl) ?_
      refine WO.fld gN rfl fld97_2 (evT fh rfl) ?_
      refine WO.ld gN rfl agg95 (evT fh rfl) hA (j := 2) rfl (v := .map m1) rfl ?_
      refine WO.mv gN rfl (evT (fs8 rfl (fs2 rfl e19)) rfl) ?_
      refine WO.mv gN rfl (evT (fs8 rfl (fs2 rfl (fskip rfl e21))) rfl) ?_
      refine WO.bldA gN rfl bld113 (evp_cons (evT (fskip rfl fh) rfl) (evp_cons (evT fh rfl) evp_nil)) rfl (cs' := [.int .i64 v10, .int .i64 v20]) rfl ?_
      obtain ⟨x25, hx25, hL⟩ := bind_some hL
      refine WO.v gN rfl (av_lkp2x (kv := wvArr2Int) (vv := wvWeighCell) (k := (Arr2Int.mk v10 v20)) (z := (WeighCell.mk 0 false 0 0 0 false)) key113 und95 zero61 (evT (fs2 rfl (fskip rfl fh)) rfl) (evT fh rfl) hmm1 hx25 (w := .agg [.int .i64 x25.1.name, .bool x25.1.root, .int .i64 x25.1.from_, .int .i64 x25.1.has, .int .i64 x25.1.out, .bool x25.1.use].toArray) rfl) rfl ?_
      refine WO.mv gN rfl (evT fh rfl) ?_
      refine WO.v gN rfl (av_extract (evT fh rfl) (v := .agg [.int .i64 x25.1.name, .bool x25.1.root, .int .i64 x25.1.from_, .int .i64 x25.1.has, .int .i64 x25.1.out, .bool x25.1.use].toArray) rfl) rfl ?_
      refine WO.v gN rfl (av_extract (evT (fskip rfl fh) rfl) (v := .bool x25.2) rfl) rfl ?_
      refine WO.alcN h.size gN rfl zero61 (vs := [.int .i64 0, .bool false, .int .i64 0, .int .i64 0, .int .i64 0, .bool false]) rfl (fun h26 u27 hb28 => ?_)
      have whb28 : h.size ≤ h15.size := hG.size
      have ne29 := Nat.ne_of_lt (live_lt hb22 rfl)
      have hb22 := u27.row (fun z => z) hb22
      have hG := SzLe.step hG u27
      have hJ := hJc _ _ _ _ hJ u27 (fun _ z => z.elim)
      obtain ⟨hb1, hA, hmm1, hY, hG⟩ := hJF _ _ hJ
      refine WO.stN h.size gN size61 (evT fh rfl) (evT (fs2 rfl fh) rfl) hb28 whb28 hwm (vs := [.int .i64 x25.1.name, .bool x25.1.root, .int .i64 x25.1.from_, .int .i64 x25.1.has, .int .i64 x25.1.out, .bool x25.1.use]) rfl rfl rfl rfl (cs' := [.int .i64 x25.1.name, .bool x25.1.root, .int .i64 x25.1.from_, .int .i64 x25.1.has, .int .i64 x25.1.out, .bool x25.1.use]) rfl (fun h30 u31 hb32 => ?_)
      have hb22 := u31.row ne29 hb22
      have hG := SzLe.step hG u31
      have hJ := hJc _ _ _ _ hJ u31 (jput hb28)
      obtain ⟨hb1, hA, hmm1, hY, hG⟩ := hJF _ _ hJ
      refine WO.as gN rfl (evT (fskip rfl fh) rfl) ?_
      refine WO.nil ?_
      refine SeqK.nrm ?_
      refine WC.seq ?_
      refine WC.region ?_
      refine WO.mv gN rfl (evT fh rfl) ?_
      refine WO.mv gN rfl (evT fh rfl) ?_
      refine WO.gmv (GuardIs.yes rfl rfl rfl fh) rfl (fun hg => (evT (fs8 rfl (fs8 rfl (fs4 rfl (fskip rfl e17)))) rfl)) ?_
      refine WO.gmv (GuardIs.yes rfl rfl rfl (fskip rfl fh)) rfl (fun hg => (evT (fs8 rfl (fs8 rfl (fs4 rfl (fs2 rfl e19)))) rfl)) ?_
      refine WO.gldA (GuardIs.yes rfl rfl rfl (fs2 rfl fh)) rfl agg61 size61 (fun hg => (evT (fs4 rfl (fskip rfl fh)) rfl)) (fun hg => (At.box hb32)) (j := 0) rfl rfl (ws := [.int .i64 x25.1.name, .bool x25.1.root, .int .i64 x25.1.from_, .int .i64 x25.1.has, .int .i64 x25.1.out, .bool x25.1.use]) rfl ?_
      refine WO.gsplit (GuardIs.yes rfl rfl rfl (fs2 rfl (fskip rfl fh))) (fun hk33 => ?_) (fun hk33 => ?_)
      · replace hL := cond_tt hk33 hL
        obtain ⟨v34, hv34, hL⟩ := bind_some hL
        refine WO.yld2 (GuardIs.on (GuardIs.yes rfl rfl rfl (fs2 rfl (fskip rfl fh))) hk33) rfl (evG (fs2 rfl fh) rfl hk33) (evs_cons (evG (fskip rfl fh) rfl hk33) (evs_cons (evG fh rfl hk33) evs_nil)) hY (hrnd _ _ _ _ _ hJ hv34) (fun yb36 h35 hr37 => ?_)
        obtain ⟨rfl, hJ⟩ := hr37
        obtain ⟨hb1, hA, hmm1, hY, hG⟩ := hJF _ _ hJ
        refine WO.not (GuardIs.on (GuardIs.yes rfl rfl rfl (fs4 rfl fh)) hk33) rfl (evT fh rfl) ?_
        refine WO.pickT gN rfl (evT (fs4 rfl (fskip rfl fh)) rfl) hk33 (evT fh rfl) ?_
        refine WO.nil ?_
        refine SeqK.nrm ?_
        refine WC.condN (evT fh rfl) (fun hc => ?_) (fun hc => ?_)
        · replace hL := cond_tt hc hL
          refine WC.ret ?_
          refine BlkK.ret ?_
          refine SeqK.ret ?_
          refine LoopK.ret ?_
          refine BlkK.ret ?_
          refine BlkK.ret ?_
          refine SeqK.ret ?_
          refine LoopK.ret ?_
          refine BlkK.ret ?_
          have hr := Option.some.inj hL
          subst hr
          exact RetK.gen (vs := []) rfl ares_nil rfl ⟨rfl, hJ⟩
        · replace hL := cond_ff hc hL
          refine WC.skip ?_
          refine BlkK.nrm ?_
          refine SeqK.nrm ?_
          refine WC.region ?_
          refine WO.mv gN rfl (evT (fs8 rfl (fs8 rfl (fs8 rfl (fs2 rfl (fskip rfl e21))))) rfl) ?_
          refine WO.bin gN rfl (evT fh rfl) (evC rfl) abin_addw ?_
          refine WO.as gN rfl (evT fh rfl) ?_
          refine WO.nil ?_
          exact LoopK.nrm (hnext24 _ _ hL ⟨_, _, rfl, hG, (fs8 rfl (fs8 rfl (fs8 rfl (fs4 rfl (fs2 rfl e17))))), (fs8 rfl (fs8 rfl (fs8 rfl (fs4 rfl (fs2 rfl e18))))), (fs8 rfl (fs8 rfl (fs8 rfl (fs4 rfl (fs2 rfl e19))))), fh, hb1, hJ⟩)
      · replace hL := cond_ff hk33 hL
        refine WO.offO (GuardIs.yes rfl rfl rfl (fs2 rfl (fskip rfl fh))) hk33 rfl ?_
        refine WO.offO (GuardIs.yes rfl rfl rfl (fs4 rfl fh)) hk33 rfl ?_
        refine WO.pickF gN rfl (evT (fs4 rfl (fskip rfl fh)) rfl) hk33 (evC rfl) ?_
        refine WO.nil ?_
        refine SeqK.nrm ?_
        refine WC.condN (evT fh rfl) (fun hc => ?_) (fun hc => ?_)
        · replace hL := cond_tt hc hL
          refine WC.ret ?_
          refine BlkK.ret ?_
          refine SeqK.ret ?_
          refine LoopK.ret ?_
          refine BlkK.ret ?_
          refine BlkK.ret ?_
          refine SeqK.ret ?_
          refine LoopK.ret ?_
          refine BlkK.ret ?_
          have hr := Option.some.inj hL
          subst hr
          exact RetK.gen (vs := []) rfl ares_nil rfl ⟨rfl, hJ⟩
        · replace hL := cond_ff hc hL
          refine WC.skip ?_
          refine BlkK.nrm ?_
          refine SeqK.nrm ?_
          refine WC.region ?_
          refine WO.mv gN rfl (evT (fs8 rfl (fs8 rfl (fs8 rfl (fs2 rfl (fskip rfl e21))))) rfl) ?_
          refine WO.bin gN rfl (evT fh rfl) (evC rfl) abin_addw ?_
          refine WO.as gN rfl (evT fh rfl) ?_
          refine WO.nil ?_
          exact LoopK.nrm (hnext24 _ _ hL ⟨_, _, rfl, hG, (fs8 rfl (fs8 rfl (fs8 rfl (fs4 rfl (fs2 rfl e17))))), (fs8 rfl (fs8 rfl (fs8 rfl (fs4 rfl (fs2 rfl e18))))), (fs8 rfl (fs8 rfl (fs8 rfl (fs4 rfl (fs2 rfl e19))))), fh, hb22, hJ⟩)
    · replace hL := cond_ff hc hL
      refine WC.exit ?_
      refine SeqK.exit ?_
      refine LoopK.exit ?_
      refine BlkK.here ?_
      refine BlkK.nrm ?_
      refine SeqK.nrm ?_
      refine WC.region ?_
      refine WO.mv gN rfl (evT (fs4 rfl (fs2 rfl e19)) rfl) ?_
      refine WO.bin gN rfl (evT fh rfl) (evC rfl) abin_addw ?_
      refine WO.as gN rfl (evT fh rfl) ?_
      refine WO.nil ?_
      exact LoopK.nrm (hnext14 _ _ hL ⟨_, _, rfl, hG, (fs8 rfl (fskip rfl e17)), (fs8 rfl (fskip rfl e18)), fh, hb22, hJ⟩)
  · replace hL := cond_ff hc hL
    refine WC.exit ?_
    refine SeqK.exit ?_
    refine LoopK.exit ?_
    refine BlkK.here ?_
    refine RetK.nrm ?_
    have hr := Option.some.inj hL
    subst hr
    exact RetK.gen (vs := []) rfl ares_nil rfl ⟨rfl, hJ⟩
theorem f90_wf {F : Nat} {wm : Nat} {h : H} {p0 : Store} {p1 : Int} {b6 o7 : Nat} {m1 : Option Nat} {a2 : Option Addr} {c3 : Nat} {a4 : Option Addr} {c5 : Nat} {r : (List Int)} (hwm : wm ≤ h.size) (hAb6 : At h b6 o7 [.int .i64 p0.machines, .int .i64 p0.names, .map m1, .slice a2 p0.notes.length c3, .slice a4 p0.freed.length c5]) (hSb6 : Stb wm h b6) (hsm1 : MapS wvArr2Int wvWeighCell wm h m1 p0.cells) (hsa2 : Sl rWeighNote wm h a2 c3 p0.notes) (hsa4 : Sl (rInt .i64) wm h a4 c5 p0.freed) (hL : f90L F p0 p1 = some r) :
    WR XX 90 #[.pointer (some ⟨b6, o7, none⟩), .int .i64 p1] wm h (fun v h' => ∃ (ra0_0 : Option Addr) (rc0_0 : Nat), v = .slice ra0_0 r.length rc0_0 ∧ Grow h h' ∧ OwnS (rInt .i64) wm h.size h' ra0_0 rc0_0 r) := by
  refine WF.beginL (args := [_, _]) (fn := Try.f90) (by kernel_rfl) (by exact rfl) Try.ntmps90 (by simp) ?_
  simp only [frameOf_cons, frameOf_nil, Nat.reduceAdd]
  have hG : Grow h h := Grow.refl h
  unfold f90L at hL
  refine WC.seq ?_
  refine WC.region ?_
  refine WO.boxN h.size gN rfl (evT fh rfl) (vs := [.int .i64 p1]) rfl (fun h8 u9 hb10 => ?_)
  have whb10 : h.size ≤ h.size := hG.size
  have hsm1 := MapS.fz hsm1 (u9.fz hwm)
  have hsa2 := hsa2.mono (u9.fz hwm)
  have hsa4 := hsa4.mono (u9.fz hwm)
  have qhAb6 := Stb.fz (u9.fz hwm) hAb6 hSb6
  have hAb6 := At.fz (u9.fz hwm) hSb6 hAb6
  have hSb6 := qhAb6
  have hG := u9.grow hG (Nat.le_refl _)
  refine WO.as gN rfl (evC rfl) ?_
  refine WO.nil ?_
  refine SeqK.nrm ?_
  refine WC.seq ?_
  refine WC.region ?_
  refine WO.alcN h.size gN rfl zero24 (vs := [.slice none 0 0]) rfl (fun h11 u12 hb13 => ?_)
  have whb13 : h.size ≤ h8.size := hG.size
  have ne14 := Nat.ne_of_lt (live_lt hb10 rfl)
  have hb10 := u12.row (fun z => z) hb10
  have hsm1 := MapS.fz hsm1 (u12.fz hwm)
  have hsa2 := hsa2.mono (u12.fz hwm)
  have hsa4 := hsa4.mono (u12.fz hwm)
  have qhAb6 := Stb.fz (u12.fz hwm) hAb6 hSb6
  have hAb6 := At.fz (u12.fz hwm) hSb6 hAb6
  have hSb6 := qhAb6
  have hG := u12.grow hG (Nat.le_refl _)
  refine WO.nil ?_
  refine SeqK.nrm ?_
  refine WC.seq ?_
  refine WC.seq ?_
  refine WC.region ?_
  refine WO.mv gN rfl (evT (fs4 rfl fh) rfl) ?_
  refine WO.cw gN rfl has71 (evs_cons (evT fh rfl) evs_nil) (f71_wf (Nat.le_trans hwm hG.size)) (fun y22 h15 hr17 => ?_)
  obtain ⟨b19, rfl, gr16, hb20, hw21⟩ := hr17
  have u18 := Up.of_grow h.size gr16
  have ne23 : h.size ≠ b19 := Nat.ne_of_lt (Nat.lt_of_lt_of_le (live_lt hb10 rfl) hw21)
  have ne24 : h8.size ≠ b19 := Nat.ne_of_lt (Nat.lt_of_lt_of_le (live_lt hb13 rfl) hw21)
  have hw21 := Nat.le_trans hG.size hw21
  have hb10 := u18.row (fun z => z) hb10
  have hb13 := u18.row (fun z => z) hb13
  have hsm1 := MapS.fz hsm1 (u18.fz hwm)
  have hsa2 := hsa2.mono (u18.fz hwm)
  have hsa4 := hsa4.mono (u18.fz hwm)
  have qhAb6 := Stb.fz (u18.fz hwm) hAb6 hSb6
  have hAb6 := At.fz (u18.fz hwm) hSb6 hAb6
  have hSb6 := qhAb6
  have hG := u18.grow hG (Nat.le_refl _)
  refine WO.nil ?_
  refine SeqK.nrm ?_
  refine WC.block ?_
  obtain ⟨q31, hq31, hL⟩ := bind_some hL
  have wd29 : h.size ≤ h15.size := hG.size
  have wl30 : h.size ≤ (h15.size + 1) := Nat.le_succ_of_le hG.size
  refine WC.rangeF h.size (evT fh rfl) has110 (fun h25 u26 hd27 hl28 => ?_)
  have hb10 := u26.row (fun z => z) hb10
  have hb13 := u26.row (fun z => z) hb13
  have hb20 := u26.row (fun z => z) hb20
  have hsm1 := MapS.fz hsm1 (u26.fz hwm)
  have hsa2 := hsa2.mono (u26.fz hwm)
  have hsa4 := hsa4.mono (u26.fz hwm)
  have qhAb6 := Stb.fz (u26.fz hwm) hAb6 hSb6
  have hAb6 := At.fz (u26.fz hwm) hSb6 hAb6
  have hSb6 := qhAb6
  have hG := u26.grow hG (Nat.le_refl _)
  have lt54 := live_lt hb10 rfl
  have lt55 := live_lt hb13 rfl
  have lt56 := live_lt hb20 rfl
  have hw2 : wm ≤ h25.size := (Nat.le_trans hwm hG.size)
  have hl0 : h.size ≤ h25.size := hG.size
  refine ⟨_, f110_wf (b := b6) (o := o7) (m1 := m1) (a2 := a2) (c3 := c3) (a4 := a4) (c5 := c5) (J := fun (v42 : (List Int)) (h34 : H) => ∃ (a43 : Option Addr) (c44 : Nat), Grow h h34 ∧ h34.at (h.size) = .row [.int .i64 p1] true 0 ∧ h34.at (h8.size) = .row [.slice a43 v42.length c44] true 0 ∧ h34.at (b19) = .row [.pointer (some ⟨b6, o7, none⟩)] true 0 ∧ h34.at (h15.size) = .deferred ∧ h34.at (h15.size + 1) = h25.at (h15.size + 1) ∧ SzLe h25 h34 ∧ MapS wvArr2Int wvWeighCell wm h34 m1 p0.cells ∧ Sl rWeighNote wm h34 a2 c3 p0.notes ∧ Sl (rInt .i64) wm h34 a4 c5 p0.freed ∧ OwnS (rInt .i64) wm h.size h34 a43 c44 v42 ∧ At h34 b6 o7 [.int .i64 p0.machines, .int .i64 p0.names, .map m1, .slice a2 p0.notes.length c3, .slice a4 p0.freed.length c5] ∧ Stb wm h34 b6) (y := (f90_y0 p1)) (s0 := []) hw2 ?_ ?_ ?_ ⟨none, 0, hG, hb10, hb13, hb20, hd27, rfl, ⟨Nat.le_refl _⟩, hsm1, hsa2, hsa4, OwnS.nil, hAb6, hSb6⟩ hq31, fun y59 h57 hR58 => ?_⟩
  · rintro v42 h34 ⟨a43, c44, hG, hb41, hb45, hb46, hd47, hl32, hz33, hs48, hs49, hs50, ho51, hA52, hS53⟩
    exact ⟨hb46, hA52, (hs48).at_, ⟨_, _, _, _, _, _, _, _, hl32.trans hl28, rfl⟩, hz33⟩
  · rintro v42 h34 h61 t64 ⟨a43, c44, hG, hb41, hb45, hb46, hd47, hl32, hz33, hs48, hs49, hs50, ho51, hA52, hS53⟩ u62 ht63
    have u65 := Up.lower hl0 u62
    have hz33 := SzLe.step hz33 u65
    have hlk := u65.keep _ (live_lt (hl32.trans hl28) rfl) (fun z => by obtain ⟨cs, e⟩ := ht63 _ z; exact row_ne_loop e (hl32.trans hl28) rfl)
    have hl32 := hlk.trans hl32
    have hb41 := u65.row (fun z => absurd (u62.own _ z).1 (Nat.not_le_of_lt lt54)) hb41
    have hb45 := u65.row (fun z => absurd (u62.own _ z).1 (Nat.not_le_of_lt lt55)) hb45
    have hb46 := u65.row (fun z => absurd (u62.own _ z).1 (Nat.not_le_of_lt lt56)) hb46
    have hs48 := MapS.fz hs48 (u65.fz hwm)
    have hs49 := hs49.mono (u65.fz hwm)
    have hs50 := hs50.mono (u65.fz hwm)
    have ho51 := OwnS.step u65 hwm (fun i hb z => by obtain ⟨cs, e⟩ := ht63 i z; exact OwnS.notBox ho51 e hb) ho51
    have qhA52 := Stb.fz (u65.fz hwm) hA52 hS53
    have hA52 := At.fz (u65.fz hwm) hS53 hA52
    have hS53 := qhA52
    have hd47 := u65.at_ hd47 rfl (fun z => by obtain ⟨cs, e⟩ := ht63 _ z; exact row_ne_def e hd47 rfl)
    have hG := u65.grow hG (Nat.le_refl _)
    exact ⟨a43, c44, hG, hb41, hb45, hb46, hd47, hl32, hz33, hs48, hs49, hs50, ho51, hA52, hS53⟩
  · rintro v42 s68 x66 x67 h34 ⟨a43, c44, hG, hb41, hb45, hb46, hd47, hl32, hz33, hs48, hs49, hs50, ho51, hA52, hS53⟩ hL
    dsimp only [f90_y0] at hL
    refine RdOK.mk' h.size (hl32.trans hl28) (Nat.le_trans hwm wl30) rfl rfl ?_
    have hl32 := hl32.trans hl28
    refine WC.seq ?_
    refine WC.region ?_
    refine WO.as gN rfl (evT (fskip rfl fh) rfl) ?_
    refine WO.nil ?_
    refine SeqK.nrm ?_
    refine WC.region ?_
    refine WO.alcN h.size gN rfl zero61 (vs := [.int .i64 0, .bool false, .int .i64 0, .int .i64 0, .int .i64 0, .bool false]) rfl (fun h69 u70 hb71 => ?_)
    have whb71 : h.size ≤ h34.size := hG.size
    have ne72 := Nat.ne_of_lt (live_lt hb41 rfl)
    have ne73 := Nat.ne_of_lt (live_lt hb45 rfl)
    have ne74 := Nat.ne_of_lt (live_lt hb46 rfl)
    have hb41 := u70.row (fun z => z) hb41
    have hb45 := u70.row (fun z => z) hb45
    have hb46 := u70.row (fun z => z) hb46
    have hs48 := MapS.fz hs48 (u70.fz hwm)
    have hs49 := hs49.mono (u70.fz hwm)
    have hs50 := hs50.mono (u70.fz hwm)
    have ho51 := OwnS.step u70 hwm (fun _ _ z => z) ho51
    have qhA52 := Stb.fz (u70.fz hwm) hA52 hS53
    have hA52 := At.fz (u70.fz hwm) hS53 hA52
    have hS53 := qhA52
    have hd47 := u70.at_ hd47 rfl (fun z => z)
    have hl32 := u70.at_ hl32 rfl (fun z => z)
    have hz33 := SzLe.step hz33 u70
    have hG := u70.grow hG (Nat.le_refl _)
    refine WO.stN h.size gN size61 (evT fh rfl) (evT (fs2 rfl fh) rfl) hb71 whb71 hwm (vs := [.int .i64 x67.name, .bool x67.root, .int .i64 x67.from_, .int .i64 x67.has, .int .i64 x67.out, .bool x67.use]) rfl rfl rfl rfl (cs' := [.int .i64 x67.name, .bool x67.root, .int .i64 x67.from_, .int .i64 x67.has, .int .i64 x67.out, .bool x67.use]) rfl (fun h75 u76 hb77 => ?_)
    have hb41 := u76.row ne72 hb41
    have hb45 := u76.row ne73 hb45
    have hb46 := u76.row ne74 hb46
    have hs48 := MapS.fz hs48 (u76.fz hwm)
    have hs49 := hs49.mono (u76.fz hwm)
    have hs50 := hs50.mono (u76.fz hwm)
    have ho51 := OwnS.step u76 hwm (fun i hb z => by subst z; exact OwnS.notBox ho51 hb71 hb) ho51
    have qhA52 := Stb.fz (u76.fz hwm) hA52 hS53
    have hA52 := At.fz (u76.fz hwm) hS53 hA52
    have hS53 := qhA52
    have hd47 := u76.at_ hd47 rfl (fun e => row_ne_def hb71 hd47 e.symm)
    have hl32 := u76.at_ hl32 rfl (fun e => row_ne_loop hb71 hl32 e.symm)
    have hz33 := SzLe.step hz33 u76
    have hG := u76.grow hG (Nat.le_refl _)
    refine WO.nil ?_
    refine AsK.mk' hl32 (fun h78 u79 hl80 => ?_)
    have u79 := u79 wl30
    have hz33 := SzLe.step hz33 u79
    have hb41 := u79.row (row_ne_loop hb41 hl32) hb41
    have hb45 := u79.row (row_ne_loop hb45 hl32) hb45
    have hb46 := u79.row (row_ne_loop hb46 hl32) hb46
    have hb77 := u79.row (row_ne_loop hb77 hl32) hb77
    have hs48 := MapS.fz hs48 (u79.fz hwm)
    have hs49 := hs49.mono (u79.fz hwm)
    have hs50 := hs50.mono (u79.fz hwm)
    have ho51 := OwnS.step u79 hwm (own_ne_loop ho51 hl32) ho51
    have qhA52 := Stb.fz (u79.fz hwm) hA52 hS53
    have hA52 := At.fz (u79.fz hwm) hS53 hA52
    have hS53 := qhA52
    have hd47 := u79.at_ hd47 rfl (def_ne_loop hd47 hl32)
    have hG := u79.grow hG (Nat.le_refl _)
    have hl32 := hl80
    refine WC.block ?_
    refine WC.seq ?_
    refine WC.region ?_
    refine WO.fld gN rfl fld61_0 (evT fh rfl) ?_
    refine WO.ld gN rfl agg3 (evT fh rfl) (At.box hb77) (j := 0) rfl (v := .int .i64 x67.name) rfl ?_
    refine WO.ld gN rfl agg3 (evT (fs8 rfl (fs2 rfl fh)) rfl) (At.box hb41) (j := 0) rfl (v := .int .i64 p1) rfl ?_
    refine WO.bin gN rfl (evT (fskip rfl fh) rfl) (evT fh rfl) abin_eql ?_
    refine WO.mv gN rfl (evT fh rfl) ?_
    refine WO.gfld (GuardIs.yes rfl rfl rfl fh) rfl fld61_1 (fun hg => (evT (fs4 rfl (fskip rfl fh)) rfl)) ?_
    refine WO.gld (GuardIs.yes rfl rfl rfl (fskip rfl fh)) rfl agg4 (fun hg => (evG fh rfl hg)) (fun hg => (At.box hb77)) (j := 1) rfl (v := .bool x67.root) rfl ?_
    refine WO.pand gN rfl (evT (fs2 rfl fh) rfl) (evGU fh) (evC rfl) ?_
    refine WO.nil ?_
    refine SeqK.nrm ?_
    refine WC.condN (evT fh rfl) (fun hc => ?_) (fun hc => ?_)
    · replace hL := cond_tt hc hL
      refine WC.region ?_
      refine WO.ld gN rfl agg24 (evT (fs8 rfl (fs4 rfl (fs2 rfl fh))) rfl) (At.box hb45) (j := 0) rfl (v := .slice a43 v42.length c44) rfl ?_
      refine WO.mv gN rfl (evT (fs8 rfl (fs2 rfl fh)) rfl) ?_
      refine WO.bsN (e := (rInt .i64)) h.size gN rfl und24 size3 zero3 rfl rfl rfl (evp_cons (evT fh rfl) evp_nil) rfl [((), x66)] rfl (xs := [x66]) rfl (by intro q hq; simp only [List.mem_cons, List.not_mem_nil, or_false] at hq; subst hq; exact trivial) hwm hG.size rfl (fun h81 u82 ho83 => ?_)
      have dj84 := OwnS.newdj ho51
      have hb41 := u82.row (fun z => z) hb41
      have hb45 := u82.row (fun z => z) hb45
      have hb46 := u82.row (fun z => z) hb46
      have hb77 := u82.row (fun z => z) hb77
      have hs48 := MapS.fz hs48 (u82.fz hwm)
      have hs49 := hs49.mono (u82.fz hwm)
      have hs50 := hs50.mono (u82.fz hwm)
      have ho51 := OwnS.step u82 hwm (fun _ _ z => z) ho51
      have qhA52 := Stb.fz (u82.fz hwm) hA52 hS53
      have hA52 := At.fz (u82.fz hwm) hS53 hA52
      have hS53 := qhA52
      have hd47 := u82.at_ hd47 rfl (fun z => z)
      have hl32 := u82.at_ hl32 rfl (fun z => z)
      have hz33 := SzLe.step hz33 u82
      have hG := u82.grow hG (Nat.le_refl _)
      obtain ⟨z85, hz85, hL⟩ := bind_some hL
      refine WO.apN (e := (rInt .i64)) h.size gN rfl app24_24 hwm hG.size (evT (fs2 rfl fh) rfl) (evT fh rfl) ho51 (OwnS.src ho83) hz85 (fun a86 c87 h88 u89 ho90 sb91 => ?_)
      have dj92 := OwnS.apdj sb91 (fun i p q => dj84 i q p) ho83
      have hb41 := u89.row (OwnS.notBox ho51 hb41) hb41
      have hb45 := u89.row (OwnS.notBox ho51 hb45) hb45
      have hb46 := u89.row (OwnS.notBox ho51 hb46) hb46
      have hb77 := u89.row (OwnS.notBox ho51 hb77) hb77
      have hs48 := MapS.fz hs48 (u89.fz hwm)
      have hs49 := hs49.mono (u89.fz hwm)
      have hs50 := hs50.mono (u89.fz hwm)
      have ho83 := OwnS.step u89 hwm dj84 ho83
      have qhA52 := Stb.fz (u89.fz hwm) hA52 hS53
      have hA52 := At.fz (u89.fz hwm) hS53 hA52
      have hS53 := qhA52
      have hd47 := u89.at_ hd47 rfl (fun z => own_ne_def ho51 hd47 _ z rfl)
      have hl32 := u89.at_ hl32 rfl (fun z => own_ne_loop ho51 hl32 _ z rfl)
      have hz33 := SzLe.step hz33 u89
      have hG := u89.grow hG (Nat.le_refl _)
      refine WO.stN h.size gN size24 (evT (fs8 rfl (fs8 rfl (fs2 rfl fh))) rfl) (evT fh rfl) hb45 whb13 hwm (vs := [.slice a86 z85.length c87]) rfl rfl rfl rfl (cs' := [.slice a86 z85.length c87]) rfl (fun h93 u94 hb95 => ?_)
      have hb41 := u94.row ne14 hb41
      have hb46 := u94.row (Ne.symm ne24) hb46
      have hb77 := u94.row (Ne.symm ne73) hb77
      have hs48 := MapS.fz hs48 (u94.fz hwm)
      have hs49 := hs49.mono (u94.fz hwm)
      have hs50 := hs50.mono (u94.fz hwm)
      have ho83 := OwnS.step u94 hwm (fun i hb z => by subst z; exact OwnS.notBox ho83 hb45 hb) ho83
      have ho90 := OwnS.step u94 hwm (fun i hb z => by subst z; exact OwnS.notBox ho90 hb45 hb) ho90
      have qhA52 := Stb.fz (u94.fz hwm) hA52 hS53
      have hA52 := At.fz (u94.fz hwm) hS53 hA52
      have hS53 := qhA52
      have hd47 := u94.at_ hd47 rfl (fun e => row_ne_def hb45 hd47 e.symm)
      have hl32 := u94.at_ hl32 rfl (fun e => row_ne_loop hb45 hl32 e.symm)
      have hz33 := SzLe.step hz33 u94
      have hG := u94.grow hG (Nat.le_refl _)
      refine WO.nil ?_
      refine BlkK.nrm ?_
      refine BdK.mk' hl32 (fun h96 u97 hl98 => ?_)
      have u97 := u97 wl30
      have hz33 := SzLe.step hz33 u97
      have hb41 := u97.row (row_ne_loop hb41 hl32) hb41
      have hb95 := u97.row (row_ne_loop hb95 hl32) hb95
      have hb46 := u97.row (row_ne_loop hb46 hl32) hb46
      have hb77 := u97.row (row_ne_loop hb77 hl32) hb77
      have hs48 := MapS.fz hs48 (u97.fz hwm)
      have hs49 := hs49.mono (u97.fz hwm)
      have hs50 := hs50.mono (u97.fz hwm)
      have ho83 := OwnS.step u97 hwm (own_ne_loop ho83 hl32) ho83
      have ho90 := OwnS.step u97 hwm (own_ne_loop ho90 hl32) ho90
      have qhA52 := Stb.fz (u97.fz hwm) hA52 hS53
      have hA52 := At.fz (u97.fz hwm) hS53 hA52
      have hS53 := qhA52
      have hd47 := u97.at_ hd47 rfl (def_ne_loop hd47 hl32)
      have hG := u97.grow hG (Nat.le_refl _)
      have hl32 := hl98.trans hl28.symm
      have hr := Option.some.inj hL
      subst hr
      exact ⟨a86, c87, hG, hb41, hb95, hb46, hd47, hl32, hz33, hs48, hs49, hs50, ho90, hA52, hS53⟩
    · replace hL := cond_ff hc hL
      refine WC.skip ?_
      refine BlkK.nrm ?_
      refine BdK.mk' hl32 (fun h99 u100 hl101 => ?_)
      have u100 := u100 wl30
      have hz33 := SzLe.step hz33 u100
      have hb41 := u100.row (row_ne_loop hb41 hl32) hb41
      have hb45 := u100.row (row_ne_loop hb45 hl32) hb45
      have hb46 := u100.row (row_ne_loop hb46 hl32) hb46
      have hb77 := u100.row (row_ne_loop hb77 hl32) hb77
      have hs48 := MapS.fz hs48 (u100.fz hwm)
      have hs49 := hs49.mono (u100.fz hwm)
      have hs50 := hs50.mono (u100.fz hwm)
      have ho51 := OwnS.step u100 hwm (own_ne_loop ho51 hl32) ho51
      have qhA52 := Stb.fz (u100.fz hwm) hA52 hS53
      have hA52 := At.fz (u100.fz hwm) hS53 hA52
      have hS53 := qhA52
      have hd47 := u100.at_ hd47 rfl (def_ne_loop hd47 hl32)
      have hG := u100.grow hG (Nat.le_refl _)
      have hl32 := hl101.trans hl28.symm
      have hr := Option.some.inj hL
      subst hr
      exact ⟨a43, c44, hG, hb41, hb45, hb46, hd47, hl32, hz33, hs48, hs49, hs50, ho51, hA52, hS53⟩
  · obtain ⟨v42, hq⟩ : ∃ z, z = q31 := ⟨_, rfl⟩
    subst hq
    obtain ⟨rfl, hJ⟩ := hR58
    obtain ⟨a43, c44, hG, hb41, hb45, hb46, hd47, hl32, hz33, hs48, hs49, hs50, ho51, hA52, hS53⟩ := hJ
    refine ⟨hl32.trans hl28, fun h102 u103 => ?_⟩
    have u103 := u103 wl30
    have hz33 := SzLe.step hz33 u103
    have hb41 := u103.row (row_ne_loop hb41 (hl32.trans hl28)) hb41
    have hb45 := u103.row (row_ne_loop hb45 (hl32.trans hl28)) hb45
    have hb46 := u103.row (row_ne_loop hb46 (hl32.trans hl28)) hb46
    have hs48 := MapS.fz hs48 (u103.fz hwm)
    have hs49 := hs49.mono (u103.fz hwm)
    have hs50 := hs50.mono (u103.fz hwm)
    have ho51 := OwnS.step u103 hwm (own_ne_loop ho51 (hl32.trans hl28)) ho51
    have qhA52 := Stb.fz (u103.fz hwm) hA52 hS53
    have hA52 := At.fz (u103.fz hwm) hS53 hA52
    have hS53 := qhA52
    have hd47 := u103.at_ hd47 rfl (def_ne_loop hd47 (hl32.trans hl28))
    have hG := u103.grow hG (Nat.le_refl _)
    refine BlkK.nrm ?_
    refine SeqK.nrm ?_
    refine WC.seq ?_
    refine WC.seq ?_
    refine WC.region ?_
    refine WO.mv gN rfl (evT (fs4 rfl (fs2 rfl fh)) rfl) ?_
    refine WO.nck gN rfl (evT fh rfl) ?_
    refine WO.fld gN rfl fld97_3 (evT fh rfl) ?_
    refine WO.ld gN rfl agg23 (evT fh rfl) hA52 (j := 3) rfl (v := .slice a2 p0.notes.length c3) rfl ?_
    refine WO.len gN rfl und23 (evT fh rfl) ?_
    refine WO.mv gN rfl (evC rfl) ?_
    refine WO.nil ?_
    refine SeqK.nrm ?_
    refine WC.block ?_
    refine WC.loop (WL.lift hL (fun (p : Int × (List Int)) (s : Fs) => match p with | (v110, v113) => ∃ (fr105 : Fr) (h104 : H) (a114 : Option Addr) (c115 : Nat), s = ⟨fr105, [⟨.collected h15.size, #[]⟩], h104, none⟩ ∧ Grow h h104 ∧ fr105.at 3 = .pointer (some ⟨h.size, 0, none⟩) ∧ fr105.at 5 = .pointer (some ⟨h8.size, 0, none⟩) ∧ fr105.at 29 = .slice a2 p0.notes.length c3 ∧ fr105.at 30 = .int .i64 (p0.notes.length : Int) ∧ fr105.at 31 = .int .i64 v110 ∧ h104.at (h.size) = .row [.int .i64 p1] true 0 ∧ h104.at (h8.size) = .row [.slice a114 v113.length c115] true 0 ∧ h104.at (h15.size) = .deferred ∧ Sl rWeighNote wm h104 a2 c3 p0.notes ∧ OwnS (rInt .i64) wm h.size h104 a114 c115 v113 ∧ At h104 b6 o7 [.int .i64 p0.machines, .int .i64 p0.names, .map m1, .slice a2 p0.notes.length c3, .slice a4 p0.freed.length c5] ∧ Stb wm h104 b6) ⟨_, _, a43, c44, rfl, hG, (fs8 rfl (fs2 rfl fh)), (fs8 rfl fh), (fs2 rfl fh), (fskip rfl fh), fh, hb41, hb45, hd47, hs49, ho51, hA52, hS53⟩ ?_)
    clear hL
    rintro next122 ⟨v110, v113⟩ s hnext122 hL ⟨fr105, h104, a114, c115, rfl, hG, e106, e107, e108, e109, e111, hb112, hb116, hd117, hs118, ho119, hA120, hS121⟩
    dsimp only [f90_b0] at hL
    refine WC.seq ?_
    refine WC.region ?_
    refine WO.bin gN rfl (evT e111 rfl) (evT e109 rfl) abin_lss ?_
    refine WO.nil ?_
    refine SeqK.nrm ?_
    refine WC.seq ?_
    refine WC.condN (evT fh rfl) (fun hc => ?_) (fun hc => ?_)
    · replace hL := cond_tt hc hL
      refine WC.skip ?_
      refine SeqK.nrm ?_
      refine WC.seqJ (r := r) (fun (v131 : (List Int)) (s : Fs) => ∃ (fr124 : Fr) (h123 : H) (a132 : Option Addr) (c133 : Nat), s = ⟨fr124, [⟨.collected h15.size, #[]⟩], h123, none⟩ ∧ Grow h h123 ∧ fr124.at 3 = .pointer (some ⟨h.size, 0, none⟩) ∧ fr124.at 5 = .pointer (some ⟨h8.size, 0, none⟩) ∧ fr124.at 29 = .slice a2 p0.notes.length c3 ∧ fr124.at 30 = .int .i64 (p0.notes.length : Int) ∧ fr124.at 31 = .int .i64 v110 ∧ h123.at (h.size) = .row [.int .i64 p1] true 0 ∧ h123.at (h8.size) = .row [.slice a132 v131.length c133] true 0 ∧ h123.at (h15.size) = .deferred ∧ Sl rWeighNote wm h123 a2 c3 p0.notes ∧ OwnS (rInt .i64) wm h.size h123 a132 c133 v131 ∧ At h123 b6 o7 [.int .i64 p0.machines, .int .i64 p0.names, .map m1, .slice a2 p0.notes.length c3, .slice a4 p0.freed.length c5] ∧ Stb wm h123 b6) (f90_j0 v110 next122) ?_ ?_
      · clear hL
        rintro v131 s hL ⟨fr124, h123, a132, c133, rfl, hG, e125, e126, e127, e128, e129, hb130, hb134, hd135, hs136, ho137, hA138, hS139⟩
        dsimp only [f90_j0] at hL
        refine WC.region ?_
        refine WO.bin gN rfl (evT e129 rfl) (evC rfl) abin_addw ?_
        refine WO.mv gN rfl (evT fh rfl) ?_
        refine WO.nil ?_
        exact LoopK.nrm (hnext122 _ _ hL ⟨_, _, a132, c133, rfl, hG, (fs2 rfl e125), (fs2 rfl e126), (fs2 rfl e127), (fs2 rfl e128), fh, hb130, hb134, hd135, hs136, ho137, hA138, hS139⟩)
      · skip
        refine WC.block ?_
        refine WC.seq ?_
        refine WC.region ?_
        obtain ⟨x140, hx140, hL⟩ := bind_some hL
        obtain ⟨b141, o142, _, hab141, hAb141, hSb141, hFb141⟩ := Sl.at_ hs118 hx140
        refine WO.ix gN rfl und23 size58 (evT (fskip rfl e108) rfl) (evT (fskip rfl e111) rfl) hab141 hx140 ?_
        refine WO.ldA gN rfl agg58 size58 (evT fh rfl) hAb141 (j := 0) rfl rfl (ws := [.int .i64 x140.kind, .int .i64 x140.to_, .int .i64 x140.name, .int .i64 x140.via, .int .i64 x140.w]) rfl ?_
        refine WO.alcN h.size gN rfl zero58 (vs := [.int .i64 0, .int .i64 0, .int .i64 0, .int .i64 0, .int .i64 0]) rfl (fun h143 u144 hb145 => ?_)
        have whb145 : h.size ≤ h104.size := hG.size
        have ne146 := Nat.ne_of_lt (live_lt hb112 rfl)
        have ne147 := Nat.ne_of_lt (live_lt hb116 rfl)
        have hb112 := u144.row (fun z => z) hb112
        have hb116 := u144.row (fun z => z) hb116
        have hs118 := hs118.mono (u144.fz hwm)
        have ho119 := OwnS.step u144 hwm (fun _ _ z => z) ho119
        have qhA120 := Stb.fz (u144.fz hwm) hA120 hS121
        have hA120 := At.fz (u144.fz hwm) hS121 hA120
        have hS121 := qhA120
        have qhAb141 := Stb.fz (u144.fz hwm) hAb141 hSb141
        have hAb141 := At.fz (u144.fz hwm) hSb141 hAb141
        have hSb141 := qhAb141
        have hd117 := u144.at_ hd117 rfl (fun z => z)
        have hG := u144.grow hG (Nat.le_refl _)
        refine WO.stN h.size gN size58 (evT fh rfl) (evT (fskip rfl fh) rfl) hb145 whb145 hwm (vs := [.int .i64 x140.kind, .int .i64 x140.to_, .int .i64 x140.name, .int .i64 x140.via, .int .i64 x140.w]) rfl rfl rfl rfl (cs' := [.int .i64 x140.kind, .int .i64 x140.to_, .int .i64 x140.name, .int .i64 x140.via, .int .i64 x140.w]) rfl (fun h148 u149 hb150 => ?_)
        have hb112 := u149.row ne146 hb112
        have hb116 := u149.row ne147 hb116
        have hs118 := hs118.mono (u149.fz hwm)
        have ho119 := OwnS.step u149 hwm (fun i hb z => by subst z; exact OwnS.notBox ho119 hb145 hb) ho119
        have qhA120 := Stb.fz (u149.fz hwm) hA120 hS121
        have hA120 := At.fz (u149.fz hwm) hS121 hA120
        have hS121 := qhA120
        have qhAb141 := Stb.fz (u149.fz hwm) hAb141 hSb141
        have hAb141 := At.fz (u149.fz hwm) hSb141 hAb141
        have hSb141 := qhAb141
        have hd117 := u149.at_ hd117 rfl (fun e => row_ne_def hb145 hd117 e.symm)
        have hG := u149.grow hG (Nat.le_refl _)
        refine WO.nil ?_
        refine SeqK.nrm ?_
        refine WC.seq ?_
        refine WC.region ?_
        refine WO.fld gN rfl fld58_0 (evT fh rfl) ?_
        refine WO.ld gN rfl agg56 (evT fh rfl) (At.box hb150) (j := 0) rfl (v := .int .i64 x140.kind) rfl ?_
        refine WO.bin gN rfl (evT fh rfl) (evC rfl) abin_eql ?_
        refine WO.mv gN rfl (evT fh rfl) ?_
        refine WO.gfld (GuardIs.yes rfl rfl rfl fh) rfl fld58_2 (fun hg => (evT (fs4 rfl fh) rfl)) ?_
        refine WO.gld (GuardIs.yes rfl rfl rfl (fskip rfl fh)) rfl agg3 (fun hg => (evG fh rfl hg)) (fun hg => (At.box hb150)) (j := 2) rfl (v := .int .i64 x140.name) rfl ?_
        refine WO.gld (GuardIs.yes rfl rfl rfl (fs2 rfl fh)) rfl agg3 (fun hg => (evT (fs8 rfl (fs2 rfl e106)) rfl)) (fun hg => (At.box hb112)) (j := 0) rfl (v := .int .i64 p1) rfl ?_
        refine WO.gbin (GuardIs.yes rfl rfl rfl (fs2 rfl (fskip rfl fh))) rfl (fun hg => (evG (fskip rfl fh) rfl hg)) (fun hg => (evG fh rfl hg)) (fun hg => abin_eql) ?_
        refine WO.pand gN rfl (evT (fs4 rfl fh) rfl) (evGU fh) (evC rfl) ?_
        refine WO.nil ?_
        refine SeqK.nrm ?_
        refine WC.condN (evT fh rfl) (fun hc => ?_) (fun hc => ?_)
        · replace hL := cond_tt hc hL
          refine WC.region ?_
          refine WO.ld gN rfl agg24 (evT (fs8 rfl (fs4 rfl (fskip rfl e107))) rfl) (At.box hb116) (j := 0) rfl (v := .slice a114 v113.length c115) rfl ?_
          refine WO.fld gN rfl fld58_1 (evT (fs8 rfl (fs2 rfl fh)) rfl) ?_
          refine WO.ld gN rfl agg3 (evT fh rfl) (At.box hb150) (j := 1) rfl (v := .int .i64 x140.to_) rfl ?_
          refine WO.bsN (e := (rInt .i64)) h.size gN rfl und24 size3 zero3 rfl rfl rfl (evp_cons (evT fh rfl) evp_nil) rfl [((), x140.to_)] rfl (xs := [x140.to_]) rfl (by intro q hq; simp only [List.mem_cons, List.not_mem_nil, or_false] at hq; subst hq; exact trivial) hwm hG.size rfl (fun h151 u152 ho153 => ?_)
          have dj154 := OwnS.newdj ho119
          have hb112 := u152.row (fun z => z) hb112
          have hb116 := u152.row (fun z => z) hb116
          have hb150 := u152.row (fun z => z) hb150
          have hs118 := hs118.mono (u152.fz hwm)
          have ho119 := OwnS.step u152 hwm (fun _ _ z => z) ho119
          have qhA120 := Stb.fz (u152.fz hwm) hA120 hS121
          have hA120 := At.fz (u152.fz hwm) hS121 hA120
          have hS121 := qhA120
          have qhAb141 := Stb.fz (u152.fz hwm) hAb141 hSb141
          have hAb141 := At.fz (u152.fz hwm) hSb141 hAb141
          have hSb141 := qhAb141
          have hd117 := u152.at_ hd117 rfl (fun z => z)
          have hG := u152.grow hG (Nat.le_refl _)
          obtain ⟨z155, hz155, hL⟩ := bind_some hL
          refine WO.apN (e := (rInt .i64)) h.size gN rfl app24_24 hwm hG.size (evT (fs2 rfl (fskip rfl fh)) rfl) (evT fh rfl) ho119 (OwnS.src ho153) hz155 (fun a156 c157 h158 u159 ho160 sb161 => ?_)
          have dj162 := OwnS.apdj sb161 (fun i p q => dj154 i q p) ho153
          have hb112 := u159.row (OwnS.notBox ho119 hb112) hb112
          have hb116 := u159.row (OwnS.notBox ho119 hb116) hb116
          have hb150 := u159.row (OwnS.notBox ho119 hb150) hb150
          have hs118 := hs118.mono (u159.fz hwm)
          have ho153 := OwnS.step u159 hwm dj154 ho153
          have qhA120 := Stb.fz (u159.fz hwm) hA120 hS121
          have hA120 := At.fz (u159.fz hwm) hS121 hA120
          have hS121 := qhA120
          have qhAb141 := Stb.fz (u159.fz hwm) hAb141 hSb141
          have hAb141 := At.fz (u159.fz hwm) hSb141 hAb141
          have hSb141 := qhAb141
          have hd117 := u159.at_ hd117 rfl (fun z => own_ne_def ho119 hd117 _ z rfl)
          have hG := u159.grow hG (Nat.le_refl _)
          refine WO.stN h.size gN size24 (evT (fs8 rfl (fs8 rfl (fs2 rfl e107))) rfl) (evT fh rfl) hb116 whb13 hwm (vs := [.slice a156 z155.length c157]) rfl rfl rfl rfl (cs' := [.slice a156 z155.length c157]) rfl (fun h163 u164 hb165 => ?_)
          have hb112 := u164.row ne14 hb112
          have hb150 := u164.row (Ne.symm ne147) hb150
          have hs118 := hs118.mono (u164.fz hwm)
          have ho153 := OwnS.step u164 hwm (fun i hb z => by subst z; exact OwnS.notBox ho153 hb116 hb) ho153
          have ho160 := OwnS.step u164 hwm (fun i hb z => by subst z; exact OwnS.notBox ho160 hb116 hb) ho160
          have qhA120 := Stb.fz (u164.fz hwm) hA120 hS121
          have hA120 := At.fz (u164.fz hwm) hS121 hA120
          have hS121 := qhA120
          have qhAb141 := Stb.fz (u164.fz hwm) hAb141 hSb141
          have hAb141 := At.fz (u164.fz hwm) hSb141 hAb141
          have hSb141 := qhAb141
          have hd117 := u164.at_ hd117 rfl (fun e => row_ne_def hb116 hd117 e.symm)
          have hG := u164.grow hG (Nat.le_refl _)
          refine WO.nil ?_
          refine BlkK.nrm ?_
          exact SeqJ.nrm _ hL ⟨_, _, a156, c157, rfl, hG, (fs8 rfl (fs8 rfl (fs2 rfl e106))), (fs8 rfl (fs8 rfl (fs2 rfl e107))), (fs8 rfl (fs8 rfl (fs2 rfl e108))), (fs8 rfl (fs8 rfl (fs2 rfl e109))), (fs8 rfl (fs8 rfl (fs2 rfl e111))), hb112, hb165, hd117, hs118, ho160, hA120, hS121⟩
        · replace hL := cond_ff hc hL
          refine WC.skip ?_
          refine BlkK.nrm ?_
          exact SeqJ.nrm _ hL ⟨_, _, a114, c115, rfl, hG, (fs8 rfl (fs4 rfl (fskip rfl e106))), (fs8 rfl (fs4 rfl (fskip rfl e107))), (fs8 rfl (fs4 rfl (fskip rfl e108))), (fs8 rfl (fs4 rfl (fskip rfl e109))), (fs8 rfl (fs4 rfl (fskip rfl e111))), hb112, hb116, hd117, hs118, ho119, hA120, hS121⟩
    · replace hL := cond_ff hc hL
      refine WC.exit ?_
      refine SeqK.exit ?_
      refine LoopK.exit ?_
      refine BlkK.here ?_
      refine SeqK.nrm ?_
      refine WC.seq ?_
      refine WC.region ?_
      refine WO.ld gN rfl agg24 (evT (fskip rfl e107) rfl) (At.box hb116) (j := 0) rfl (v := .slice a114 v113.length c115) rfl ?_
      refine WO.as gN rfl (evT fh rfl) ?_
      refine WO.nil ?_
      refine SeqK.nrm ?_
      refine WC.ret ?_
      refine RetL.col h.size wd29 hd117 (Nat.le_trans hwm wd29) (fun h166 u167 => ?_)
      have hb112 := u167.row (row_ne_def hb112 hd117) hb112
      have hb116 := u167.row (row_ne_def hb116 hd117) hb116
      have hs118 := hs118.mono (u167.fz hwm)
      have ho119 := OwnS.step u167 hwm (own_ne_def ho119 hd117) ho119
      have qhA120 := Stb.fz (u167.fz hwm) hA120 hS121
      have hA120 := At.fz (u167.fz hwm) hS121 hA120
      have hS121 := qhA120
      have hG := u167.grow hG (Nat.le_refl _)
      have hr := Option.some.inj hL
      subst hr
      exact RetL.gen rfl (ares_tmp (evT fh rfl) ares_nil) rfl ⟨a114, c115, rfl, hG, ho119⟩
theorem f68_wf {F : Nat} {wm : Nat} {h : H} {p0 : Store} {b6 o7 : Nat} {m1 : Option Nat} {a2 : Option Addr} {c3 : Nat} {a4 : Option Addr} {c5 : Nat} {r : ((List (Arr2Int × Int)) × (List (Arr2Int × Int)))} (hwm : wm ≤ h.size) (hAb6 : At h b6 o7 [.int .i64 p0.machines, .int .i64 p0.names, .map m1, .slice a2 p0.notes.length c3, .slice a4 p0.freed.length c5]) (hSb6 : Stb wm h b6) (hsm1 : MapS wvArr2Int wvWeighCell wm h m1 p0.cells) (hsa2 : Sl rWeighNote wm h a2 c3 p0.notes) (hsa4 : Sl (rInt .i64) wm h a4 c5 p0.freed) (hL : f68L F p0 = some r) :
    WR XX 68 #[.pointer (some ⟨b6, o7, none⟩)] wm h (fun v h' => ∃ (rm0_0 : Option Nat) (rm1_0 : Option Nat), v = .tuple [.map rm0_0, .map rm1_0].toArray ∧ Grow h h' ∧ MapO wvArr2Int (Value.int .i64) h.size h' rm0_0 r.1 ∧ MapO wvArr2Int (Value.int .i64) h.size h' rm1_0 r.2 ∧ (∀ i : Nat, rm1_0 = some i → rm0_0 = some i → False)) := by
  refine WF.beginL (args := [_]) (fn := Try.f68) (by kernel_rfl) (by exact rfl) Try.ntmps68 (by simp) ?_
  simp only [frameOf_cons, frameOf_nil, Nat.reduceAdd]
  have hG : Grow h h := Grow.refl h
  unfold f68L at hL
  refine WC.seq ?_
  refine WC.region ?_
  refine WO.alcN h.size gN rfl zero110 (vs := [.map none]) rfl (fun h8 u9 hb10 => ?_)
  have whb10 : h.size ≤ h.size := hG.size
  have hsm1 := MapS.fz hsm1 (u9.fz hwm)
  have hsa2 := hsa2.mono (u9.fz hwm)
  have hsa4 := hsa4.mono (u9.fz hwm)
  have qhAb6 := Stb.fz (u9.fz hwm) hAb6 hSb6
  have hAb6 := At.fz (u9.fz hwm) hSb6 hAb6
  have hSb6 := qhAb6
  have hG := u9.grow hG (Nat.le_refl _)
  refine WO.alcN h.size gN rfl zero110 (vs := [.map none]) rfl (fun h11 u12 hb13 => ?_)
  have whb13 : h.size ≤ h8.size := hG.size
  have ne14 := Nat.ne_of_lt (live_lt hb10 rfl)
  have hb10 := u12.row (fun z => z) hb10
  have hsm1 := MapS.fz hsm1 (u12.fz hwm)
  have hsa2 := hsa2.mono (u12.fz hwm)
  have hsa4 := hsa4.mono (u12.fz hwm)
  have qhAb6 := Stb.fz (u12.fz hwm) hAb6 hSb6
  have hAb6 := At.fz (u12.fz hwm) hSb6 hAb6
  have hSb6 := qhAb6
  have hG := u12.grow hG (Nat.le_refl _)
  refine WO.nil ?_
  refine SeqK.nrm ?_
  refine WC.seq ?_
  refine WC.region ?_
  refine WO.sv gN rfl mkm_sv ?_
  have u16 := Up.push h.size h11 (.map [] 0)
  have ho17 : MapO wvArr2Int (Value.int .i64) h.size (h11.push (.map [] 0)) (some h11.size) [] := MapO.new h.size hG.size
  generalize h11.push (.map [] 0) = h15 at u16 ho17 ⊢
  have hb10 := u16.row (fun z => z) hb10
  have hb13 := u16.row (fun z => z) hb13
  have hsm1 := MapS.fz hsm1 (u16.fz hwm)
  have hsa2 := hsa2.mono (u16.fz hwm)
  have hsa4 := hsa4.mono (u16.fz hwm)
  have qhAb6 := Stb.fz (u16.fz hwm) hAb6 hSb6
  have hAb6 := At.fz (u16.fz hwm) hSb6 hAb6
  have hSb6 := qhAb6
  have hG := u16.grow hG (Nat.le_refl _)
  refine WO.sv gN rfl mkm_sv ?_
  have u19 := Up.push h.size h15 (.map [] 0)
  have ho20 : MapO wvArr2Int (Value.int .i64) h.size (h15.push (.map [] 0)) (some h15.size) [] := MapO.new h.size hG.size
  generalize h15.push (.map [] 0) = h18 at u19 ho20 ⊢
  have dj21 : ∀ i : Nat, (some h15.size) = some i → (some h11.size) = some i → False := fun i e1 e2 => by cases e1; exact absurd (MapAt.lt ho17.at_ e2) (Nat.lt_irrefl _)
  have hb10 := u19.row (fun z => z) hb10
  have hb13 := u19.row (fun z => z) hb13
  have hsm1 := MapS.fz hsm1 (u19.fz hwm)
  have hsa2 := hsa2.mono (u19.fz hwm)
  have hsa4 := hsa4.mono (u19.fz hwm)
  have ho17 := MapO.step u19 (fun _ _ z => z) ho17
  have qhAb6 := Stb.fz (u19.fz hwm) hAb6 hSb6
  have hAb6 := At.fz (u19.fz hwm) hSb6 hAb6
  have hSb6 := qhAb6
  have hG := u19.grow hG (Nat.le_refl _)
  refine WO.stN h.size gN size110 (evT (fs2 rfl (fskip rfl fh)) rfl) (evT (fskip rfl fh) rfl) hb10 whb10 hwm (vs := [.map (some h11.size)]) rfl rfl rfl rfl (cs' := [.map (some h11.size)]) rfl (fun h22 u23 hb24 => ?_)
  have hb13 := u23.row (Ne.symm ne14) hb13
  have hsm1 := MapS.fz hsm1 (u23.fz hwm)
  have hsa2 := hsa2.mono (u23.fz hwm)
  have hsa4 := hsa4.mono (u23.fz hwm)
  have ho17 := MapO.step u23 (fun i e z => MapO.notBox ho17.at_ hb10 (z ▸ e)) ho17
  have ho20 := MapO.step u23 (fun i e z => MapO.notBox ho20.at_ hb10 (z ▸ e)) ho20
  have qhAb6 := Stb.fz (u23.fz hwm) hAb6 hSb6
  have hAb6 := At.fz (u23.fz hwm) hSb6 hAb6
  have hSb6 := qhAb6
  have hG := u23.grow hG (Nat.le_refl _)
  refine WO.stN h.size gN size110 (evT (fs2 rfl fh) rfl) (evT fh rfl) hb13 whb13 hwm (vs := [.map (some h15.size)]) rfl rfl rfl rfl (cs' := [.map (some h15.size)]) rfl (fun h25 u26 hb27 => ?_)
  have hb24 := u26.row ne14 hb24
  have hsm1 := MapS.fz hsm1 (u26.fz hwm)
  have hsa2 := hsa2.mono (u26.fz hwm)
  have hsa4 := hsa4.mono (u26.fz hwm)
  have ho17 := MapO.step u26 (fun i e z => MapO.notBox ho17.at_ hb13 (z ▸ e)) ho17
  have ho20 := MapO.step u26 (fun i e z => MapO.notBox ho20.at_ hb13 (z ▸ e)) ho20
  have qhAb6 := Stb.fz (u26.fz hwm) hAb6 hSb6
  have hAb6 := At.fz (u26.fz hwm) hSb6 hAb6
  have hSb6 := qhAb6
  have hG := u26.grow hG (Nat.le_refl _)
  refine WO.nil ?_
  refine SeqK.nrm ?_
  refine WC.seq ?_
  refine WC.seq ?_
  refine WC.region ?_
  refine WO.mv gN rfl (evT (fs4 rfl fh) rfl) ?_
  refine WO.cw gN rfl has71 (evs_cons (evT fh rfl) evs_nil) (f71_wf (Nat.le_trans hwm hG.size)) (fun y35 h28 hr30 => ?_)
  obtain ⟨b32, rfl, gr29, hb33, hw34⟩ := hr30
  have u31 := Up.of_grow h.size gr29
  have ne36 : h.size ≠ b32 := Nat.ne_of_lt (Nat.lt_of_lt_of_le (live_lt hb24 rfl) hw34)
  have ne37 : h8.size ≠ b32 := Nat.ne_of_lt (Nat.lt_of_lt_of_le (live_lt hb27 rfl) hw34)
  have hw34 := Nat.le_trans hG.size hw34
  have hb24 := u31.row (fun z => z) hb24
  have hb27 := u31.row (fun z => z) hb27
  have hsm1 := MapS.fz hsm1 (u31.fz hwm)
  have hsa2 := hsa2.mono (u31.fz hwm)
  have hsa4 := hsa4.mono (u31.fz hwm)
  have ho17 := MapO.step u31 (fun _ _ z => z) ho17
  have ho20 := MapO.step u31 (fun _ _ z => z) ho20
  have qhAb6 := Stb.fz (u31.fz hwm) hAb6 hSb6
  have hAb6 := At.fz (u31.fz hwm) hSb6 hAb6
  have hSb6 := qhAb6
  have hG := u31.grow hG (Nat.le_refl _)
  refine WO.nil ?_
  refine SeqK.nrm ?_
  refine WC.block ?_
  obtain ⟨q44, hq44, hL⟩ := bind_some hL
  have wd42 : h.size ≤ h28.size := hG.size
  have wl43 : h.size ≤ (h28.size + 1) := Nat.le_succ_of_le hG.size
  refine WC.rangeF h.size (evT fh rfl) has110 (fun h38 u39 hd40 hl41 => ?_)
  have hb24 := u39.row (fun z => z) hb24
  have hb27 := u39.row (fun z => z) hb27
  have hb33 := u39.row (fun z => z) hb33
  have hsm1 := MapS.fz hsm1 (u39.fz hwm)
  have hsa2 := hsa2.mono (u39.fz hwm)
  have hsa4 := hsa4.mono (u39.fz hwm)
  have ho17 := MapO.step u39 (fun _ _ z => z) ho17
  have ho20 := MapO.step u39 (fun _ _ z => z) ho20
  have qhAb6 := Stb.fz (u39.fz hwm) hAb6 hSb6
  have hAb6 := At.fz (u39.fz hwm) hSb6 hAb6
  have hSb6 := qhAb6
  have hG := u39.grow hG (Nat.le_refl _)
  have lt67 := live_lt hb24 rfl
  have lt68 := live_lt hb27 rfl
  have lt69 := live_lt hb33 rfl
  have hw2 : wm ≤ h38.size := (Nat.le_trans hwm hG.size)
  have hl0 : h.size ≤ h38.size := hG.size
  refine ⟨_, f110_wf (b := b6) (o := o7) (m1 := m1) (a2 := a2) (c3 := c3) (a4 := a4) (c5 := c5) (J := fun (p : (List (Arr2Int × Int)) × (List (Arr2Int × Int))) (h47 : H) => match p with | (v53, v55) => Grow h h47 ∧ h47.at (h.size) = .row [.map (some h11.size)] true 0 ∧ h47.at (h8.size) = .row [.map (some h15.size)] true 0 ∧ h47.at (b32) = .row [.pointer (some ⟨b6, o7, none⟩)] true 0 ∧ h47.at (h28.size) = .deferred ∧ h47.at (h28.size + 1) = h38.at (h28.size + 1) ∧ SzLe h38 h47 ∧ MapS wvArr2Int wvWeighCell wm h47 m1 p0.cells ∧ Sl rWeighNote wm h47 a2 c3 p0.notes ∧ Sl (rInt .i64) wm h47 a4 c5 p0.freed ∧ MapO wvArr2Int (Value.int .i64) h.size h47 (some h11.size) v53 ∧ MapO wvArr2Int (Value.int .i64) h.size h47 (some h15.size) v55 ∧ (∀ i : Nat, (some h15.size) = some i → (some h11.size) = some i → False) ∧ At h47 b6 o7 [.int .i64 p0.machines, .int .i64 p0.names, .map m1, .slice a2 p0.notes.length c3, .slice a4 p0.freed.length c5] ∧ Stb wm h47 b6) (y := (f68_y0)) (s0 := ([], [])) hw2 ?_ ?_ ?_ ⟨hG, hb24, hb27, hb33, hd40, rfl, ⟨Nat.le_refl _⟩, hsm1, hsa2, hsa4, ho17, ho20, dj21, hAb6, hSb6⟩ hq44, fun y72 h70 hR71 => ?_⟩
  · rintro ⟨v53, v55⟩ h47 ⟨hG, hb54, hb56, hb57, hd58, hl45, hz46, hs59, hs60, hs61, ho62, ho63, dj64, hA65, hS66⟩
    exact ⟨hb57, hA65, (hs59).at_, ⟨_, _, _, _, _, _, _, _, hl45.trans hl41, rfl⟩, hz46⟩
  · rintro ⟨v53, v55⟩ h47 h74 t77 ⟨hG, hb54, hb56, hb57, hd58, hl45, hz46, hs59, hs60, hs61, ho62, ho63, dj64, hA65, hS66⟩ u75 ht76
    have u78 := Up.lower hl0 u75
    have hz46 := SzLe.step hz46 u78
    have hlk := u78.keep _ (live_lt (hl45.trans hl41) rfl) (fun z => by obtain ⟨cs, e⟩ := ht76 _ z; exact row_ne_loop e (hl45.trans hl41) rfl)
    have hl45 := hlk.trans hl45
    have hb54 := u78.row (fun z => absurd (u75.own _ z).1 (Nat.not_le_of_lt lt67)) hb54
    have hb56 := u78.row (fun z => absurd (u75.own _ z).1 (Nat.not_le_of_lt lt68)) hb56
    have hb57 := u78.row (fun z => absurd (u75.own _ z).1 (Nat.not_le_of_lt lt69)) hb57
    have hs59 := MapS.fz hs59 (u78.fz hwm)
    have hs60 := hs60.mono (u78.fz hwm)
    have hs61 := hs61.mono (u78.fz hwm)
    have ho62 := MapO.step u78 (fun i e z => by obtain ⟨cs, e2⟩ := ht76 i z; exact MapO.notBox ho62.at_ e2 e) ho62
    have ho63 := MapO.step u78 (fun i e z => by obtain ⟨cs, e2⟩ := ht76 i z; exact MapO.notBox ho63.at_ e2 e) ho63
    have qhA65 := Stb.fz (u78.fz hwm) hA65 hS66
    have hA65 := At.fz (u78.fz hwm) hS66 hA65
    have hS66 := qhA65
    have hd58 := u78.at_ hd58 rfl (fun z => by obtain ⟨cs, e⟩ := ht76 _ z; exact row_ne_def e hd58 rfl)
    have hG := u78.grow hG (Nat.le_refl _)
    exact ⟨hG, hb54, hb56, hb57, hd58, hl45, hz46, hs59, hs60, hs61, ho62, ho63, dj64, hA65, hS66⟩
  · rintro ⟨v53, v55⟩ s81 x79 x80 h47 ⟨hG, hb54, hb56, hb57, hd58, hl45, hz46, hs59, hs60, hs61, ho62, ho63, dj64, hA65, hS66⟩ hL
    dsimp only [f68_y0] at hL
    refine RdOK.mk' h.size (hl45.trans hl41) (Nat.le_trans hwm wl43) rfl rfl ?_
    have hl45 := hl45.trans hl41
    refine WC.seq ?_
    refine WC.region ?_
    refine WO.as gN rfl (evT (fskip rfl fh) rfl) ?_
    refine WO.nil ?_
    refine SeqK.nrm ?_
    refine WC.region ?_
    refine WO.alcN h.size gN rfl zero61 (vs := [.int .i64 0, .bool false, .int .i64 0, .int .i64 0, .int .i64 0, .bool false]) rfl (fun h82 u83 hb84 => ?_)
    have whb84 : h.size ≤ h47.size := hG.size
    have ne85 := Nat.ne_of_lt (live_lt hb54 rfl)
    have ne86 := Nat.ne_of_lt (live_lt hb56 rfl)
    have ne87 := Nat.ne_of_lt (live_lt hb57 rfl)
    have hb54 := u83.row (fun z => z) hb54
    have hb56 := u83.row (fun z => z) hb56
    have hb57 := u83.row (fun z => z) hb57
    have hs59 := MapS.fz hs59 (u83.fz hwm)
    have hs60 := hs60.mono (u83.fz hwm)
    have hs61 := hs61.mono (u83.fz hwm)
    have ho62 := MapO.step u83 (fun _ _ z => z) ho62
    have ho63 := MapO.step u83 (fun _ _ z => z) ho63
    have qhA65 := Stb.fz (u83.fz hwm) hA65 hS66
    have hA65 := At.fz (u83.fz hwm) hS66 hA65
    have hS66 := qhA65
    have hd58 := u83.at_ hd58 rfl (fun z => z)
    have hl45 := u83.at_ hl45 rfl (fun z => z)
    have hz46 := SzLe.step hz46 u83
    have hG := u83.grow hG (Nat.le_refl _)
    refine WO.stN h.size gN size61 (evT fh rfl) (evT (fs2 rfl fh) rfl) hb84 whb84 hwm (vs := [.int .i64 x80.name, .bool x80.root, .int .i64 x80.from_, .int .i64 x80.has, .int .i64 x80.out, .bool x80.use]) rfl rfl rfl rfl (cs' := [.int .i64 x80.name, .bool x80.root, .int .i64 x80.from_, .int .i64 x80.has, .int .i64 x80.out, .bool x80.use]) rfl (fun h88 u89 hb90 => ?_)
    have hb54 := u89.row ne85 hb54
    have hb56 := u89.row ne86 hb56
    have hb57 := u89.row ne87 hb57
    have hs59 := MapS.fz hs59 (u89.fz hwm)
    have hs60 := hs60.mono (u89.fz hwm)
    have hs61 := hs61.mono (u89.fz hwm)
    have ho62 := MapO.step u89 (fun i e z => MapO.notBox ho62.at_ hb84 (z ▸ e)) ho62
    have ho63 := MapO.step u89 (fun i e z => MapO.notBox ho63.at_ hb84 (z ▸ e)) ho63
    have qhA65 := Stb.fz (u89.fz hwm) hA65 hS66
    have hA65 := At.fz (u89.fz hwm) hS66 hA65
    have hS66 := qhA65
    have hd58 := u89.at_ hd58 rfl (fun e => row_ne_def hb84 hd58 e.symm)
    have hl45 := u89.at_ hl45 rfl (fun e => row_ne_loop hb84 hl45 e.symm)
    have hz46 := SzLe.step hz46 u89
    have hG := u89.grow hG (Nat.le_refl _)
    refine WO.nil ?_
    refine AsK.mk' hl45 (fun h91 u92 hl93 => ?_)
    have u92 := u92 wl43
    have hz46 := SzLe.step hz46 u92
    have hb54 := u92.row (row_ne_loop hb54 hl45) hb54
    have hb56 := u92.row (row_ne_loop hb56 hl45) hb56
    have hb57 := u92.row (row_ne_loop hb57 hl45) hb57
    have hb90 := u92.row (row_ne_loop hb90 hl45) hb90
    have hs59 := MapS.fz hs59 (u92.fz hwm)
    have hs60 := hs60.mono (u92.fz hwm)
    have hs61 := hs61.mono (u92.fz hwm)
    have ho62 := MapO.step u92 (map_ne_loop ho62.at_ hl45) ho62
    have ho63 := MapO.step u92 (map_ne_loop ho63.at_ hl45) ho63
    have qhA65 := Stb.fz (u92.fz hwm) hA65 hS66
    have hA65 := At.fz (u92.fz hwm) hS66 hA65
    have hS66 := qhA65
    have hd58 := u92.at_ hd58 rfl (def_ne_loop hd58 hl45)
    have hG := u92.grow hG (Nat.le_refl _)
    have hl45 := hl93
    refine WC.block ?_
    refine WC.seq ?_
    refine WC.drawD mixed (by kernel_rfl) ?_
    refine WD.ld gN rfl agg110 (evT (fs8 rfl (fskip rfl fh)) rfl) (At.box hb54) (j := 0) rfl (v := .map (some h11.size)) rfl ?_
    refine WD.mv gN rfl (evT (fs2 rfl fh) rfl) ?_
    refine WD.fld gN rfl fld61_0 (evT (fs2 rfl fh) rfl) ?_
    refine WD.ld gN rfl agg3 (evT fh rfl) (At.box hb90) (j := 0) rfl (v := .int .i64 x80.name) rfl ?_
    refine WD.bldA gN rfl bld113 (evp_cons (evT (fs2 rfl fh) rfl) (evp_cons (evT fh rfl) evp_nil)) rfl (cs' := [.int .i64 x79, .int .i64 x80.name]) rfl ?_
    obtain ⟨x94, hx94, hL⟩ := bind_some hL
    refine WD.lkpP (kv := wvArr2Int) (vv := (Value.int .i64)) (k := (Arr2Int.mk x79 x80.name)) (z := 0) gN rfl key113 und110 zero3 (evT (fs4 rfl fh) rfl) (evT fh rfl) (ho62).at_ hx94 9 (w := .int .i64 x94) rfl (fun _ => rfl) ?_
    refine WD.fld gN rfl fld61_4 (evT (fs4 rfl (fs2 rfl fh)) rfl) ?_
    refine WD.ld gN rfl agg3 (evT fh rfl) (At.box hb90) (j := 4) rfl (v := .int .i64 x80.out) rfl ?_
    refine WD.bin gN rfl (evT (fs2 rfl fh) rfl) (evT fh rfl) abin_addw ?_
    refine WD.entB (i0 := 5) (kv := wvArr2Int) (vv := (Value.int .i64)) (k := (Arr2Int.mk x79 x80.name)) (z := 0) gN rfl key113 und110 zero3 hwm (evT (fs8 rfl fh) rfl) (evT (fs4 rfl fh) rfl) ho62 (fun h95 b98 u96 ho97 hE99 => ?_) (by kernel_rfl) (List.Mem.head _)
    have hb54 := u96.row (MapO.notBox ho62.at_ hb54) hb54
    have hb56 := u96.row (MapO.notBox ho62.at_ hb56) hb56
    have hb57 := u96.row (MapO.notBox ho62.at_ hb57) hb57
    have hb90 := u96.row (MapO.notBox ho62.at_ hb90) hb90
    have hs59 := MapS.fz hs59 (u96.fz hwm)
    have hs60 := hs60.mono (u96.fz hwm)
    have hs61 := hs61.mono (u96.fz hwm)
    have ho63 := MapO.step u96 dj64 ho63
    have qhA65 := Stb.fz (u96.fz hwm) hA65 hS66
    have hA65 := At.fz (u96.fz hwm) hS66 hA65
    have hS66 := qhA65
    have hd58 := u96.at_ hd58 rfl (fun z => map_ne_def ho62.at_ hd58 _ z rfl)
    have hl45 := u96.at_ hl45 rfl (fun z => map_ne_loop ho62.at_ hl45 _ z rfl)
    have hz46 := SzLe.step hz46 u96
    have hG := u96.grow hG (Nat.le_refl _)
    refine WD.v gN rfl (av_extract (evT fh rfl) (v := .int .i64 (b98 : Int)) rfl) ?_
    refine WD.estN (kv := wvArr2Int) (vv := (Value.int .i64)) (v := w64 (x94 + x80.out)) gN hwm (evT (fs8 rfl (fs2 rfl fh)) rfl) (evT fh rfl) (evT (fs2 rfl fh) rfl) hE99 (fun h100 u101 ho102 => ?_) (by kernel_rfl)
    have hb54 := u101.row (MapO.notBox ho97.at_ hb54) hb54
    have hb56 := u101.row (MapO.notBox ho97.at_ hb56) hb56
    have hb57 := u101.row (MapO.notBox ho97.at_ hb57) hb57
    have hb90 := u101.row (MapO.notBox ho97.at_ hb90) hb90
    have hs59 := MapS.fz hs59 (u101.fz hwm)
    have hs60 := hs60.mono (u101.fz hwm)
    have hs61 := hs61.mono (u101.fz hwm)
    have ho63 := MapO.step u101 dj64 ho63
    have qhA65 := Stb.fz (u101.fz hwm) hA65 hS66
    have hA65 := At.fz (u101.fz hwm) hS66 hA65
    have hS66 := qhA65
    have hd58 := u101.at_ hd58 rfl (fun z => map_ne_def ho97.at_ hd58 _ z rfl)
    have hl45 := u101.at_ hl45 rfl (fun z => map_ne_loop ho97.at_ hl45 _ z rfl)
    have hz46 := SzLe.step hz46 u101
    have hG := u101.grow hG (Nat.le_refl _)
    refine WD.nil ?_
    refine SeqK.nrm ?_
    refine WC.seq ?_
    refine WC.region ?_
    refine WO.fld gN rfl fld61_2 (evT (fs8 rfl (fs2 rfl (fskip rfl fh))) rfl) ?_
    refine WO.ld gN rfl agg3 (evT fh rfl) (At.box hb90) (j := 2) rfl (v := .int .i64 x80.from_) rfl ?_
    refine WO.bin gN rfl (evT fh rfl) (evC rfl) abin_geq ?_
    refine WO.nil ?_
    refine SeqK.nrm ?_
    refine WC.condN (evT fh rfl) (fun hc => ?_) (fun hc => ?_)
    · replace hL := cond_tt hc hL
      refine WC.drawD mixed (by kernel_rfl) ?_
      refine WD.ld gN rfl agg110 (evT (fs8 rfl (fs8 rfl (fs4 rfl (fs2 rfl fh)))) rfl) (At.box hb56) (j := 0) rfl (v := .map (some h15.size)) rfl ?_
      refine WD.fld gN rfl fld61_2 (evT (fs8 rfl (fs4 rfl (fs2 rfl (fskip rfl fh)))) rfl) ?_
      refine WD.ld gN rfl agg3 (evT fh rfl) (At.box hb90) (j := 2) rfl (v := .int .i64 x80.from_) rfl ?_
      refine WD.fld gN rfl fld61_0 (evT (fs8 rfl (fs8 rfl (fskip rfl fh))) rfl) ?_
      refine WD.ld gN rfl agg3 (evT fh rfl) (At.box hb90) (j := 0) rfl (v := .int .i64 x80.name) rfl ?_
      refine WD.bldA gN rfl bld113 (evp_cons (evT (fs2 rfl fh) rfl) (evp_cons (evT fh rfl) evp_nil)) rfl (cs' := [.int .i64 x80.from_, .int .i64 x80.name]) rfl ?_
      obtain ⟨x103, hx103, hL⟩ := bind_some hL
      refine WD.lkpP (kv := wvArr2Int) (vv := (Value.int .i64)) (k := (Arr2Int.mk x80.from_ x80.name)) (z := 0) gN rfl key113 und110 zero3 (evT (fs4 rfl (fskip rfl fh)) rfl) (evT fh rfl) (ho63).at_ hx103 10 (w := .int .i64 x103) rfl (fun _ => rfl) ?_
      refine WD.fld gN rfl fld61_3 (evT (fs8 rfl (fs8 rfl (fs4 rfl (fskip rfl fh)))) rfl) ?_
      refine WD.ld gN rfl agg3 (evT fh rfl) (At.box hb90) (j := 3) rfl (v := .int .i64 x80.has) rfl ?_
      refine WD.bin gN rfl (evT (fs2 rfl fh) rfl) (evT fh rfl) abin_addw ?_
      refine WD.entB (i0 := 6) (kv := wvArr2Int) (vv := (Value.int .i64)) (k := (Arr2Int.mk x80.from_ x80.name)) (z := 0) gN rfl key113 und110 zero3 hwm (evT (fs8 rfl (fskip rfl fh)) rfl) (evT (fs4 rfl fh) rfl) ho63 (fun h104 b107 u105 ho106 hE108 => ?_) (by kernel_rfl) (List.Mem.head _)
      have hb54 := u105.row (MapO.notBox ho63.at_ hb54) hb54
      have hb56 := u105.row (MapO.notBox ho63.at_ hb56) hb56
      have hb57 := u105.row (MapO.notBox ho63.at_ hb57) hb57
      have hb90 := u105.row (MapO.notBox ho63.at_ hb90) hb90
      have hs59 := MapS.fz hs59 (u105.fz hwm)
      have hs60 := hs60.mono (u105.fz hwm)
      have hs61 := hs61.mono (u105.fz hwm)
      have ho102 := MapO.step u105 (fun i p q => dj64 i q p) ho102
      have qhA65 := Stb.fz (u105.fz hwm) hA65 hS66
      have hA65 := At.fz (u105.fz hwm) hS66 hA65
      have hS66 := qhA65
      have hd58 := u105.at_ hd58 rfl (fun z => map_ne_def ho63.at_ hd58 _ z rfl)
      have hl45 := u105.at_ hl45 rfl (fun z => map_ne_loop ho63.at_ hl45 _ z rfl)
      have hz46 := SzLe.step hz46 u105
      have hG := u105.grow hG (Nat.le_refl _)
      refine WD.v gN rfl (av_extract (evT fh rfl) (v := .int .i64 (b107 : Int)) rfl) ?_
      refine WD.estN (kv := wvArr2Int) (vv := (Value.int .i64)) (v := w64 (x103 + x80.has)) gN hwm (evT (fs8 rfl (fs2 rfl (fskip rfl fh))) rfl) (evT fh rfl) (evT (fs2 rfl fh) rfl) hE108 (fun h109 u110 ho111 => ?_) (by kernel_rfl)
      have hb54 := u110.row (MapO.notBox ho106.at_ hb54) hb54
      have hb56 := u110.row (MapO.notBox ho106.at_ hb56) hb56
      have hb57 := u110.row (MapO.notBox ho106.at_ hb57) hb57
      have hb90 := u110.row (MapO.notBox ho106.at_ hb90) hb90
      have hs59 := MapS.fz hs59 (u110.fz hwm)
      have hs60 := hs60.mono (u110.fz hwm)
      have hs61 := hs61.mono (u110.fz hwm)
      have ho102 := MapO.step u110 (fun i p q => dj64 i q p) ho102
      have qhA65 := Stb.fz (u110.fz hwm) hA65 hS66
      have hA65 := At.fz (u110.fz hwm) hS66 hA65
      have hS66 := qhA65
      have hd58 := u110.at_ hd58 rfl (fun z => map_ne_def ho106.at_ hd58 _ z rfl)
      have hl45 := u110.at_ hl45 rfl (fun z => map_ne_loop ho106.at_ hl45 _ z rfl)
      have hz46 := SzLe.step hz46 u110
      have hG := u110.grow hG (Nat.le_refl _)
      refine WD.nil ?_
      refine BlkK.nrm ?_
      refine BdK.mk' hl45 (fun h112 u113 hl114 => ?_)
      have u113 := u113 wl43
      have hz46 := SzLe.step hz46 u113
      have hb54 := u113.row (row_ne_loop hb54 hl45) hb54
      have hb56 := u113.row (row_ne_loop hb56 hl45) hb56
      have hb57 := u113.row (row_ne_loop hb57 hl45) hb57
      have hb90 := u113.row (row_ne_loop hb90 hl45) hb90
      have hs59 := MapS.fz hs59 (u113.fz hwm)
      have hs60 := hs60.mono (u113.fz hwm)
      have hs61 := hs61.mono (u113.fz hwm)
      have ho102 := MapO.step u113 (map_ne_loop ho102.at_ hl45) ho102
      have ho111 := MapO.step u113 (map_ne_loop ho111.at_ hl45) ho111
      have qhA65 := Stb.fz (u113.fz hwm) hA65 hS66
      have hA65 := At.fz (u113.fz hwm) hS66 hA65
      have hS66 := qhA65
      have hd58 := u113.at_ hd58 rfl (def_ne_loop hd58 hl45)
      have hG := u113.grow hG (Nat.le_refl _)
      have hl45 := hl114.trans hl41.symm
      have hr := Option.some.inj hL
      subst hr
      exact ⟨hG, hb54, hb56, hb57, hd58, hl45, hz46, hs59, hs60, hs61, ho102, ho111, dj64, hA65, hS66⟩
    · replace hL := cond_ff hc hL
      refine WC.skip ?_
      refine BlkK.nrm ?_
      refine BdK.mk' hl45 (fun h115 u116 hl117 => ?_)
      have u116 := u116 wl43
      have hz46 := SzLe.step hz46 u116
      have hb54 := u116.row (row_ne_loop hb54 hl45) hb54
      have hb56 := u116.row (row_ne_loop hb56 hl45) hb56
      have hb57 := u116.row (row_ne_loop hb57 hl45) hb57
      have hb90 := u116.row (row_ne_loop hb90 hl45) hb90
      have hs59 := MapS.fz hs59 (u116.fz hwm)
      have hs60 := hs60.mono (u116.fz hwm)
      have hs61 := hs61.mono (u116.fz hwm)
      have ho102 := MapO.step u116 (map_ne_loop ho102.at_ hl45) ho102
      have ho63 := MapO.step u116 (map_ne_loop ho63.at_ hl45) ho63
      have qhA65 := Stb.fz (u116.fz hwm) hA65 hS66
      have hA65 := At.fz (u116.fz hwm) hS66 hA65
      have hS66 := qhA65
      have hd58 := u116.at_ hd58 rfl (def_ne_loop hd58 hl45)
      have hG := u116.grow hG (Nat.le_refl _)
      have hl45 := hl117.trans hl41.symm
      have hr := Option.some.inj hL
      subst hr
      exact ⟨hG, hb54, hb56, hb57, hd58, hl45, hz46, hs59, hs60, hs61, ho102, ho63, dj64, hA65, hS66⟩
  · obtain ⟨v53, v55⟩ := q44
    obtain ⟨rfl, hJ⟩ := hR71
    obtain ⟨hG, hb54, hb56, hb57, hd58, hl45, hz46, hs59, hs60, hs61, ho62, ho63, dj64, hA65, hS66⟩ := hJ
    dsimp only at hL
    refine ⟨hl45.trans hl41, fun h118 u119 => ?_⟩
    have u119 := u119 wl43
    have hz46 := SzLe.step hz46 u119
    have hb54 := u119.row (row_ne_loop hb54 (hl45.trans hl41)) hb54
    have hb56 := u119.row (row_ne_loop hb56 (hl45.trans hl41)) hb56
    have hb57 := u119.row (row_ne_loop hb57 (hl45.trans hl41)) hb57
    have hs59 := MapS.fz hs59 (u119.fz hwm)
    have hs60 := hs60.mono (u119.fz hwm)
    have hs61 := hs61.mono (u119.fz hwm)
    have ho62 := MapO.step u119 (map_ne_loop ho62.at_ (hl45.trans hl41)) ho62
    have ho63 := MapO.step u119 (map_ne_loop ho63.at_ (hl45.trans hl41)) ho63
    have qhA65 := Stb.fz (u119.fz hwm) hA65 hS66
    have hA65 := At.fz (u119.fz hwm) hS66 hA65
    have hS66 := qhA65
    have hd58 := u119.at_ hd58 rfl (def_ne_loop hd58 (hl45.trans hl41))
    have hG := u119.grow hG (Nat.le_refl _)
    refine BlkK.nrm ?_
    refine SeqK.nrm ?_
    refine WC.seq ?_
    refine WC.seq ?_
    refine WC.region ?_
    refine WO.mv gN rfl (evT (fs4 rfl (fs2 rfl fh)) rfl) ?_
    refine WO.nck gN rfl (evT fh rfl) ?_
    refine WO.fld gN rfl fld97_3 (evT fh rfl) ?_
    refine WO.ld gN rfl agg23 (evT fh rfl) hA65 (j := 3) rfl (v := .slice a2 p0.notes.length c3) rfl ?_
    refine WO.len gN rfl und23 (evT fh rfl) ?_
    refine WO.mv gN rfl (evC rfl) ?_
    refine WO.nil ?_
    refine SeqK.nrm ?_
    refine WC.block ?_
    refine WC.loop (WL.lift hL (fun (p : Int × (List (Arr2Int × Int)) × (List (Arr2Int × Int))) (s : Fs) => match p with | (v126, v128, v130) => ∃ (fr121 : Fr) (h120 : H), s = ⟨fr121, [⟨.collected h28.size, #[]⟩], h120, none⟩ ∧ Grow h h120 ∧ fr121.at 2 = .pointer (some ⟨h.size, 0, none⟩) ∧ fr121.at 3 = .pointer (some ⟨h8.size, 0, none⟩) ∧ fr121.at 43 = .slice a2 p0.notes.length c3 ∧ fr121.at 44 = .int .i64 (p0.notes.length : Int) ∧ fr121.at 45 = .int .i64 v126 ∧ h120.at (h.size) = .row [.map (some h11.size)] true 0 ∧ h120.at (h8.size) = .row [.map (some h15.size)] true 0 ∧ h120.at (h28.size) = .deferred ∧ Sl rWeighNote wm h120 a2 c3 p0.notes ∧ MapO wvArr2Int (Value.int .i64) h.size h120 (some h11.size) v128 ∧ MapO wvArr2Int (Value.int .i64) h.size h120 (some h15.size) v130 ∧ (∀ i : Nat, (some h15.size) = some i → (some h11.size) = some i → False) ∧ At h120 b6 o7 [.int .i64 p0.machines, .int .i64 p0.names, .map m1, .slice a2 p0.notes.length c3, .slice a4 p0.freed.length c5] ∧ Stb wm h120 b6) ⟨_, _, rfl, hG, (fs8 rfl (fs2 rfl (fskip rfl fh))), (fs8 rfl (fs2 rfl fh)), (fs2 rfl fh), (fskip rfl fh), fh, hb54, hb56, hd58, hs60, ho62, ho63, dj64, hA65, hS66⟩ ?_)
    clear hL
    rintro next139 ⟨v126, v128, v130⟩ s hnext139 hL ⟨fr121, h120, rfl, hG, e122, e123, e124, e125, e127, hb129, hb131, hd132, hs133, ho134, ho135, dj136, hA137, hS138⟩
    dsimp only [f68_b0] at hL
    refine WC.seq ?_
    refine WC.region ?_
    refine WO.bin gN rfl (evT e127 rfl) (evT e125 rfl) abin_lss ?_
    refine WO.nil ?_
    refine SeqK.nrm ?_
    refine WC.seq ?_
    refine WC.condN (evT fh rfl) (fun hc => ?_) (fun hc => ?_)
    · replace hL := cond_tt hc hL
      refine WC.skip ?_
      refine SeqK.nrm ?_
      refine WC.seqJ (r := r) (fun (p : (List (Arr2Int × Int)) × (List (Arr2Int × Int))) (s : Fs) => match p with | (v147, v149) => ∃ (fr141 : Fr) (h140 : H), s = ⟨fr141, [⟨.collected h28.size, #[]⟩], h140, none⟩ ∧ Grow h h140 ∧ fr141.at 2 = .pointer (some ⟨h.size, 0, none⟩) ∧ fr141.at 3 = .pointer (some ⟨h8.size, 0, none⟩) ∧ fr141.at 43 = .slice a2 p0.notes.length c3 ∧ fr141.at 44 = .int .i64 (p0.notes.length : Int) ∧ fr141.at 45 = .int .i64 v126 ∧ h140.at (h.size) = .row [.map (some h11.size)] true 0 ∧ h140.at (h8.size) = .row [.map (some h15.size)] true 0 ∧ h140.at (h28.size) = .deferred ∧ Sl rWeighNote wm h140 a2 c3 p0.notes ∧ MapO wvArr2Int (Value.int .i64) h.size h140 (some h11.size) v147 ∧ MapO wvArr2Int (Value.int .i64) h.size h140 (some h15.size) v149 ∧ (∀ i : Nat, (some h15.size) = some i → (some h11.size) = some i → False) ∧ At h140 b6 o7 [.int .i64 p0.machines, .int .i64 p0.names, .map m1, .slice a2 p0.notes.length c3, .slice a4 p0.freed.length c5] ∧ Stb wm h140 b6) (f68_j0 v126 next139) ?_ ?_
      · clear hL
        rintro ⟨v147, v149⟩ s hL ⟨fr141, h140, rfl, hG, e142, e143, e144, e145, e146, hb148, hb150, hd151, hs152, ho153, ho154, dj155, hA156, hS157⟩
        dsimp only [f68_j0] at hL
        refine WC.region ?_
        refine WO.bin gN rfl (evT e146 rfl) (evC rfl) abin_addw ?_
        refine WO.mv gN rfl (evT fh rfl) ?_
        refine WO.nil ?_
        exact LoopK.nrm (hnext139 _ _ hL ⟨_, _, rfl, hG, (fs2 rfl e142), (fs2 rfl e143), (fs2 rfl e144), (fs2 rfl e145), fh, hb148, hb150, hd151, hs152, ho153, ho154, dj155, hA156, hS157⟩)
      · skip
        refine WC.block ?_
        refine WC.seq ?_
        refine WC.region ?_
        obtain ⟨x158, hx158, hL⟩ := bind_some hL
        obtain ⟨b159, o160, _, hab159, hAb159, hSb159, hFb159⟩ := Sl.at_ hs133 hx158
        refine WO.ix gN rfl und23 size58 (evT (fskip rfl e124) rfl) (evT (fskip rfl e127) rfl) hab159 hx158 ?_
        refine WO.ldA gN rfl agg58 size58 (evT fh rfl) hAb159 (j := 0) rfl rfl (ws := [.int .i64 x158.kind, .int .i64 x158.to_, .int .i64 x158.name, .int .i64 x158.via, .int .i64 x158.w]) rfl ?_
        refine WO.alcN h.size gN rfl zero58 (vs := [.int .i64 0, .int .i64 0, .int .i64 0, .int .i64 0, .int .i64 0]) rfl (fun h161 u162 hb163 => ?_)
        have whb163 : h.size ≤ h120.size := hG.size
        have ne164 := Nat.ne_of_lt (live_lt hb129 rfl)
        have ne165 := Nat.ne_of_lt (live_lt hb131 rfl)
        have hb129 := u162.row (fun z => z) hb129
        have hb131 := u162.row (fun z => z) hb131
        have hs133 := hs133.mono (u162.fz hwm)
        have ho134 := MapO.step u162 (fun _ _ z => z) ho134
        have ho135 := MapO.step u162 (fun _ _ z => z) ho135
        have qhA137 := Stb.fz (u162.fz hwm) hA137 hS138
        have hA137 := At.fz (u162.fz hwm) hS138 hA137
        have hS138 := qhA137
        have qhAb159 := Stb.fz (u162.fz hwm) hAb159 hSb159
        have hAb159 := At.fz (u162.fz hwm) hSb159 hAb159
        have hSb159 := qhAb159
        have hd132 := u162.at_ hd132 rfl (fun z => z)
        have hG := u162.grow hG (Nat.le_refl _)
        refine WO.stN h.size gN size58 (evT fh rfl) (evT (fskip rfl fh) rfl) hb163 whb163 hwm (vs := [.int .i64 x158.kind, .int .i64 x158.to_, .int .i64 x158.name, .int .i64 x158.via, .int .i64 x158.w]) rfl rfl rfl rfl (cs' := [.int .i64 x158.kind, .int .i64 x158.to_, .int .i64 x158.name, .int .i64 x158.via, .int .i64 x158.w]) rfl (fun h166 u167 hb168 => ?_)
        have hb129 := u167.row ne164 hb129
        have hb131 := u167.row ne165 hb131
        have hs133 := hs133.mono (u167.fz hwm)
        have ho134 := MapO.step u167 (fun i e z => MapO.notBox ho134.at_ hb163 (z ▸ e)) ho134
        have ho135 := MapO.step u167 (fun i e z => MapO.notBox ho135.at_ hb163 (z ▸ e)) ho135
        have qhA137 := Stb.fz (u167.fz hwm) hA137 hS138
        have hA137 := At.fz (u167.fz hwm) hS138 hA137
        have hS138 := qhA137
        have qhAb159 := Stb.fz (u167.fz hwm) hAb159 hSb159
        have hAb159 := At.fz (u167.fz hwm) hSb159 hAb159
        have hSb159 := qhAb159
        have hd132 := u167.at_ hd132 rfl (fun e => row_ne_def hb163 hd132 e.symm)
        have hG := u167.grow hG (Nat.le_refl _)
        refine WO.nil ?_
        refine SeqK.nrm ?_
        refine WC.seq ?_
        refine WC.region ?_
        refine WO.fld gN rfl fld58_0 (evT fh rfl) ?_
        refine WO.ld gN rfl agg56 (evT fh rfl) (At.box hb168) (j := 0) rfl (v := .int .i64 x158.kind) rfl ?_
        refine WO.nil ?_
        refine SeqK.nrm ?_
        refine WC.block ?_
        refine WC.seq ?_
        refine WC.region ?_
        refine WO.bin gN rfl (evT fh rfl) (evC rfl) abin_eql ?_
        refine WO.as gN rfl (evT fh rfl) ?_
        refine WO.nil ?_
        refine SeqK.nrm ?_
        refine WC.condN (evT fh rfl) (fun hc => ?_) (fun hc => ?_)
        · replace hL := cond_tt hc hL
          refine WC.drawD mixed (by kernel_rfl) ?_
          refine WD.ld gN rfl agg110 (evT (fs8 rfl e123) rfl) (At.box hb131) (j := 0) rfl (v := .map (some h15.size)) rfl ?_
          refine WD.fld gN rfl fld58_3 (evT (fs4 rfl (fskip rfl fh)) rfl) ?_
          refine WD.ld gN rfl agg3 (evT fh rfl) (At.box hb168) (j := 3) rfl (v := .int .i64 x158.via) rfl ?_
          refine WD.fld gN rfl fld58_2 (evT (fs4 rfl (fs2 rfl (fskip rfl fh))) rfl) ?_
          refine WD.ld gN rfl agg3 (evT fh rfl) (At.box hb168) (j := 2) rfl (v := .int .i64 x158.name) rfl ?_
          refine WD.bldA gN rfl bld113 (evp_cons (evT (fs2 rfl fh) rfl) (evp_cons (evT fh rfl) evp_nil)) rfl (cs' := [.int .i64 x158.via, .int .i64 x158.name]) rfl ?_
          obtain ⟨x169, hx169, hL⟩ := bind_some hL
          refine WD.lkpP (kv := wvArr2Int) (vv := (Value.int .i64)) (k := (Arr2Int.mk x158.via x158.name)) (z := 0) gN rfl key113 und110 zero3 (evT (fs4 rfl (fskip rfl fh)) rfl) (evT fh rfl) (ho135).at_ hx169 10 (w := .int .i64 x169) rfl (fun _ => rfl) ?_
          refine WD.fld gN rfl fld58_4 (evT (fs8 rfl (fs2 rfl (fskip rfl fh))) rfl) ?_
          refine WD.ld gN rfl agg3 (evT fh rfl) (At.box hb168) (j := 4) rfl (v := .int .i64 x158.w) rfl ?_
          refine WD.bin gN rfl (evT (fs2 rfl fh) rfl) (evT fh rfl) abin_addw ?_
          refine WD.entB (i0 := 6) (kv := wvArr2Int) (vv := (Value.int .i64)) (k := (Arr2Int.mk x158.via x158.name)) (z := 0) gN rfl key113 und110 zero3 hwm (evT (fs8 rfl (fskip rfl fh)) rfl) (evT (fs4 rfl fh) rfl) ho135 (fun h170 b173 u171 ho172 hE174 => ?_) (by kernel_rfl) (List.Mem.head _)
          have hb129 := u171.row (MapO.notBox ho135.at_ hb129) hb129
          have hb131 := u171.row (MapO.notBox ho135.at_ hb131) hb131
          have hb168 := u171.row (MapO.notBox ho135.at_ hb168) hb168
          have hs133 := hs133.mono (u171.fz hwm)
          have ho134 := MapO.step u171 (fun i p q => dj136 i q p) ho134
          have qhA137 := Stb.fz (u171.fz hwm) hA137 hS138
          have hA137 := At.fz (u171.fz hwm) hS138 hA137
          have hS138 := qhA137
          have qhAb159 := Stb.fz (u171.fz hwm) hAb159 hSb159
          have hAb159 := At.fz (u171.fz hwm) hSb159 hAb159
          have hSb159 := qhAb159
          have hd132 := u171.at_ hd132 rfl (fun z => map_ne_def ho135.at_ hd132 _ z rfl)
          have hG := u171.grow hG (Nat.le_refl _)
          refine WD.v gN rfl (av_extract (evT fh rfl) (v := .int .i64 (b173 : Int)) rfl) ?_
          refine WD.estN (kv := wvArr2Int) (vv := (Value.int .i64)) (v := w64 (x169 + x158.w)) gN hwm (evT (fs8 rfl (fs2 rfl (fskip rfl fh))) rfl) (evT fh rfl) (evT (fs2 rfl fh) rfl) hE174 (fun h175 u176 ho177 => ?_) (by kernel_rfl)
          have hb129 := u176.row (MapO.notBox ho172.at_ hb129) hb129
          have hb131 := u176.row (MapO.notBox ho172.at_ hb131) hb131
          have hb168 := u176.row (MapO.notBox ho172.at_ hb168) hb168
          have hs133 := hs133.mono (u176.fz hwm)
          have ho134 := MapO.step u176 (fun i p q => dj136 i q p) ho134
          have qhA137 := Stb.fz (u176.fz hwm) hA137 hS138
          have hA137 := At.fz (u176.fz hwm) hS138 hA137
          have hS138 := qhA137
          have qhAb159 := Stb.fz (u176.fz hwm) hAb159 hSb159
          have hAb159 := At.fz (u176.fz hwm) hSb159 hAb159
          have hSb159 := qhAb159
          have hd132 := u176.at_ hd132 rfl (fun z => map_ne_def ho172.at_ hd132 _ z rfl)
          have hG := u176.grow hG (Nat.le_refl _)
          refine WD.nil ?_
          refine BlkK.nrm ?_
          refine BlkK.nrm ?_
          exact SeqJ.nrm _ hL ⟨_, _, rfl, hG, (fs8 rfl (fs8 rfl (fs4 rfl e122))), (fs8 rfl (fs8 rfl (fs4 rfl e123))), (fs8 rfl (fs8 rfl (fs4 rfl e124))), (fs8 rfl (fs8 rfl (fs4 rfl e125))), (fs8 rfl (fs8 rfl (fs4 rfl e127))), hb129, hb131, hd132, hs133, ho134, ho177, dj136, hA137, hS138⟩
        · replace hL := cond_ff hc hL
          refine WC.seq ?_
          refine WC.region ?_
          refine WO.bin gN rfl (evT (fs2 rfl fh) rfl) (evC rfl) abin_eql ?_
          refine WO.as gN rfl (evT fh rfl) ?_
          refine WO.nil ?_
          refine SeqK.nrm ?_
          refine WC.condN (evT fh rfl) (fun hc => ?_) (fun hc => ?_)
          · replace hL := cond_tt hc hL
            refine WC.drawD mixed (by kernel_rfl) ?_
            refine WD.ld gN rfl agg110 (evT (fs8 rfl (fs2 rfl e123)) rfl) (At.box hb131) (j := 0) rfl (v := .map (some h15.size)) rfl ?_
            refine WD.fld gN rfl fld58_1 (evT (fs4 rfl (fs2 rfl (fskip rfl fh))) rfl) ?_
            refine WD.ld gN rfl agg3 (evT fh rfl) (At.box hb168) (j := 1) rfl (v := .int .i64 x158.to_) rfl ?_
            refine WD.fld gN rfl fld58_2 (evT (fs8 rfl (fskip rfl fh)) rfl) ?_
            refine WD.ld gN rfl agg3 (evT fh rfl) (At.box hb168) (j := 2) rfl (v := .int .i64 x158.name) rfl ?_
            refine WD.bldA gN rfl bld113 (evp_cons (evT (fs2 rfl fh) rfl) (evp_cons (evT fh rfl) evp_nil)) rfl (cs' := [.int .i64 x158.to_, .int .i64 x158.name]) rfl ?_
            obtain ⟨x178, hx178, hL⟩ := bind_some hL
            refine WD.lkpP (kv := wvArr2Int) (vv := (Value.int .i64)) (k := (Arr2Int.mk x158.to_ x158.name)) (z := 0) gN rfl key113 und110 zero3 (evT (fs4 rfl (fskip rfl fh)) rfl) (evT fh rfl) (ho135).at_ hx178 10 (w := .int .i64 x178) rfl (fun _ => rfl) ?_
            refine WD.fld gN rfl fld58_4 (evT (fs8 rfl (fs4 rfl (fskip rfl fh))) rfl) ?_
            refine WD.ld gN rfl agg3 (evT fh rfl) (At.box hb168) (j := 4) rfl (v := .int .i64 x158.w) rfl ?_
            refine WD.bin gN rfl (evT (fs2 rfl fh) rfl) (evT fh rfl) abin_addw ?_
            refine WD.entB (i0 := 6) (kv := wvArr2Int) (vv := (Value.int .i64)) (k := (Arr2Int.mk x158.to_ x158.name)) (z := 0) gN rfl key113 und110 zero3 hwm (evT (fs8 rfl (fskip rfl fh)) rfl) (evT (fs4 rfl fh) rfl) ho135 (fun h179 b182 u180 ho181 hE183 => ?_) (by kernel_rfl) (List.Mem.head _)
            have hb129 := u180.row (MapO.notBox ho135.at_ hb129) hb129
            have hb131 := u180.row (MapO.notBox ho135.at_ hb131) hb131
            have hb168 := u180.row (MapO.notBox ho135.at_ hb168) hb168
            have hs133 := hs133.mono (u180.fz hwm)
            have ho134 := MapO.step u180 (fun i p q => dj136 i q p) ho134
            have qhA137 := Stb.fz (u180.fz hwm) hA137 hS138
            have hA137 := At.fz (u180.fz hwm) hS138 hA137
            have hS138 := qhA137
            have qhAb159 := Stb.fz (u180.fz hwm) hAb159 hSb159
            have hAb159 := At.fz (u180.fz hwm) hSb159 hAb159
            have hSb159 := qhAb159
            have hd132 := u180.at_ hd132 rfl (fun z => map_ne_def ho135.at_ hd132 _ z rfl)
            have hG := u180.grow hG (Nat.le_refl _)
            refine WD.v gN rfl (av_extract (evT fh rfl) (v := .int .i64 (b182 : Int)) rfl) ?_
            refine WD.estN (kv := wvArr2Int) (vv := (Value.int .i64)) (v := w64 (x178 + x158.w)) gN hwm (evT (fs8 rfl (fs2 rfl (fskip rfl fh))) rfl) (evT fh rfl) (evT (fs2 rfl fh) rfl) hE183 (fun h184 u185 ho186 => ?_) (by kernel_rfl)
            have hb129 := u185.row (MapO.notBox ho181.at_ hb129) hb129
            have hb131 := u185.row (MapO.notBox ho181.at_ hb131) hb131
            have hb168 := u185.row (MapO.notBox ho181.at_ hb168) hb168
            have hs133 := hs133.mono (u185.fz hwm)
            have ho134 := MapO.step u185 (fun i p q => dj136 i q p) ho134
            have qhA137 := Stb.fz (u185.fz hwm) hA137 hS138
            have hA137 := At.fz (u185.fz hwm) hS138 hA137
            have hS138 := qhA137
            have qhAb159 := Stb.fz (u185.fz hwm) hAb159 hSb159
            have hAb159 := At.fz (u185.fz hwm) hSb159 hAb159
            have hSb159 := qhAb159
            have hd132 := u185.at_ hd132 rfl (fun z => map_ne_def ho181.at_ hd132 _ z rfl)
            have hG := u185.grow hG (Nat.le_refl _)
            refine WD.nil ?_
            refine BlkK.nrm ?_
            refine BlkK.nrm ?_
            exact SeqJ.nrm _ hL ⟨_, _, rfl, hG, (fs8 rfl (fs8 rfl (fs4 rfl (fs2 rfl e122)))), (fs8 rfl (fs8 rfl (fs4 rfl (fs2 rfl e123)))), (fs8 rfl (fs8 rfl (fs4 rfl (fs2 rfl e124)))), (fs8 rfl (fs8 rfl (fs4 rfl (fs2 rfl e125)))), (fs8 rfl (fs8 rfl (fs4 rfl (fs2 rfl e127)))), hb129, hb131, hd132, hs133, ho134, ho186, dj136, hA137, hS138⟩
          · replace hL := cond_ff hc hL
            refine WC.drawD mixed (by kernel_rfl) ?_
            refine WD.ld gN rfl agg110 (evT (fs8 rfl (fs2 rfl e122)) rfl) (At.box hb129) (j := 0) rfl (v := .map (some h11.size)) rfl ?_
            refine WD.fld gN rfl fld58_1 (evT (fs4 rfl (fs2 rfl (fskip rfl fh))) rfl) ?_
            refine WD.ld gN rfl agg3 (evT fh rfl) (At.box hb168) (j := 1) rfl (v := .int .i64 x158.to_) rfl ?_
            refine WD.fld gN rfl fld58_2 (evT (fs8 rfl (fskip rfl fh)) rfl) ?_
            refine WD.ld gN rfl agg3 (evT fh rfl) (At.box hb168) (j := 2) rfl (v := .int .i64 x158.name) rfl ?_
            refine WD.bldA gN rfl bld113 (evp_cons (evT (fs2 rfl fh) rfl) (evp_cons (evT fh rfl) evp_nil)) rfl (cs' := [.int .i64 x158.to_, .int .i64 x158.name]) rfl ?_
            obtain ⟨x187, hx187, hL⟩ := bind_some hL
            refine WD.lkpP (kv := wvArr2Int) (vv := (Value.int .i64)) (k := (Arr2Int.mk x158.to_ x158.name)) (z := 0) gN rfl key113 und110 zero3 (evT (fs4 rfl (fskip rfl fh)) rfl) (evT fh rfl) (ho134).at_ hx187 8 (w := .int .i64 x187) rfl (fun _ => rfl) ?_
            refine WD.bin gN rfl (evT fh rfl) (evC rfl) abin_addw ?_
            refine WD.entB (i0 := 6) (kv := wvArr2Int) (vv := (Value.int .i64)) (k := (Arr2Int.mk x158.to_ x158.name)) (z := 0) gN rfl key113 und110 zero3 hwm (evT (fs4 rfl (fs2 rfl (fskip rfl fh))) rfl) (evT (fs2 rfl fh) rfl) ho134 (fun h188 b191 u189 ho190 hE192 => ?_) (by kernel_rfl) (List.Mem.head _)
            have hb129 := u189.row (MapO.notBox ho134.at_ hb129) hb129
            have hb131 := u189.row (MapO.notBox ho134.at_ hb131) hb131
            have hb168 := u189.row (MapO.notBox ho134.at_ hb168) hb168
            have hs133 := hs133.mono (u189.fz hwm)
            have ho135 := MapO.step u189 dj136 ho135
            have qhA137 := Stb.fz (u189.fz hwm) hA137 hS138
            have hA137 := At.fz (u189.fz hwm) hS138 hA137
            have hS138 := qhA137
            have qhAb159 := Stb.fz (u189.fz hwm) hAb159 hSb159
            have hAb159 := At.fz (u189.fz hwm) hSb159 hAb159
            have hSb159 := qhAb159
            have hd132 := u189.at_ hd132 rfl (fun z => map_ne_def ho134.at_ hd132 _ z rfl)
            have hG := u189.grow hG (Nat.le_refl _)
            refine WD.v gN rfl (av_extract (evT fh rfl) (v := .int .i64 (b191 : Int)) rfl) ?_
            refine WD.estN (kv := wvArr2Int) (vv := (Value.int .i64)) (v := w64 (x187 + 16)) gN hwm (evT (fs8 rfl (fskip rfl fh)) rfl) (evT fh rfl) (evT (fs2 rfl fh) rfl) hE192 (fun h193 u194 ho195 => ?_) (by kernel_rfl)
            have hb129 := u194.row (MapO.notBox ho190.at_ hb129) hb129
            have hb131 := u194.row (MapO.notBox ho190.at_ hb131) hb131
            have hb168 := u194.row (MapO.notBox ho190.at_ hb168) hb168
            have hs133 := hs133.mono (u194.fz hwm)
            have ho135 := MapO.step u194 dj136 ho135
            have qhA137 := Stb.fz (u194.fz hwm) hA137 hS138
            have hA137 := At.fz (u194.fz hwm) hS138 hA137
            have hS138 := qhA137
            have qhAb159 := Stb.fz (u194.fz hwm) hAb159 hSb159
            have hAb159 := At.fz (u194.fz hwm) hSb159 hAb159
            have hSb159 := qhAb159
            have hd132 := u194.at_ hd132 rfl (fun z => map_ne_def ho190.at_ hd132 _ z rfl)
            have hG := u194.grow hG (Nat.le_refl _)
            refine WD.nil ?_
            refine BlkK.nrm ?_
            refine BlkK.nrm ?_
            exact SeqJ.nrm _ hL ⟨_, _, rfl, hG, (fs8 rfl (fs8 rfl (fs4 rfl e122))), (fs8 rfl (fs8 rfl (fs4 rfl e123))), (fs8 rfl (fs8 rfl (fs4 rfl e124))), (fs8 rfl (fs8 rfl (fs4 rfl e125))), (fs8 rfl (fs8 rfl (fs4 rfl e127))), hb129, hb131, hd132, hs133, ho195, ho135, dj136, hA137, hS138⟩
    · replace hL := cond_ff hc hL
      refine WC.exit ?_
      refine SeqK.exit ?_
      refine LoopK.exit ?_
      refine BlkK.here ?_
      refine SeqK.nrm ?_
      refine WC.seq ?_
      refine WC.drawD mixed (by kernel_rfl) ?_
      refine WD.ld gN rfl agg110 (evT (fskip rfl e122) rfl) (At.box hb129) (j := 0) rfl (v := .map (some h11.size)) rfl ?_
      refine WD.ldX [h.size] h.size (by intro y hy; simp only [List.mem_cons, List.not_mem_nil, or_false] at hy; subst hy; exact ⟨live_lt hb129 rfl, (Ne.symm ne14)⟩) gN rfl agg110 (evT (fs2 rfl e123) rfl) (At.box hb131) (j := 0) rfl (v := .map (some h15.size)) rfl (fun h196 u197 => ?_)
      have hb129 := u197.row (fun z => z) hb129
      have hb131 := u197.row (fun z => z) hb131
      have hs133 := hs133.mono (u197.fz hwm)
      have ho134 := MapO.step u197 (fun _ _ z => z) ho134
      have ho135 := MapO.step u197 (fun _ _ z => z) ho135
      have qhA137 := Stb.fz (u197.fz hwm) hA137 hS138
      have hA137 := At.fz (u197.fz hwm) hS138 hA137
      have hS138 := qhA137
      have hd132 := u197.at_ hd132 rfl (fun z => z)
      have hG := u197.grow hG (Nat.le_refl _)
      refine WD.stX h.size [1] gN size110 (evT (fs2 rfl (fskip rfl e122)) rfl) (evT (fskip rfl fh) rfl) hb129 whb10 hwm (vs := [.map (some h11.size)]) rfl rfl rfl rfl (cs' := [.map (some h11.size)]) rfl (fun h198 u199 hb200 => ?_) (by kernel_rfl) (by intro i hi; simp only [List.mem_cons, List.not_mem_nil, or_false] at hi; subst hi; exact ⟨_, List.Mem.head _, by simp, by decide⟩)
      have hb131 := u199.row (Ne.symm ne14) hb131
      have hs133 := hs133.mono (u199.fz hwm)
      have ho134 := MapO.step u199 (fun i e z => MapO.notBox ho134.at_ hb129 (z ▸ e)) ho134
      have ho135 := MapO.step u199 (fun i e z => MapO.notBox ho135.at_ hb129 (z ▸ e)) ho135
      have qhA137 := Stb.fz (u199.fz hwm) hA137 hS138
      have hA137 := At.fz (u199.fz hwm) hS138 hA137
      have hS138 := qhA137
      have hd132 := u199.at_ hd132 rfl (fun e => row_ne_def hb129 hd132 e.symm)
      have hG := u199.grow hG (Nat.le_refl _)
      refine WD.stN h.size gN size110 (evT (fs2 rfl (fskip rfl e123)) rfl) (evT fh rfl) hb131 whb13 hwm (vs := [.map (some h15.size)]) rfl rfl rfl rfl (cs' := [.map (some h15.size)]) rfl (fun h201 u202 hb203 => ?_) (by kernel_rfl)
      have hb200 := u202.row ne14 hb200
      have hs133 := hs133.mono (u202.fz hwm)
      have ho134 := MapO.step u202 (fun i e z => MapO.notBox ho134.at_ hb131 (z ▸ e)) ho134
      have ho135 := MapO.step u202 (fun i e z => MapO.notBox ho135.at_ hb131 (z ▸ e)) ho135
      have qhA137 := Stb.fz (u202.fz hwm) hA137 hS138
      have hA137 := At.fz (u202.fz hwm) hS138 hA137
      have hS138 := qhA137
      have hd132 := u202.at_ hd132 rfl (fun e => row_ne_def hb131 hd132 e.symm)
      have hG := u202.grow hG (Nat.le_refl _)
      refine WD.nil ?_
      refine SeqK.nrm ?_
      refine WC.ret ?_
      refine RetL.col h.size wd42 hd132 (Nat.le_trans hwm wd42) (fun h204 u205 => ?_)
      have hb200 := u205.row (row_ne_def hb200 hd132) hb200
      have hb203 := u205.row (row_ne_def hb203 hd132) hb203
      have hs133 := hs133.mono (u205.fz hwm)
      have ho134 := MapO.step u205 (map_ne_def ho134.at_ hd132) ho134
      have ho135 := MapO.step u205 (map_ne_def ho135.at_ hd132) ho135
      have qhA137 := Stb.fz (u205.fz hwm) hA137 hS138
      have hA137 := At.fz (u205.fz hwm) hS138 hA137
      have hS138 := qhA137
      have hG := u205.grow hG (Nat.le_refl _)
      have hr := Option.some.inj hL
      subst hr
      exact RetL.gen rfl (ares_cell (fs2 rfl (fskip rfl e122)) (aload_at1 agg110 (At.box hb200) (j := 0) rfl (v := .map (some h11.size)) rfl) (ares_cell (fs2 rfl (fskip rfl e123)) (aload_at1 agg110 (At.box hb203) (j := 0) rfl (v := .map (some h15.size)) rfl) ares_nil)) rfl ⟨(some h11.size), (some h15.size), rfl, hG, ho134, ho135, dj136⟩
end Go.Proofs.Ytekpjgmhkkjhgaa
end
end
section
noncomputable section
namespace Go.Proofs.Ytekpjgmhkkjhgaa
open Go.Abs Go.RowKit
def bodyOf (fn : Func) : Code := fn.body.getD .skip
def tailC : Nat → Code → Code
  | 0, c => c
  | k + 1, .seq _ b => tailC k b
  | _ + 1, c => c
def segRun (ih : Job → Option Res) (n : Nat) : Nat → Code → Fs → Option Fs
  | 0, _, s => some s
  | k + 1, .seq a b, s => match ih (.code a n 0 none s) with
    | some (.code .normal s1) => segRun ih n k b s1
    | _ => none
  | _ + 1, _, _ => none
def isSeg (r : Option Fs) : Bool :=
  match r with
  | some s => s.ds.isEmpty
  | none => false
def anyFr : Nat → Fr
  | 0 => .nil
  | n + 1 => Tr.set (anyFr n) n anyV
def anyS (n : Nat) : Fs := { fr := anyFr n, ds := [], h := ⟨.nil, 0⟩ }
theorem anyFr_at (n t : Nat) : (anyFr n).at t = if t < n then anyV else undef := by
  induction n with
  | zero => rfl
  | succ n ih =>
    unfold Fr.at at ih ⊢
    rw [anyFr, Tr.get_set]
    by_cases h : t = n
    · subst h; simp
    · rw [if_neg h, ih]
      by_cases h2 : t < n
      · rw [if_pos h2, if_pos (by omega)]
      · rw [if_neg h2, if_neg (by omega)]
theorem anyS_inv {n : Nat} {a : Act} {w : World} (h1 : a.tmps.size = n) (h2 : a.defers = []) : Inv noRen n (anyS n) a w := by
  refine ⟨⟨fun _ _ _ e => (by cases e), fun _ _ _ e => (by cases e), fun _ _ _ _ _ e => (by cases e)⟩, ⟨h1, fun t ht => ?_⟩, ?_⟩
  · have e : (anyS n).fr.at t = if t < n then anyV else undef := anyFr_at n t
    rw [e] at ht ⊢
    by_cases h : t < n
    · rw [if_pos h] at ht; cases ht
    · rw [if_neg h, Array.getD_eq_getD_getElem?, Array.getElem?_eq_none (by omega)]
      exact VR.undef _
  · rw [h2]; exact .nil
variable {X : Ctx} {k : Nat}
theorem segRun_sound {ih : Job → Option Res} (HI : ∀ j r, ih j = some r → JobOK X j r) {n : Nat} {Q : Exit → Act → World → Prop} : ∀ (m : Nat) (c : Code) (s s' : Fs), segRun ih n m c s = some s' → ∀ (ρ : Ren) (a : Act) (w : World), Inv ρ n s a w →
    (∀ ρ' a' w', Inv ρ' n s' a' w' → Stp 0 ρ s.h w ρ' s'.h w' → (tailC m c).wpIn Fence.wide 0 X.P Q a' w') → c.wpIn Fence.wide 0 X.P Q a w := by
  intro m
  induction m with
  | zero => intro c s s' h ρ a w hi hk; cases h; exact hk ρ a w hi (Stp.refl _ _ _ _)
  | succ m ihm =>
    intro c s s' h ρ a w hi hk
    cases c with
    | seq x y =>
      simp only [segRun] at h
      split at h
      · rename_i s1 h1
        refine wpIn_seq (wpIn_mono (HI _ _ h1 ρ a w Fence.wide (Nat.zero_le _) hi rfl) ?_)
        rintro e' a' w' ⟨ρ', he, hi', hst⟩
        cases he
        exact ihm y s1 s' h ρ' a' w' hi' fun ρ2 a2 w2 hi2 hst2 => hk ρ2 a2 w2 hi2 (hst.trans hi.rel.lt hst2)
      · cases h
    | _ => cases h
inductive Cuts (X : Ctx) (fn : Func) : Code → Prop
  | last {c : Code} {k : Nat} (h : isTrue (cRes (fun e s => match xPM e with
      | some pm => ev (cfg X fun _ => false) k (.leave fn 0 pm s)
      | none => none) (ev (cfg X fun _ => false) k (.code c fn.ntmps 0 none (anyS fn.ntmps)))) = true) : Cuts X fn c
  | seg {c : Code} {k : Nat} (m : Nat) (h : isSeg (segRun (ev (cfg X fun _ => false) k) fn.ntmps m c (anyS fn.ntmps)) = true) (t : Cuts X fn (tailC m c)) : Cuts X fn c
theorem stp_below {ρ ρ' : Ren} {h' : H} {w w' : World} {h : H} (hρ : ρ = noRen) (st : Stp 0 ρ h w ρ' h' w') : Below w.heap.size w w' := by
  subst hρ
  exact st.below fun i b d _ e => by cases e
theorem Cuts.sound {fn : Func} (hm : X.P.follows .mixedOrders = true) {c : Code} (h : Cuts X fn c) : ∀ (a : Act) (w w0 : World), a.tmps.size = fn.ntmps → a.defers = [] → Below w0.heap.size w0 w →
    c.wpIn Fence.wide 0 X.P (bodyPostM Fence.wide 0 X.P fn (fun e w' => e = .returned (.bool true) ∧ Below w0.heap.size w0 w')) a w := by
  induction h with
  | last h =>
    intro a w w0 h1 h2 hb
    rename_i k
    obtain ⟨h', hc⟩ := isTrue_some h
    obtain ⟨e, s1, ha, hk⟩ := cRes_eq hc
    have ka := run_sound (X := X) (pur := fun _ => false) hm k _ _ ha
    split at hk
    · rename_i pm hpm
      have hj := run_sound (X := X) (pur := fun _ => false) hm k _ _ hk
      refine wpIn_mono (ka noRen a w Fence.wide (Nat.zero_le _) (anyS_inv h1 h2) rfl) ?_
      rintro e' a' w' ⟨ρ', he, hi', hst⟩
      have fin : ∀ e2 w2, PostF 0 ρ' s1.h w' (.ret (.bool true)) h' e2 w2 → e2 = .returned (.bool true) ∧ Below w0.heap.size w0 w2 := by
        rintro e2 w2 ⟨ρ2, hr, hrel, hst2⟩
        have hi0 := (anyS_inv (n := fn.ntmps) (w := w) h1 h2).rel.lt
        have hbb := stp_below rfl (hst.trans hi0 hst2)
        refine ⟨?_, hb.trans (hbb.mono hb.size)⟩
        cases hr with
        | ret hv => cases hv; rfl
      cases he with
      | normal => cases hpm; exact hj ρ' _ a' .returning w' _ (Nat.zero_le _) hi' .ret fin
      | ret => cases hpm; exact hj ρ' _ a' .returning w' _ (Nat.zero_le _) hi' .ret fin
      | panic hv' => cases hpm; exact hj ρ' _ a' _ w' _ (Nat.zero_le _) hi' (.pan hv') fin
      | exit id => cases hpm
      | goto l => cases hpm
    · cases hk
  | seg m h t iht =>
    intro a w w0 h1 h2 hb
    rename_i c k
    unfold isSeg at h
    split at h
    · rename_i s' hs
      refine segRun_sound (run_sound (X := X) (pur := fun _ => false) hm k) m c _ s' hs noRen a w (anyS_inv h1 h2) fun ρ' a' w' hi' hst => ?_
      refine iht a' w' w0 hi'.fr.size ?_ (hb.trans ((stp_below rfl hst).mono hb.size))
      have hd := hi'.ds
      have : s'.ds = [] := by cases e : s'.ds with | nil => rfl | cons _ _ => rw [e] at h; cases h
      rw [this] at hd
      generalize a'.defers = l at hd
      cases hd; rfl
    · cases h
end Go.Proofs.Ytekpjgmhkkjhgaa
end
end
section
noncomputable section
namespace Go.Proofs.Ytekpjgmhkkjhgaa
open Go.Abs Go.RowKit
set_option maxRecDepth 100000 in
theorem works_run : isTrue (ev C0 3000 (.call 14 #[] 0 ⟨.nil, 0⟩)) = true := by kernel_rfl
theorem works_true (w : World) : Calls Try.prog 14 #[] w fun e w' => e = .returned (.bool true) ∧ Below w.heap.size w w' := closed_true XX rfl works_run w
noncomputable def XW : Ctx := { XX with
  orc := fun f => bif Nat.beq f 14 then some (.bool true) else none
  orcOK := fun f v h => by
    cases hb : Nat.beq f 14 <;> rw [hb] at h
    · cases h
    · cases h
      rw [Nat.eq_of_beq_eq_true hb]
      exact ⟨rfl, fun w => callsIn_wide.2 (works_true w)⟩ }
end Go.Proofs.Ytekpjgmhkkjhgaa
end
end
section
noncomputable section
namespace Go.Proofs.Ytekpjgmhkkjhgaa
open Go.Abs Go.Lf
theorem f14_ok {h : H} {r : Bool} (hL : f14L = some r) : Pure XX 14 #[] h (.bool r) := by
  cases hL
  intro wm
  have e : ev (cfg XW fun _ => false) 1 (.call 14 #[] wm h) = some (.fin (.ret (.bool true)) h) := rfl
  exact run_sound (X := XW) mixed 1 _ _ e
end Go.Proofs.Ytekpjgmhkkjhgaa
end
end
section
set_option linter.unusedVariables false
set_option linter.unusedSimpArgs false
namespace Go.Proofs.Ytekpjgmhkkjhgaa
open Go.Lf
def f54_j0 (v72 : Int) (next84 : (Int → Option Bool)) : Unit → Option Bool := fun _ =>
  next84 (w64 (v72 + 1))
def f54_b2 (x33 : Store) (x53 : ((List (Arr2Int × Int)) × (List (Arr2Int × Int)))) (v72 : Int) (next84 : (Int → Option Bool)) : Int → (Int → Option Bool) → Option Bool := fun v127 next139 =>
  (bif decide (v127 < x33.machines) then (pget x53.1 (Arr2Int.mk v127 v72) 0).bind fun x147 => (pget x53.2 (Arr2Int.mk v127 v72) 0).bind fun x148 => (gd (!(x147 != x148)) (pget x53.1 (Arr2Int.mk v127 v72) 0) default).bind fun x149 => (bif ((x147 != x148) || (decide (x149 > 1000000))) then some false else next139 (w64 (v127 + 1))) else (f54_j0 v72 next84) ())
def f54_b1 (F : Nat) (x33 : Store) (x53 : ((List (Arr2Int × Int)) × (List (Arr2Int × Int)))) : Int → (Int → Option Bool) → Option Bool := fun v72 next84 =>
  (bif decide (v72 < x33.names) then (f89L F x33 v72).bind fun x102 => (bif (!x102) then (f54_j0 v72 next84) () else (f90L F x33 v72).bind fun x103 => (gd (!((x103.length : Int) != 1)) (geti x103 0) default).bind fun x114 => (gd (!((x103.length : Int) != 1)) (f91L F x33 v72 x114) default).bind fun x117 => (bif (((x103.length : Int) != 1) || (!x117)) then some false else loop F (f54_b2 x33 x53 v72 next84) 0)) else some true)
def f54_b0 (F : Nat) (p0 : WeighWorld) : Int → (Int → Option Bool) → Option Bool := fun v15 next21 =>
  (bif decide (v15 < (p0.freed.length : Int)) then (geti p0.freed v15).bind fun x22 => (gd ((!((decide (x22 < 0)) || (decide (x22 ≥ p0.names)))) && (decide (v15 > 0))) (geti p0.freed (w64 (v15 - 1))) default).bind fun x25 => (bif (((decide (x22 < 0)) || (decide (x22 ≥ p0.names))) || ((decide (v15 > 0)) && (decide (x22 ≤ x25)))) then some false else next21 (w64 (v15 + 1))) else (f88L F (Store.mk (p0.cells.length : Int) p0.names [] [] p0.freed) p0).bind fun x32 => (bif (!x32) then some false else (f56L F p0).bind fun x33 => (f68L F x33).bind fun x53 => loop F (f54_b1 F x33 x53) 0))
def f54L (F : Nat) (p0 : WeighWorld) : Option Bool :=
  (bif ((((((decide ((p0.cells.length : Int) < 1)) || (decide ((p0.cells.length : Int) > 6))) || (decide (p0.names < 0))) || (decide (p0.names > 12))) || (decide ((p0.notes.length : Int) > 80))) || (decide ((p0.freed.length : Int) > p0.names))) then some false else loop F (f54_b0 F p0) 0)
def f25_j0 (v77 : Int) (next87 : ((List WeighSum) × Int → Option ((List WeighSum) × Int))) : (List WeighSum) → Option ((List WeighSum) × Int) := fun v93 =>
  next87 (v93, w64 (v77 + 1))
def f25_b1 (p0 : WeighWorld) (x30 : ((List (Arr2Int × Int)) × (List (Arr2Int × Int)))) (v53 : Int) (next63 : ((List WeighSum) × Int → Option ((List WeighSum) × Int))) : (List WeighSum) × Int → ((List WeighSum) × Int → Option ((List WeighSum) × Int)) → Option ((List WeighSum) × Int) := fun (v69, v77) next87 =>
  (bif decide (v77 < p0.names) then (pget x30.1 (Arr2Int.mk v53 v77) 0).bind fun x117 => (gd (!(x117 != 0)) (pget x30.2 (Arr2Int.mk v53 v77) 0) default).bind fun x118 => (bif ((x117 != 0) || (x118 != 0)) then (pget x30.1 (Arr2Int.mk v53 v77) 0).bind fun x119 => (pget x30.2 (Arr2Int.mk v53 v77) 0).bind fun x120 => (app 32 v69 [(WeighSum.mk v53 v77 x119 x120)]).bind fun z125 => (f25_j0 v77 next87) z125 else (f25_j0 v77 next87) v69) else next63 (v69, w64 (v53 + 1)))
def f25_b0 (F : Nat) (p0 : WeighWorld) (x30 : ((List (Arr2Int × Int)) × (List (Arr2Int × Int)))) : (List WeighSum) × Int → ((List WeighSum) × Int → Option ((List WeighSum) × Int)) → Option ((List WeighSum) × Int) := fun (v48, v53) next63 =>
  (bif decide (v53 < (p0.cells.length : Int)) then loop F (f25_b1 p0 x30 v53 next63) (v48, 0) else some (v48, 0))
def f25L (F : Nat) (p0 : WeighWorld) : Option ((List WeighSum) × Int) :=
  (f54L F p0).bind fun x10 => (bif (!x10) then some ([], 2) else (f56L F p0).bind fun x11 => (f68L F x11).bind fun x30 => loop F (f25_b0 F p0 x30) ([], 0))
def f27_y0 (p1 : Int) : Int → WeighCell → ((List Int)) → Option ((List Int)) := fun x106 x107 v75 =>
  (bif ((x107.name == p1) && x107.use) then (app 8 v75 [x106]).bind fun z129 => some z129 else some v75)
def f27_j0 (v160 : Int) (next169 : ((List Int) × Int → Option ((List Int) × (List Int) × Int))) : (List Int) → Option ((List Int) × (List Int) × Int) := fun v174 =>
  next169 (v174, w64 (v160 + 1))
def f27_b0 (p0 : WeighWorld) (p1 : Int) (v75 : (List Int)) : (List Int) × Int → ((List Int) × Int → Option ((List Int) × (List Int) × Int)) → Option ((List Int) × (List Int) × Int) := fun (v154, v160) next169 =>
  (bif decide (v160 < (p0.notes.length : Int)) then (geti p0.notes v160).bind fun x188 => (bif ((x188.kind == 1) && (x188.name == p1)) then (app 8 v154 [v160]).bind fun z204 => (f27_j0 v160 next169) z204 else (f27_j0 v160 next169) v154) else some (v75, v154, 0))
def f27L (F : Nat) (p0 : WeighWorld) (p1 : Int) : Option ((List Int) × (List Int) × Int) :=
  (f54L F p0).bind fun x19 => (bif (((!x19) || (decide (p1 < 0))) || (decide (p1 ≥ p0.names))) then some ([], [], 2) else (f56L F p0).bind fun x23 => (f110L F x23 (f27_y0 p1) []).bind fun v75 => loop F (f27_b0 p0 p1 v75) ([], 0))
def f5L (F : Nat) (p0 : WeighWorld) (p1 : Int) : Option Bool :=
  (f13L F p0).bind fun x10 => (bif x10 then (f14L ).bind fun x11 => some x11 else (f25L F p0).bind fun x12 => (f26L F p0).bind fun x21 => (f27L F p0 p1).bind fun x31 => (f28L F p0 p1).bind fun x48 => (f29L F x12.1 x21.1).bind fun x69 => (gd (x69 && (x12.2 == x21.2)) (f30L F x31.1 x48.1) default).bind fun x70 => (gd ((x69 && (x12.2 == x21.2)) && x70) (f30L F x31.2.1 x48.2.1) default).bind fun x71 => (gd ((((x69 && (x12.2 == x21.2)) && x70) && x71) && (x31.2.2 == x48.2.2)) (f14L ) default).bind fun x72 => some (((((x69 && (x12.2 == x21.2)) && x70) && x71) && (x31.2.2 == x48.2.2)) && x72))
end Go.Proofs.Ytekpjgmhkkjhgaa
end
