/- WeighSums returns true, whatever the world and the name. No condition. Part 9 of the proof. -/
import Derived.Test.YtekpjgmhkkjhgaaSa8
section
set_option linter.unusedVariables false
set_option linter.unusedSimpArgs false
set_option maxRecDepth 20000
noncomputable section
namespace Go.Proofs.Ytekpjgmhkkjhgaa
open Go.Abs Go.Lf
theorem f53_wf {wm : Nat} {h : H} {p0 : Int} {p1 : Int} {p2 : Int}  {r : Bool} (hwm : wm ≤ h.size)  (hL : f53L p0 p1 p2 = some r) :
    WR XX 53 #[.int .i64 p0, .int .i64 p1, .int .i64 p2] wm h (fun v _ => v = .bool r) := by
  refine WF.begin (args := [_, _, _]) (fn := Try.f53) (by kernel_rfl) (by exact rfl) Try.ntmps53 (by simp) ?_
  simp only [frameOf_cons, frameOf_nil, Nat.reduceAdd]
  have hG : Grow h h := Grow.refl h
  unfold f53L at hL
  refine WC.seq ?_
  refine WC.region ?_
  refine WO.as gN rfl (evC rfl) ?_
  refine WO.nil ?_
  refine SeqK.nrm ?_
  refine WC.seq ?_
  refine WC.region ?_
  refine WO.mv gN rfl (evT (fs2 rfl (fskip rfl fh)) rfl) ?_
  refine WO.mv gN rfl (evT (fs2 rfl (fskip rfl fh)) rfl) ?_
  refine WO.bin gN rfl (evT (fskip rfl fh) rfl) (evT fh rfl) abin_geq ?_
  refine WO.mv gN rfl (evT fh rfl) ?_
  refine WO.gmv (GuardIs.yes rfl rfl rfl fh) rfl (fun hg => (evT (fs4 rfl (fs2 rfl (fskip rfl fh))) rfl)) ?_
  refine WO.gmv (GuardIs.yes rfl rfl rfl (fskip rfl fh)) rfl (fun hg => (evT (fs4 rfl (fs2 rfl fh)) rfl)) ?_
  refine WO.gbin (GuardIs.yes rfl rfl rfl (fs2 rfl fh)) rfl (fun hg => (evG (fskip rfl fh) rfl hg)) (fun hg => (evG fh rfl hg)) (fun hg => abin_leq) ?_
  refine WO.pand gN rfl (evT (fs2 rfl (fskip rfl fh)) rfl) (evGU fh) (evC rfl) ?_
  refine WO.as gN rfl (evT fh rfl) ?_
  refine WO.nil ?_
  refine SeqK.nrm ?_
  refine WC.ret ?_
  have hr := Option.some.inj hL
  subst hr
  exact RetK.gen1 rfl (ares_tmp (evT fh rfl) ares_nil) rfl
theorem f53_ok {h : H} {p0 : Int} {p1 : Int} {p2 : Int}  {r : Bool}  (hL : f53L p0 p1 p2 = some r) : Pure XX 53 #[.int .i64 p0, .int .i64 p1, .int .i64 p2] h (.bool r) :=
  WF.pureR rfl (f53_wf (Nat.le_refl _)  hL)
theorem f61_wf {F : Nat} {wm : Nat} {h : H} {p0 : (List Int)} {p1 : Int} {a1 : Option Addr} {c2 : Nat} {r : Bool} (hwm : wm ≤ h.size) (hsa1 : Sl (rInt .i64) wm h a1 c2 p0) (hL : f61L F p0 p1 = some r) :
    WR XX 61 #[.slice a1 p0.length c2, .int .i64 p1] wm h (fun v _ => v = .bool r) := by
  refine WF.begin (args := [_, _]) (fn := Try.f61) (by kernel_rfl) (by exact rfl) Try.ntmps61 (by simp) ?_
  simp only [frameOf_cons, frameOf_nil, Nat.reduceAdd]
  have hG : Grow h h := Grow.refl h
  unfold f61L at hL
  refine WC.seq ?_
  refine WC.region ?_
  refine WO.as gN rfl (evC rfl) ?_
  refine WO.nil ?_
  refine SeqK.nrm ?_
  refine WC.seq ?_
  refine WC.seq ?_
  refine WC.region ?_
  refine WO.as gN rfl (evC rfl) ?_
  refine WO.nil ?_
  refine SeqK.nrm ?_
  refine WC.block ?_
  refine WC.loop (WL.lift hL (fun (v7 : Int) (s : Fs) => ∃ (fr4 : Fr) (h3 : H), s = ⟨fr4, [], h3, none⟩ ∧ Grow h h3 ∧ fr4.at 0 = .slice a1 p0.length c2 ∧ fr4.at 1 = .int .i64 p1 ∧ fr4.at 5 = .int .i64 v7 ∧ Sl (rInt .i64) wm h3 a1 c2 p0) ⟨_, _, rfl, hG, (fs2 rfl (fskip rfl fh)), (fs2 rfl fh), fh, hsa1⟩ ?_)
  clear hL
  rintro next10 v7 s hnext10 hL ⟨fr4, h3, rfl, hG, e5, e6, e8, hs9⟩
  dsimp only [f61_b0] at hL
  refine WC.seq ?_
  refine WC.seq ?_
  refine WC.region ?_
  refine WO.mv gN rfl (evT e8 rfl) ?_
  refine WO.mv gN rfl (evT (fskip rfl e5) rfl) ?_
  refine WO.len gN rfl und24 (evT fh rfl) ?_
  refine WO.bin gN rfl (evT (fs2 rfl fh) rfl) (evT fh rfl) abin_lss ?_
  refine WO.nil ?_
  refine SeqK.nrm ?_
  refine WC.condN (evT fh rfl) (fun hc => ?_) (fun hc => ?_)
  · replace hL := cond_tt hc hL
    refine WC.skip ?_
    refine SeqK.nrm ?_
    refine WC.seq ?_
    refine WC.block ?_
    refine WC.seq ?_
    refine WC.region ?_
    refine WO.mv gN rfl (evT (fs4 rfl e5) rfl) ?_
    refine WO.mv gN rfl (evT (fs4 rfl (fskip rfl e8)) rfl) ?_
    obtain ⟨x11, hx11, hL⟩ := bind_some hL
    obtain ⟨b12, o13, _, hab12, hAb12, hSb12, hFb12⟩ := Sl.at_ hs9 hx11
    refine WO.ix gN rfl und24 size3 (evT (fskip rfl fh) rfl) (evT fh rfl) hab12 hx11 ?_
    refine WO.ld gN rfl agg3 (evT fh rfl) hAb12 (j := 0) rfl (v := .int .i64 x11) rfl ?_
    refine WO.mv gN rfl (evT (fs8 rfl e6) rfl) ?_
    refine WO.bin gN rfl (evT (fskip rfl fh) rfl) (evT fh rfl) abin_eql ?_
    refine WO.nil ?_
    refine SeqK.nrm ?_
    refine WC.condN (evT fh rfl) (fun hc => ?_) (fun hc => ?_)
    · replace hL := cond_tt hc hL
      refine WC.seq ?_
      refine WC.region ?_
      refine WO.as gN rfl (evC rfl) ?_
      refine WO.nil ?_
      refine SeqK.nrm ?_
      refine WC.ret ?_
      refine BlkK.ret ?_
      refine SeqK.ret ?_
      refine LoopK.ret ?_
      refine BlkK.ret ?_
      refine SeqK.ret ?_
      have hr := Option.some.inj hL
      subst hr
      exact RetK.gen1 rfl (ares_tmp (evT fh rfl) ares_nil) rfl
    · replace hL := cond_ff hc hL
      refine WC.skip ?_
      refine BlkK.nrm ?_
      refine SeqK.nrm ?_
      refine WC.region ?_
      refine WO.mv gN rfl (evT (fs8 rfl (fs2 rfl e8)) rfl) ?_
      refine WO.bin gN rfl (evT fh rfl) (evC rfl) abin_addw ?_
      refine WO.as gN rfl (evT fh rfl) ?_
      refine WO.nil ?_
      exact LoopK.nrm (hnext10 _ _ hL ⟨_, _, rfl, hG, (fs8 rfl (fs4 rfl (fskip rfl e5))), (fs8 rfl (fs4 rfl (fskip rfl e6))), fh, hs9⟩)
  · replace hL := cond_ff hc hL
    refine WC.exit ?_
    refine SeqK.exit ?_
    refine LoopK.exit ?_
    refine BlkK.here ?_
    refine SeqK.nrm ?_
    refine WC.seq ?_
    refine WC.region ?_
    refine WO.as gN rfl (evC rfl) ?_
    refine WO.nil ?_
    refine SeqK.nrm ?_
    refine WC.ret ?_
    have hr := Option.some.inj hL
    subst hr
    exact RetK.gen1 rfl (ares_tmp (evT fh rfl) ares_nil) rfl
theorem f61_ok {F : Nat} {h : H} {p0 : (List Int)} {p1 : Int} {a1 : Option Addr} {c2 : Nat} {r : Bool} (hsa1 : Sl (rInt .i64) h.size h a1 c2 p0) (hL : f61L F p0 p1 = some r) : Pure XX 61 #[.slice a1 p0.length c2, .int .i64 p1] h (.bool r) :=
  WF.pureR rfl (f61_wf (Nat.le_refl _) hsa1 hL)
theorem f72_wf {F : Nat} {wm : Nat} {h : H} {p0 : WeighWorld} {p1 : Int} {p2 : Int} {a1 : Option Addr} {c2 : Nat} {a3 : Option Addr} {c4 : Nat} {a5 : Option Addr} {c6 : Nat} {r : Int} (hwm : wm ≤ h.size) (hsa1 : Sl (rSl rWeighCell) wm h a1 c2 p0.cells) (hsa3 : Sl rWeighNote wm h a3 c4 p0.notes) (hsa5 : Sl (rInt .i64) wm h a5 c6 p0.freed) (hL : f72L F p0 p1 p2 = some r) :
    WR XX 72 #[.agg [.slice a1 p0.cells.length c2, .slice a3 p0.notes.length c4, .int .i64 p0.names, .slice a5 p0.freed.length c6].toArray, .int .i64 p1, .int .i64 p2] wm h (fun v _ => v = .int .i64 r) := by
  refine WF.begin (args := [_, _, _]) (fn := Try.f72) (by kernel_rfl) (by exact rfl) Try.ntmps72 (by simp) ?_
  simp only [frameOf_cons, frameOf_nil, Nat.reduceAdd]
  have hG : Grow h h := Grow.refl h
  unfold f72L at hL
  refine WC.seq ?_
  refine WC.region ?_
  refine WO.boxN h.size gN rfl (evT (fs2 rfl fh) rfl) (vs := [.slice a1 p0.cells.length c2, .slice a3 p0.notes.length c4, .int .i64 p0.names, .slice a5 p0.freed.length c6]) rfl (fun h7 u8 hb9 => ?_)
  have whb9 : h.size ≤ h.size := hG.size
  have hsa1 := hsa1.mono (u8.fz hwm)
  have hsa3 := hsa3.mono (u8.fz hwm)
  have hsa5 := hsa5.mono (u8.fz hwm)
  have hG := u8.grow hG (Nat.le_refl _)
  refine WO.as gN rfl (evC rfl) ?_
  refine WO.nil ?_
  refine SeqK.nrm ?_
  refine WC.seq ?_
  refine WC.seq ?_
  refine WC.region ?_
  refine WO.as gN rfl (evC rfl) ?_
  refine WO.nil ?_
  refine SeqK.nrm ?_
  refine WC.block ?_
  refine WC.loop (WL.lift hL (fun (v15 : Int) (s : Fs) => ∃ (fr11 : Fr) (h10 : H), s = ⟨fr11, [], h10, none⟩ ∧ Grow h h10 ∧ fr11.at 1 = .int .i64 p1 ∧ fr11.at 2 = .int .i64 p2 ∧ fr11.at 3 = .pointer (some ⟨h.size, 0, none⟩) ∧ fr11.at 7 = .int .i64 v15 ∧ h10.at (h.size) = .row [.slice a1 p0.cells.length c2, .slice a3 p0.notes.length c4, .int .i64 p0.names, .slice a5 p0.freed.length c6] true 0 ∧ Sl (rSl rWeighCell) wm h10 a1 c2 p0.cells ∧ Sl rWeighNote wm h10 a3 c4 p0.notes ∧ Sl (rInt .i64) wm h10 a5 c6 p0.freed) ⟨_, _, rfl, hG, (fs4 rfl fh), (fs2 rfl (fskip rfl fh)), (fs2 rfl fh), fh, hb9, hsa1, hsa3, hsa5⟩ ?_)
  clear hL
  rintro next21 v15 s hnext21 hL ⟨fr11, h10, rfl, hG, e12, e13, e14, e16, hb17, hs18, hs19, hs20⟩
  dsimp only [f72_b0] at hL
  refine WC.seq ?_
  refine WC.seq ?_
  refine WC.region ?_
  refine WO.mv gN rfl (evT e16 rfl) ?_
  refine WO.fld gN rfl fld26_0 (evT (fskip rfl e14) rfl) ?_
  refine WO.ld gN rfl agg22 (evT fh rfl) (At.box hb17) (j := 0) rfl (v := .slice a1 p0.cells.length c2) rfl ?_
  refine WO.mv gN rfl (evT (fs2 rfl (fskip rfl e12)) rfl) ?_
  obtain ⟨x22, hx22, hL⟩ := bind_some hL
  obtain ⟨b23, o24, ⟨a25, c26⟩, hab23, hAb23, hSb23, hFb23⟩ := Sl.at_ hs18 hx22
  refine WO.ix gN rfl und22 size59 (evT (fskip rfl fh) rfl) (evT fh rfl) hab23 hx22 ?_
  have hsa25 : Sl rWeighCell wm h10 a25 c26 x22 := hFb23
  refine WO.ld gN rfl agg59 (evT fh rfl) hAb23 (j := 0) rfl (v := .slice a25 x22.length c26) rfl ?_
  refine WO.len gN rfl und59 (evT fh rfl) ?_
  refine WO.bin gN rfl (evT (fs4 rfl (fs2 rfl fh)) rfl) (evT fh rfl) abin_lss ?_
  refine WO.nil ?_
  refine SeqK.nrm ?_
  refine WC.condN (evT fh rfl) (fun hc => ?_) (fun hc => ?_)
  · replace hL := cond_tt hc hL
    refine WC.skip ?_
    refine SeqK.nrm ?_
    refine WC.seq ?_
    refine WC.block ?_
    refine WC.seq ?_
    refine WC.region ?_
    refine WO.fld gN rfl fld26_0 (evT (fs8 rfl e14) rfl) ?_
    refine WO.ld gN rfl agg22 (evT fh rfl) (At.box hb17) (j := 0) rfl (v := .slice a1 p0.cells.length c2) rfl ?_
    refine WO.mv gN rfl (evT (fs8 rfl (fs2 rfl e12)) rfl) ?_
    obtain ⟨x27, hx27, hL⟩ := bind_some hL
    obtain ⟨b28, o29, ⟨a30, c31⟩, hab28, hAb28, hSb28, hFb28⟩ := Sl.at_ hs18 hx27
    refine WO.ix gN rfl und22 size59 (evT (fskip rfl fh) rfl) (evT fh rfl) hab28 hx27 ?_
    have hsa30 : Sl rWeighCell wm h10 a30 c31 x27 := hFb28
    refine WO.ld gN rfl agg59 (evT fh rfl) hAb28 (j := 0) rfl (v := .slice a30 x27.length c31) rfl ?_
    refine WO.mv gN rfl (evT (fs8 rfl (fs4 rfl (fskip rfl e16))) rfl) ?_
    obtain ⟨x32, hx32, hL⟩ := bind_some hL
    obtain ⟨b33, o34, _, hab33, hAb33, hSb33, hFb33⟩ := Sl.at_ hsa30 hx32
    refine WO.ix gN rfl und59 size61 (evT (fskip rfl fh) rfl) (evT fh rfl) hab33 hx32 ?_
    refine WO.fld gN rfl fld61_0 (evT fh rfl) ?_
    refine WO.ld gN rfl agg3 (evT fh rfl) hAb33 (j := 0) rfl (v := .int .i64 x32.name) rfl ?_
    refine WO.mv gN rfl (evT (fs8 rfl (fs8 rfl (fskip rfl e13))) rfl) ?_
    refine WO.bin gN rfl (evT (fskip rfl fh) rfl) (evT fh rfl) abin_eql ?_
    refine WO.nil ?_
    refine SeqK.nrm ?_
    refine WC.condN (evT fh rfl) (fun hc => ?_) (fun hc => ?_)
    · replace hL := cond_tt hc hL
      refine WC.seq ?_
      refine WC.region ?_
      refine WO.mv gN rfl (evT (fs8 rfl (fs8 rfl (fs2 rfl (fskip rfl e16)))) rfl) ?_
      refine WO.as gN rfl (evT fh rfl) ?_
      refine WO.nil ?_
      refine SeqK.nrm ?_
      refine WC.ret ?_
      refine BlkK.ret ?_
      refine SeqK.ret ?_
      refine LoopK.ret ?_
      refine BlkK.ret ?_
      refine SeqK.ret ?_
      have hr := Option.some.inj hL
      subst hr
      exact RetK.gen1 rfl (ares_tmp (evT fh rfl) ares_nil) rfl
    · replace hL := cond_ff hc hL
      refine WC.skip ?_
      refine BlkK.nrm ?_
      refine SeqK.nrm ?_
      refine WC.region ?_
      refine WO.mv gN rfl (evT (fs8 rfl (fs8 rfl (fs2 rfl (fskip rfl e16)))) rfl) ?_
      refine WO.bin gN rfl (evT fh rfl) (evC rfl) abin_addw ?_
      refine WO.as gN rfl (evT fh rfl) ?_
      refine WO.nil ?_
      exact LoopK.nrm (hnext21 _ _ hL ⟨_, _, rfl, hG, (fs8 rfl (fs8 rfl (fs4 rfl (fs2 rfl e12)))), (fs8 rfl (fs8 rfl (fs4 rfl (fs2 rfl e13)))), (fs8 rfl (fs8 rfl (fs4 rfl (fs2 rfl e14)))), fh, hb17, hs18, hs19, hs20⟩)
  · replace hL := cond_ff hc hL
    refine WC.exit ?_
    refine SeqK.exit ?_
    refine LoopK.exit ?_
    refine BlkK.here ?_
    refine SeqK.nrm ?_
    refine WC.seq ?_
    refine WC.region ?_
    refine WO.as gN rfl (evC rfl) ?_
    refine WO.nil ?_
    refine SeqK.nrm ?_
    refine WC.ret ?_
    have hr := Option.some.inj hL
    subst hr
    exact RetK.gen1 rfl (ares_tmp (evT fh rfl) ares_nil) rfl
theorem f72_ok {F : Nat} {h : H} {p0 : WeighWorld} {p1 : Int} {p2 : Int} {a1 : Option Addr} {c2 : Nat} {a3 : Option Addr} {c4 : Nat} {a5 : Option Addr} {c6 : Nat} {r : Int} (hsa1 : Sl (rSl rWeighCell) h.size h a1 c2 p0.cells) (hsa3 : Sl rWeighNote h.size h a3 c4 p0.notes) (hsa5 : Sl (rInt .i64) h.size h a5 c6 p0.freed) (hL : f72L F p0 p1 p2 = some r) : Pure XX 72 #[.agg [.slice a1 p0.cells.length c2, .slice a3 p0.notes.length c4, .int .i64 p0.names, .slice a5 p0.freed.length c6].toArray, .int .i64 p1, .int .i64 p2] h (.int .i64 r) :=
  WF.pureR rfl (f72_wf (Nat.le_refl _) hsa1 hsa3 hsa5 hL)
theorem f100_wf {F : Nat} {wm : Nat} {h : H} {p0 : WeighWorld} {p1 : Int} {p2 : Int} {a1 : Option Addr} {c2 : Nat} {a3 : Option Addr} {c4 : Nat} {a5 : Option Addr} {c6 : Nat} {r : Int} (hwm : wm ≤ h.size) (hsa1 : Sl (rSl rWeighCell) wm h a1 c2 p0.cells) (hsa3 : Sl rWeighNote wm h a3 c4 p0.notes) (hsa5 : Sl (rInt .i64) wm h a5 c6 p0.freed) (hL : f100L F p0 p1 p2 = some r) :
    WR XX 100 #[.agg [.slice a1 p0.cells.length c2, .slice a3 p0.notes.length c4, .int .i64 p0.names, .slice a5 p0.freed.length c6].toArray, .int .i64 p1, .int .i64 p2] wm h (fun v _ => v = .int .i64 r) := by
  refine WF.begin (args := [_, _, _]) (fn := Try.f100) (by kernel_rfl) (by exact rfl) Try.ntmps100 (by simp) ?_
  simp only [frameOf_cons, frameOf_nil, Nat.reduceAdd]
  have hG : Grow h h := Grow.refl h
  unfold f100L at hL
  refine WC.seq ?_
  refine WC.region ?_
  refine WO.boxN h.size gN rfl (evT (fs2 rfl fh) rfl) (vs := [.slice a1 p0.cells.length c2, .slice a3 p0.notes.length c4, .int .i64 p0.names, .slice a5 p0.freed.length c6]) rfl (fun h7 u8 hb9 => ?_)
  have whb9 : h.size ≤ h.size := hG.size
  have hsa1 := hsa1.mono (u8.fz hwm)
  have hsa3 := hsa3.mono (u8.fz hwm)
  have hsa5 := hsa5.mono (u8.fz hwm)
  have hG := u8.grow hG (Nat.le_refl _)
  refine WO.as gN rfl (evC rfl) ?_
  refine WO.nil ?_
  refine SeqK.nrm ?_
  refine WC.seq ?_
  refine WC.region ?_
  refine WO.as gN rfl (evC rfl) ?_
  refine WO.nil ?_
  refine SeqK.nrm ?_
  refine WC.seq ?_
  refine WC.seq ?_
  refine WC.region ?_
  refine WO.as gN rfl (evC rfl) ?_
  refine WO.nil ?_
  refine SeqK.nrm ?_
  refine WC.block ?_
  refine WC.loop (WL.lift hL (fun (p : Int × Int) (s : Fs) => match p with | (v15, v17) => ∃ (fr11 : Fr) (h10 : H), s = ⟨fr11, [], h10, none⟩ ∧ Grow h h10 ∧ fr11.at 1 = .int .i64 p1 ∧ fr11.at 2 = .int .i64 p2 ∧ fr11.at 3 = .pointer (some ⟨h.size, 0, none⟩) ∧ fr11.at 7 = .int .i64 v15 ∧ fr11.at 8 = .int .i64 v17 ∧ h10.at (h.size) = .row [.slice a1 p0.cells.length c2, .slice a3 p0.notes.length c4, .int .i64 p0.names, .slice a5 p0.freed.length c6] true 0 ∧ Sl (rSl rWeighCell) wm h10 a1 c2 p0.cells ∧ Sl rWeighNote wm h10 a3 c4 p0.notes ∧ Sl (rInt .i64) wm h10 a5 c6 p0.freed) ⟨_, _, rfl, hG, (fs4 rfl (fskip rfl fh)), (fs4 rfl fh), (fs2 rfl (fskip rfl fh)), (fskip rfl fh), fh, hb9, hsa1, hsa3, hsa5⟩ ?_)
  clear hL
  rintro next23 ⟨v15, v17⟩ s hnext23 hL ⟨fr11, h10, rfl, hG, e12, e13, e14, e16, e18, hb19, hs20, hs21, hs22⟩
  dsimp only [f100_b0] at hL
  refine WC.seq ?_
  refine WC.seq ?_
  refine WC.region ?_
  refine WO.mv gN rfl (evT e18 rfl) ?_
  refine WO.fld gN rfl fld26_1 (evT (fskip rfl e14) rfl) ?_
  refine WO.ld gN rfl agg23 (evT fh rfl) (At.box hb19) (j := 1) rfl (v := .slice a3 p0.notes.length c4) rfl ?_
  refine WO.len gN rfl und23 (evT fh rfl) ?_
  refine WO.bin gN rfl (evT (fs2 rfl (fskip rfl fh)) rfl) (evT fh rfl) abin_lss ?_
  refine WO.nil ?_
  refine SeqK.nrm ?_
  refine WC.condN (evT fh rfl) (fun hc => ?_) (fun hc => ?_)
  · replace hL := cond_tt hc hL
    refine WC.skip ?_
    refine SeqK.nrm ?_
    refine WC.seqJ (r := r) (fun (v29 : Int) (s : Fs) => ∃ (fr25 : Fr) (h24 : H), s = ⟨fr25, [], h24, none⟩ ∧ Grow h h24 ∧ fr25.at 1 = .int .i64 p1 ∧ fr25.at 2 = .int .i64 p2 ∧ fr25.at 3 = .pointer (some ⟨h.size, 0, none⟩) ∧ fr25.at 7 = .int .i64 v29 ∧ fr25.at 8 = .int .i64 v17 ∧ h24.at (h.size) = .row [.slice a1 p0.cells.length c2, .slice a3 p0.notes.length c4, .int .i64 p0.names, .slice a5 p0.freed.length c6] true 0 ∧ Sl (rSl rWeighCell) wm h24 a1 c2 p0.cells ∧ Sl rWeighNote wm h24 a3 c4 p0.notes ∧ Sl (rInt .i64) wm h24 a5 c6 p0.freed) (f100_j0 v17 next23) ?_ ?_
    · clear hL
      rintro v29 s hL ⟨fr25, h24, rfl, hG, e26, e27, e28, e30, e31, hb32, hs33, hs34, hs35⟩
      dsimp only [f100_j0] at hL
      refine WC.region ?_
      refine WO.mv gN rfl (evT e31 rfl) ?_
      refine WO.bin gN rfl (evT fh rfl) (evC rfl) abin_addw ?_
      refine WO.as gN rfl (evT fh rfl) ?_
      refine WO.nil ?_
      exact LoopK.nrm (hnext23 _ _ hL ⟨_, _, rfl, hG, (fs2 rfl (fskip rfl e26)), (fs2 rfl (fskip rfl e27)), (fs2 rfl (fskip rfl e28)), (fs2 rfl (fskip rfl e30)), fh, hb32, hs33, hs34, hs35⟩)
    · skip
      refine WC.block ?_
      refine WC.seq ?_
      refine WC.region ?_
      refine WO.fld gN rfl fld26_1 (evT (fs4 rfl (fskip rfl e14)) rfl) ?_
      refine WO.ld gN rfl agg23 (evT fh rfl) (At.box hb19) (j := 1) rfl (v := .slice a3 p0.notes.length c4) rfl ?_
      refine WO.mv gN rfl (evT (fs4 rfl (fs2 rfl (fskip rfl e18))) rfl) ?_
      obtain ⟨x36, hx36, hL⟩ := bind_some hL
      obtain ⟨b37, o38, _, hab37, hAb37, hSb37, hFb37⟩ := Sl.at_ hs21 hx36
      refine WO.ix gN rfl und23 size58 (evT (fskip rfl fh) rfl) (evT fh rfl) hab37 hx36 ?_
      refine WO.ldA gN rfl agg58 size58 (evT fh rfl) hAb37 (j := 0) rfl rfl (ws := [.int .i64 x36.kind, .int .i64 x36.to_, .int .i64 x36.name, .int .i64 x36.via, .int .i64 x36.w]) rfl ?_
      refine WO.alcN h.size gN rfl zero58 (vs := [.int .i64 0, .int .i64 0, .int .i64 0, .int .i64 0, .int .i64 0]) rfl (fun h39 u40 hb41 => ?_)
      have whb41 : h.size ≤ h10.size := hG.size
      have ne42 := Nat.ne_of_lt (live_lt hb19 rfl)
      have hb19 := u40.row (fun z => z) hb19
      have hs20 := hs20.mono (u40.fz hwm)
      have hs21 := hs21.mono (u40.fz hwm)
      have hs22 := hs22.mono (u40.fz hwm)
      have qhAb37 := Stb.fz (u40.fz hwm) hAb37 hSb37
      have hAb37 := At.fz (u40.fz hwm) hSb37 hAb37
      have hSb37 := qhAb37
      have hG := u40.grow hG (Nat.le_refl _)
      refine WO.stN h.size gN size58 (evT fh rfl) (evT (fskip rfl fh) rfl) hb41 whb41 hwm (vs := [.int .i64 x36.kind, .int .i64 x36.to_, .int .i64 x36.name, .int .i64 x36.via, .int .i64 x36.w]) rfl rfl rfl rfl (cs' := [.int .i64 x36.kind, .int .i64 x36.to_, .int .i64 x36.name, .int .i64 x36.via, .int .i64 x36.w]) rfl (fun h43 u44 hb45 => ?_)
      have hb19 := u44.row ne42 hb19
      have hs20 := hs20.mono (u44.fz hwm)
      have hs21 := hs21.mono (u44.fz hwm)
      have hs22 := hs22.mono (u44.fz hwm)
      have qhAb37 := Stb.fz (u44.fz hwm) hAb37 hSb37
      have hAb37 := At.fz (u44.fz hwm) hSb37 hAb37
      have hSb37 := qhAb37
      have hG := u44.grow hG (Nat.le_refl _)
      refine WO.nil ?_
      refine SeqK.nrm ?_
      refine WC.seq ?_
      refine WC.region ?_
      refine WO.fld gN rfl fld58_0 (evT fh rfl) ?_
      refine WO.ld gN rfl agg56 (evT fh rfl) (At.box hb45) (j := 0) rfl (v := .int .i64 x36.kind) rfl ?_
      refine WO.bin gN rfl (evT fh rfl) (evC rfl) abin_eql ?_
      refine WO.mv gN rfl (evT fh rfl) ?_
      refine WO.gfld (GuardIs.yes rfl rfl rfl fh) rfl fld58_1 (fun hg => (evT (fs4 rfl fh) rfl)) ?_
      refine WO.gld (GuardIs.yes rfl rfl rfl (fskip rfl fh)) rfl agg3 (fun hg => (evG fh rfl hg)) (fun hg => (At.box hb45)) (j := 1) rfl (v := .int .i64 x36.to_) rfl ?_
      refine WO.gmv (GuardIs.yes rfl rfl rfl (fs2 rfl fh)) rfl (fun hg => (evT (fs8 rfl (fs8 rfl (fskip rfl e12))) rfl)) ?_
      refine WO.gbin (GuardIs.yes rfl rfl rfl (fs2 rfl (fskip rfl fh))) rfl (fun hg => (evG (fskip rfl fh) rfl hg)) (fun hg => (evG fh rfl hg)) (fun hg => abin_eql) ?_
      refine WO.pand gN rfl (evT (fs4 rfl fh) rfl) (evGU fh) (evC rfl) ?_
      refine WO.mv gN rfl (evT fh rfl) ?_
      refine WO.gfld (GuardIs.yes rfl rfl rfl fh) rfl fld58_2 (fun hg => (evT (fs8 rfl (fs2 rfl fh)) rfl)) ?_
      refine WO.gld (GuardIs.yes rfl rfl rfl (fskip rfl fh)) rfl agg3 (fun hg => (evG fh rfl hg)) (fun hg => (At.box hb45)) (j := 2) rfl (v := .int .i64 x36.name) rfl ?_
      refine WO.gmv (GuardIs.yes rfl rfl rfl (fs2 rfl fh)) rfl (fun hg => (evT (fs8 rfl (fs8 rfl (fs4 rfl (fs2 rfl (fskip rfl e13))))) rfl)) ?_
      refine WO.gbin (GuardIs.yes rfl rfl rfl (fs2 rfl (fskip rfl fh))) rfl (fun hg => (evG (fskip rfl fh) rfl hg)) (fun hg => (evG fh rfl hg)) (fun hg => abin_eql) ?_
      refine WO.pand gN rfl (evT (fs4 rfl fh) rfl) (evGU fh) (evC rfl) ?_
      refine WO.nil ?_
      refine SeqK.nrm ?_
      refine WC.condN (evT fh rfl) (fun hc => ?_) (fun hc => ?_)
      · replace hL := cond_tt hc hL
        refine WC.region ?_
        refine WO.mv gN rfl (evT (fs8 rfl (fs8 rfl (fs8 rfl (fs2 rfl e16)))) rfl) ?_
        refine WO.bin gN rfl (evT fh rfl) (evC rfl) abin_addw ?_
        refine WO.as gN rfl (evT fh rfl) ?_
        refine WO.nil ?_
        refine BlkK.nrm ?_
        exact SeqJ.nrm _ hL ⟨_, _, rfl, hG, (fs8 rfl (fs8 rfl (fs8 rfl (fs4 rfl (fskip rfl e12))))), (fs8 rfl (fs8 rfl (fs8 rfl (fs4 rfl (fskip rfl e13))))), (fs8 rfl (fs8 rfl (fs8 rfl (fs4 rfl (fskip rfl e14))))), fh, (fs8 rfl (fs8 rfl (fs8 rfl (fs4 rfl (fskip rfl e18))))), hb19, hs20, hs21, hs22⟩
      · replace hL := cond_ff hc hL
        refine WC.skip ?_
        refine BlkK.nrm ?_
        exact SeqJ.nrm _ hL ⟨_, _, rfl, hG, (fs8 rfl (fs8 rfl (fs8 rfl (fs2 rfl e12)))), (fs8 rfl (fs8 rfl (fs8 rfl (fs2 rfl e13)))), (fs8 rfl (fs8 rfl (fs8 rfl (fs2 rfl e14)))), (fs8 rfl (fs8 rfl (fs8 rfl (fs2 rfl e16)))), (fs8 rfl (fs8 rfl (fs8 rfl (fs2 rfl e18)))), hb19, hs20, hs21, hs22⟩
  · replace hL := cond_ff hc hL
    refine WC.exit ?_
    refine SeqK.exit ?_
    refine LoopK.exit ?_
    refine BlkK.here ?_
    refine SeqK.nrm ?_
    refine WC.seq ?_
    refine WC.region ?_
    refine WO.mv gN rfl (evT (fs4 rfl (fskip rfl e16)) rfl) ?_
    refine WO.as gN rfl (evT fh rfl) ?_
    refine WO.nil ?_
    refine SeqK.nrm ?_
    refine WC.ret ?_
    have hr := Option.some.inj hL
    subst hr
    exact RetK.gen1 rfl (ares_tmp (evT fh rfl) ares_nil) rfl
theorem f100_ok {F : Nat} {h : H} {p0 : WeighWorld} {p1 : Int} {p2 : Int} {a1 : Option Addr} {c2 : Nat} {a3 : Option Addr} {c4 : Nat} {a5 : Option Addr} {c6 : Nat} {r : Int} (hsa1 : Sl (rSl rWeighCell) h.size h a1 c2 p0.cells) (hsa3 : Sl rWeighNote h.size h a3 c4 p0.notes) (hsa5 : Sl (rInt .i64) h.size h a5 c6 p0.freed) (hL : f100L F p0 p1 p2 = some r) : Pure XX 100 #[.agg [.slice a1 p0.cells.length c2, .slice a3 p0.notes.length c4, .int .i64 p0.names, .slice a5 p0.freed.length c6].toArray, .int .i64 p1, .int .i64 p2] h (.int .i64 r) :=
  WF.pureR rfl (f100_wf (Nat.le_refl _) hsa1 hsa3 hsa5 hL)
theorem f69_wf {F : Nat} {wm : Nat} {h : H} {p0 : WeighWorld} {p1 : Int} {p2 : Int} {a1 : Option Addr} {c2 : Nat} {a3 : Option Addr} {c4 : Nat} {a5 : Option Addr} {c6 : Nat} {r : Int} (hwm : wm ≤ h.size) (hsa1 : Sl (rSl rWeighCell) wm h a1 c2 p0.cells) (hsa3 : Sl rWeighNote wm h a3 c4 p0.notes) (hsa5 : Sl (rInt .i64) wm h a5 c6 p0.freed) (hL : f69L F p0 p1 p2 = some r) :
    WR XX 69 #[.agg [.slice a1 p0.cells.length c2, .slice a3 p0.notes.length c4, .int .i64 p0.names, .slice a5 p0.freed.length c6].toArray, .int .i64 p1, .int .i64 p2] wm h (fun v _ => v = .int .i64 r) := by
  refine WF.begin (args := [_, _, _]) (fn := Try.f69) (by kernel_rfl) (by exact rfl) Try.ntmps69 (by simp) ?_
  simp only [frameOf_cons, frameOf_nil, Nat.reduceAdd]
  have hG : Grow h h := Grow.refl h
  unfold f69L at hL
  refine WC.seq ?_
  refine WC.region ?_
  refine WO.boxN h.size gN rfl (evT (fs2 rfl fh) rfl) (vs := [.slice a1 p0.cells.length c2, .slice a3 p0.notes.length c4, .int .i64 p0.names, .slice a5 p0.freed.length c6]) rfl (fun h7 u8 hb9 => ?_)
  have whb9 : h.size ≤ h.size := hG.size
  have hsa1 := hsa1.mono (u8.fz hwm)
  have hsa3 := hsa3.mono (u8.fz hwm)
  have hsa5 := hsa5.mono (u8.fz hwm)
  have hG := u8.grow hG (Nat.le_refl _)
  refine WO.as gN rfl (evC rfl) ?_
  refine WO.nil ?_
  refine SeqK.nrm ?_
  refine WC.seq ?_
  refine WC.region ?_
  refine WO.ldA gN rfl agg26 size26 (evT (fskip rfl fh) rfl) (At.box hb9) (j := 0) rfl rfl (ws := [.slice a1 p0.cells.length c2, .slice a3 p0.notes.length c4, .int .i64 p0.names, .slice a5 p0.freed.length c6]) rfl ?_
  refine WO.mv gN rfl (evT (fs4 rfl fh) rfl) ?_
  refine WO.mv gN rfl (evT (fs4 rfl fh) rfl) ?_
  obtain ⟨x10, hx10, hL⟩ := bind_some hL
  refine WO.cf gN rfl has100 (evs_cons (evT (fs2 rfl fh) rfl) (evs_cons (evT (fskip rfl fh) rfl) (evs_cons (evT fh rfl) evs_nil))) (f100_ok (Src.sl (Sl.src hsa1) (Nat.le_trans hwm hG.size)) (Src.sl (Sl.src hsa3) (Nat.le_trans hwm hG.size)) (Src.sl (Sl.src hsa5) (Nat.le_trans hwm hG.size)) hx10 _) ?_
  refine WO.bin gN rfl (evC rfl) (evT fh rfl) abin_mulw ?_
  refine WO.as gN rfl (evT fh rfl) ?_
  refine WO.nil ?_
  refine SeqK.nrm ?_
  refine WC.seq ?_
  refine WC.region ?_
  refine WO.ldA gN rfl agg26 size26 (evT (fs4 rfl (fs2 rfl (fskip rfl fh))) rfl) (At.box hb9) (j := 0) rfl rfl (ws := [.slice a1 p0.cells.length c2, .slice a3 p0.notes.length c4, .int .i64 p0.names, .slice a5 p0.freed.length c6]) rfl ?_
  refine WO.mv gN rfl (evT (fs8 rfl (fs2 rfl fh)) rfl) ?_
  refine WO.mv gN rfl (evT (fs8 rfl (fs2 rfl fh)) rfl) ?_
  obtain ⟨x11, hx11, hL⟩ := bind_some hL
  refine WO.cf gN rfl has72 (evs_cons (evT (fs2 rfl fh) rfl) (evs_cons (evT (fskip rfl fh) rfl) (evs_cons (evT fh rfl) evs_nil))) (f72_ok (Src.sl (Sl.src hsa1) (Nat.le_trans hwm hG.size)) (Src.sl (Sl.src hsa3) (Nat.le_trans hwm hG.size)) (Src.sl (Sl.src hsa5) (Nat.le_trans hwm hG.size)) hx11 _) ?_
  refine WO.as gN rfl (evT fh rfl) ?_
  refine WO.nil ?_
  refine SeqK.nrm ?_
  refine WC.seqJ (r := r) (fun (v14 : Int) (s : Fs) => ∃ (fr13 : Fr) (h12 : H), s = ⟨fr13, [], h12, none⟩ ∧ Grow h h12 ∧ fr13.at 7 = .int .i64 v14) (f69_j0) ?_ ?_
  · clear hL
    rintro v14 s hL ⟨fr13, h12, rfl, hG, e15⟩
    dsimp only [f69_j0] at hL
    refine WC.seq ?_
    refine WC.region ?_
    refine WO.mv gN rfl (evT e15 rfl) ?_
    refine WO.as gN rfl (evT fh rfl) ?_
    refine WO.nil ?_
    refine SeqK.nrm ?_
    refine WC.ret ?_
    have hr := Option.some.inj hL
    subst hr
    exact RetK.gen1 rfl (ares_tmp (evT fh rfl) ares_nil) rfl
  · skip
    refine WC.seq ?_
    refine WC.region ?_
    refine WO.mv gN rfl (evT fh rfl) ?_
    refine WO.bin gN rfl (evT fh rfl) (evC rfl) abin_geq ?_
    refine WO.nil ?_
    refine SeqK.nrm ?_
    refine WC.condN (evT fh rfl) (fun hc => ?_) (fun hc => ?_)
    · replace hL := cond_tt hc hL
      refine WC.region ?_
      refine WO.mv gN rfl (evT (fs4 rfl (fs2 rfl (fskip rfl fh))) rfl) ?_
      refine WO.fld gN rfl fld26_0 (evT (fs8 rfl (fs4 rfl (fs2 rfl (fskip rfl fh)))) rfl) ?_
      refine WO.ld gN rfl agg22 (evT fh rfl) (At.box hb9) (j := 0) rfl (v := .slice a1 p0.cells.length c2) rfl ?_
      refine WO.mv gN rfl (evT (fs8 rfl (fs8 rfl (fs2 rfl (fskip rfl fh)))) rfl) ?_
      obtain ⟨x16, hx16, hL⟩ := bind_some hL
      obtain ⟨b17, o18, ⟨a19, c20⟩, hab17, hAb17, hSb17, hFb17⟩ := Sl.at_ hsa1 hx16
      refine WO.ix gN rfl und22 size59 (evT (fskip rfl fh) rfl) (evT fh rfl) hab17 hx16 ?_
      have hsa19 : Sl rWeighCell wm h7 a19 c20 x16 := hFb17
      refine WO.ld gN rfl agg59 (evT fh rfl) hAb17 (j := 0) rfl (v := .slice a19 x16.length c20) rfl ?_
      refine WO.mv gN rfl (evT (fs8 rfl fh) rfl) ?_
      obtain ⟨x21, hx21, hL⟩ := bind_some hL
      obtain ⟨b22, o23, _, hab22, hAb22, hSb22, hFb22⟩ := Sl.at_ hsa19 hx21
      refine WO.ix gN rfl und59 size61 (evT (fskip rfl fh) rfl) (evT fh rfl) hab22 hx21 ?_
      refine WO.fld gN rfl fld61_4 (evT fh rfl) ?_
      refine WO.ld gN rfl agg3 (evT fh rfl) hAb22 (j := 4) rfl (v := .int .i64 x21.out) rfl ?_
      refine WO.bin gN rfl (evT (fs8 rfl (fskip rfl fh)) rfl) (evT fh rfl) abin_addw ?_
      refine WO.as gN rfl (evT fh rfl) ?_
      refine WO.nil ?_
      exact SeqJ.nrm _ hL ⟨_, _, rfl, hG, fh⟩
    · replace hL := cond_ff hc hL
      refine WC.skip ?_
      exact SeqJ.nrm _ hL ⟨_, _, rfl, hG, (fs4 rfl (fs2 rfl (fskip rfl fh)))⟩
theorem f69_ok {F : Nat} {h : H} {p0 : WeighWorld} {p1 : Int} {p2 : Int} {a1 : Option Addr} {c2 : Nat} {a3 : Option Addr} {c4 : Nat} {a5 : Option Addr} {c6 : Nat} {r : Int} (hsa1 : Sl (rSl rWeighCell) h.size h a1 c2 p0.cells) (hsa3 : Sl rWeighNote h.size h a3 c4 p0.notes) (hsa5 : Sl (rInt .i64) h.size h a5 c6 p0.freed) (hL : f69L F p0 p1 p2 = some r) : Pure XX 69 #[.agg [.slice a1 p0.cells.length c2, .slice a3 p0.notes.length c4, .int .i64 p0.names, .slice a5 p0.freed.length c6].toArray, .int .i64 p1, .int .i64 p2] h (.int .i64 r) :=
  WF.pureR rfl (f69_wf (Nat.le_refl _) hsa1 hsa3 hsa5 hL)
theorem f30_wf {F : Nat} {wm : Nat} {h : H} {p0 : (List Int)} {p1 : (List Int)} {a1 : Option Addr} {c2 : Nat} {a3 : Option Addr} {c4 : Nat} {r : Bool} (hwm : wm ≤ h.size) (hsa1 : Sl (rInt .i64) wm h a1 c2 p0) (hsa3 : Sl (rInt .i64) wm h a3 c4 p1) (hL : f30L F p0 p1 = some r) :
    WR XX 30 #[.slice a1 p0.length c2, .slice a3 p1.length c4] wm h (fun v _ => v = .bool r) := by
  refine WF.begin (args := [_, _]) (fn := Try.f30) (by kernel_rfl) (by exact rfl) Try.ntmps30 (by simp) ?_
  simp only [frameOf_cons, frameOf_nil, Nat.reduceAdd]
  have hG : Grow h h := Grow.refl h
  unfold f30L at hL
  refine WC.seq ?_
  refine WC.region ?_
  refine WO.as gN rfl (evC rfl) ?_
  refine WO.nil ?_
  refine SeqK.nrm ?_
  refine WC.seq ?_
  refine WC.seq ?_
  refine WC.region ?_
  refine WO.mv gN rfl (evT (fs2 rfl fh) rfl) ?_
  refine WO.len gN rfl und24 (evT fh rfl) ?_
  refine WO.mv gN rfl (evT (fs2 rfl (fskip rfl fh)) rfl) ?_
  refine WO.len gN rfl und24 (evT fh rfl) ?_
  refine WO.bin gN rfl (evT (fs2 rfl fh) rfl) (evT fh rfl) abin_neq ?_
  refine WO.nil ?_
  refine SeqK.nrm ?_
  refine WC.condN (evT fh rfl) (fun hc => ?_) (fun hc => ?_)
  · replace hL := cond_tt hc hL
    refine WC.seq ?_
    refine WC.region ?_
    refine WO.as gN rfl (evC rfl) ?_
    refine WO.nil ?_
    refine SeqK.nrm ?_
    refine WC.ret ?_
    refine SeqK.ret ?_
    have hr := Option.some.inj hL
    subst hr
    exact RetK.gen1 rfl (ares_tmp (evT fh rfl) ares_nil) rfl
  · replace hL := cond_ff hc hL
    refine WC.skip ?_
    refine SeqK.nrm ?_
    refine WC.seq ?_
    refine WC.seq ?_
    refine WC.region ?_
    refine WO.as gN rfl (evC rfl) ?_
    refine WO.nil ?_
    refine SeqK.nrm ?_
    refine WC.block ?_
    refine WC.loop (WL.lift hL (fun (v9 : Int) (s : Fs) => ∃ (fr6 : Fr) (h5 : H), s = ⟨fr6, [], h5, none⟩ ∧ Grow h h5 ∧ fr6.at 0 = .slice a1 p0.length c2 ∧ fr6.at 1 = .slice a3 p1.length c4 ∧ fr6.at 5 = .int .i64 v9 ∧ Sl (rInt .i64) wm h5 a1 c2 p0 ∧ Sl (rInt .i64) wm h5 a3 c4 p1) ⟨_, _, rfl, hG, (fs8 rfl fh), (fs4 rfl (fs2 rfl (fskip rfl fh))), fh, hsa1, hsa3⟩ ?_)
    clear hL
    rintro next13 v9 s hnext13 hL ⟨fr6, h5, rfl, hG, e7, e8, e10, hs11, hs12⟩
    dsimp only [f30_b0] at hL
    refine WC.seq ?_
    refine WC.seq ?_
    refine WC.region ?_
    refine WO.mv gN rfl (evT e10 rfl) ?_
    refine WO.mv gN rfl (evT (fskip rfl e7) rfl) ?_
    refine WO.len gN rfl und24 (evT fh rfl) ?_
    refine WO.bin gN rfl (evT (fs2 rfl fh) rfl) (evT fh rfl) abin_lss ?_
    refine WO.nil ?_
    refine SeqK.nrm ?_
    refine WC.condN (evT fh rfl) (fun hc => ?_) (fun hc => ?_)
    · replace hL := cond_tt hc hL
      refine WC.skip ?_
      refine SeqK.nrm ?_
      refine WC.seq ?_
      refine WC.block ?_
      refine WC.seq ?_
      refine WC.drawQ mixed (by kernel_rfl) ?_
      refine WQ.mv gN rfl (evT (fs4 rfl e7) rfl) ?_
      refine WQ.mv gN rfl (evT (fs4 rfl (fskip rfl e10)) rfl) ?_
      obtain ⟨x14, hx14, hL⟩ := bind_some hL
      obtain ⟨b15, o16, _, hab15, hAb15, hSb15, hFb15⟩ := Sl.at_ hs11 hx14
      refine WQ.ix gN rfl und24 size3 (evT (fskip rfl fh) rfl) (evT fh rfl) hab15 hx14 ?_
      refine WQ.ld gN rfl agg3 (evT fh rfl) hAb15 (j := 0) rfl (v := .int .i64 x14) rfl ?_
      refine WQ.mv gN rfl (evT (fs8 rfl e8) rfl) ?_
      refine WQ.mv gN rfl (evT (fs8 rfl (fskip rfl e10)) rfl) ?_
      obtain ⟨x17, hx17, hL⟩ := bind_some hL
      obtain ⟨b18, o19, _, hab18, hAb18, hSb18, hFb18⟩ := Sl.at_ hs12 hx17
      refine WQ.ix gN rfl und24 size3 (evT (fskip rfl fh) rfl) (evT fh rfl) hab18 hx17 ?_
      refine WQ.ld gN rfl agg3 (evT fh rfl) hAb18 (j := 0) rfl (v := .int .i64 x17) rfl ?_
      refine WQ.bin gN rfl (evT (fs4 rfl fh) rfl) (evT fh rfl) abin_neq ?_
      refine WQ.nil ?_
      refine SeqK.nrm ?_
      refine WC.condN (evT fh rfl) (fun hc => ?_) (fun hc => ?_)
      · replace hL := cond_tt hc hL
        refine WC.seq ?_
        refine WC.region ?_
        refine WO.as gN rfl (evC rfl) ?_
        refine WO.nil ?_
        refine SeqK.nrm ?_
        refine WC.ret ?_
        refine BlkK.ret ?_
        refine SeqK.ret ?_
        refine LoopK.ret ?_
        refine BlkK.ret ?_
        refine SeqK.ret ?_
        have hr := Option.some.inj hL
        subst hr
        exact RetK.gen1 rfl (ares_tmp (evT fh rfl) ares_nil) rfl
      · replace hL := cond_ff hc hL
        refine WC.skip ?_
        refine BlkK.nrm ?_
        refine SeqK.nrm ?_
        refine WC.region ?_
        refine WO.mv gN rfl (evT (fs8 rfl (fs4 rfl (fskip rfl e10))) rfl) ?_
        refine WO.bin gN rfl (evT fh rfl) (evC rfl) abin_addw ?_
        refine WO.as gN rfl (evT fh rfl) ?_
        refine WO.nil ?_
        exact LoopK.nrm (hnext13 _ _ hL ⟨_, _, rfl, hG, (fs8 rfl (fs8 rfl e7)), (fs8 rfl (fs8 rfl e8)), fh, hs11, hs12⟩)
    · replace hL := cond_ff hc hL
      refine WC.exit ?_
      refine SeqK.exit ?_
      refine LoopK.exit ?_
      refine BlkK.here ?_
      refine SeqK.nrm ?_
      refine WC.seq ?_
      refine WC.region ?_
      refine WO.as gN rfl (evC rfl) ?_
      refine WO.nil ?_
      refine SeqK.nrm ?_
      refine WC.ret ?_
      have hr := Option.some.inj hL
      subst hr
      exact RetK.gen1 rfl (ares_tmp (evT fh rfl) ares_nil) rfl
theorem f30_ok {F : Nat} {h : H} {p0 : (List Int)} {p1 : (List Int)} {a1 : Option Addr} {c2 : Nat} {a3 : Option Addr} {c4 : Nat} {r : Bool} (hsa1 : Sl (rInt .i64) h.size h a1 c2 p0) (hsa3 : Sl (rInt .i64) h.size h a3 c4 p1) (hL : f30L F p0 p1 = some r) : Pure XX 30 #[.slice a1 p0.length c2, .slice a3 p1.length c4] h (.bool r) :=
  WF.pureR rfl (f30_wf (Nat.le_refl _) hsa1 hsa3 hL)
theorem f112_wf {F : Nat} {wm : Nat} {h : H} {p0 : (List Int)} {p1 : Int} {a1 : Option Addr} {c2 : Nat} {r : Int} (hwm : wm ≤ h.size) (hsa1 : Sl (rInt .i64) wm h a1 c2 p0) (hL : f112L F p0 p1 = some r) :
    WR XX 112 #[.slice a1 p0.length c2, .int .i64 p1] wm h (fun v _ => v = .int .i64 r) := by
  refine WF.begin (args := [_, _]) (fn := Try.f112) (by kernel_rfl) (by exact rfl) Try.ntmps112 (by simp) ?_
  simp only [frameOf_cons, frameOf_nil, Nat.reduceAdd]
  have hG : Grow h h := Grow.refl h
  unfold f112L at hL
  refine WC.seq ?_
  refine WC.region ?_
  refine WO.as gN rfl (evC rfl) ?_
  refine WO.nil ?_
  refine SeqK.nrm ?_
  refine WC.seq ?_
  refine WC.seq ?_
  refine WC.region ?_
  refine WO.mv gN rfl (evT (fs2 rfl fh) rfl) ?_
  refine WO.len gN rfl und24 (evT fh rfl) ?_
  refine WO.mv gN rfl (evC rfl) ?_
  refine WO.nil ?_
  refine SeqK.nrm ?_
  refine WC.block ?_
  refine WC.loop (WL.lift hL (fun (v8 : Int) (s : Fs) => ∃ (fr4 : Fr) (h3 : H), s = ⟨fr4, [], h3, none⟩ ∧ Grow h h3 ∧ fr4.at 0 = .slice a1 p0.length c2 ∧ fr4.at 1 = .int .i64 p1 ∧ fr4.at 7 = .int .i64 (p0.length : Int) ∧ fr4.at 8 = .int .i64 v8 ∧ Sl (rInt .i64) wm h3 a1 c2 p0) ⟨_, _, rfl, hG, (fs4 rfl (fskip rfl fh)), (fs4 rfl fh), (fskip rfl fh), fh, hsa1⟩ ?_)
  clear hL
  rintro next11 v8 s hnext11 hL ⟨fr4, h3, rfl, hG, e5, e6, e7, e9, hs10⟩
  dsimp only [f112_b0] at hL
  refine WC.seq ?_
  refine WC.region ?_
  refine WO.bin gN rfl (evT e9 rfl) (evT e7 rfl) abin_lss ?_
  refine WO.nil ?_
  refine SeqK.nrm ?_
  refine WC.seq ?_
  refine WC.condN (evT fh rfl) (fun hc => ?_) (fun hc => ?_)
  · replace hL := cond_tt hc hL
    refine WC.skip ?_
    refine SeqK.nrm ?_
    refine WC.seq ?_
    refine WC.block ?_
    refine WC.seq ?_
    refine WC.region ?_
    refine WO.mv gN rfl (evT (fskip rfl e9) rfl) ?_
    refine WO.as gN rfl (evT fh rfl) ?_
    refine WO.nil ?_
    refine SeqK.nrm ?_
    refine WC.seq ?_
    refine WC.region ?_
    refine WO.mv gN rfl (evT (fs2 rfl (fskip rfl e6)) rfl) ?_
    refine WO.mv gN rfl (evT (fs4 rfl e5) rfl) ?_
    refine WO.mv gN rfl (evT (fs2 rfl fh) rfl) ?_
    obtain ⟨x12, hx12, hL⟩ := bind_some hL
    obtain ⟨b13, o14, _, hab13, hAb13, hSb13, hFb13⟩ := Sl.at_ hs10 hx12
    refine WO.ix gN rfl und24 size3 (evT (fskip rfl fh) rfl) (evT fh rfl) hab13 hx12 ?_
    refine WO.ld gN rfl agg3 (evT fh rfl) hAb13 (j := 0) rfl (v := .int .i64 x12) rfl ?_
    refine WO.bin gN rfl (evT (fs4 rfl fh) rfl) (evT fh rfl) abin_eql ?_
    refine WO.nil ?_
    refine SeqK.nrm ?_
    refine WC.condN (evT fh rfl) (fun hc => ?_) (fun hc => ?_)
    · replace hL := cond_tt hc hL
      refine WC.seq ?_
      refine WC.region ?_
      refine WO.mv gN rfl (evT (fs4 rfl (fs2 rfl fh)) rfl) ?_
      refine WO.as gN rfl (evT fh rfl) ?_
      refine WO.nil ?_
      refine SeqK.nrm ?_
      refine WC.ret ?_
      refine BlkK.ret ?_
      refine SeqK.ret ?_
      refine LoopK.ret ?_
      refine BlkK.ret ?_
      refine SeqK.ret ?_
      have hr := Option.some.inj hL
      subst hr
      exact RetK.gen1 rfl (ares_tmp (evT fh rfl) ares_nil) rfl
    · replace hL := cond_ff hc hL
      refine WC.skip ?_
      refine BlkK.nrm ?_
      refine SeqK.nrm ?_
      refine WC.region ?_
      refine WO.bin gN rfl (evT (fs8 rfl (fskip rfl e9)) rfl) (evC rfl) abin_addw ?_
      refine WO.mv gN rfl (evT fh rfl) ?_
      refine WO.nil ?_
      exact LoopK.nrm (hnext11 _ _ hL ⟨_, _, rfl, hG, (fs8 rfl (fs2 rfl (fskip rfl e5))), (fs8 rfl (fs2 rfl (fskip rfl e6))), (fs8 rfl (fs2 rfl (fskip rfl e7))), fh, hs10⟩)
  · replace hL := cond_ff hc hL
    refine WC.exit ?_
    refine SeqK.exit ?_
    refine LoopK.exit ?_
    refine BlkK.here ?_
    refine SeqK.nrm ?_
    refine WC.seq ?_
    refine WC.region ?_
    refine WO.as gN rfl (evC rfl) ?_
    refine WO.nil ?_
    refine SeqK.nrm ?_
    refine WC.ret ?_
    have hr := Option.some.inj hL
    subst hr
    exact RetK.gen1 rfl (ares_tmp (evT fh rfl) ares_nil) rfl
theorem f112_ok {F : Nat} {h : H} {p0 : (List Int)} {p1 : Int} {a1 : Option Addr} {c2 : Nat} {r : Int} (hsa1 : Sl (rInt .i64) h.size h a1 c2 p0) (hL : f112L F p0 p1 = some r) : Pure XX 112 #[.slice a1 p0.length c2, .int .i64 p1] h (.int .i64 r) :=
  WF.pureR rfl (f112_wf (Nat.le_refl _) hsa1 hL)
theorem f75_wf {F : Nat} {wm : Nat} {h : H} {p0 : (List Int)} {p1 : Int} {a1 : Option Addr} {c2 : Nat} {r : Bool} (hwm : wm ≤ h.size) (hsa1 : Sl (rInt .i64) wm h a1 c2 p0) (hL : f75L F p0 p1 = some r) :
    WR XX 75 #[.slice a1 p0.length c2, .int .i64 p1] wm h (fun v _ => v = .bool r) := by
  refine WF.begin (args := [_, _]) (fn := Try.f75) (by kernel_rfl) (by exact rfl) Try.ntmps75 (by simp) ?_
  simp only [frameOf_cons, frameOf_nil, Nat.reduceAdd]
  have hG : Grow h h := Grow.refl h
  unfold f75L at hL
  refine WC.seq ?_
  refine WC.region ?_
  refine WO.as gN rfl (evC rfl) ?_
  refine WO.nil ?_
  refine SeqK.nrm ?_
  refine WC.seq ?_
  refine WC.region ?_
  refine WO.mv gN rfl (evT (fs2 rfl fh) rfl) ?_
  refine WO.mv gN rfl (evT (fs2 rfl fh) rfl) ?_
  obtain ⟨x3, hx3, hL⟩ := bind_some hL
  refine WO.cf gN rfl has112 (evs_cons (evT (fskip rfl fh) rfl) (evs_cons (evT fh rfl) evs_nil)) (f112_ok (Src.sl (Sl.src hsa1) (Nat.le_trans hwm hG.size)) hx3 _) ?_
  refine WO.bin gN rfl (evT fh rfl) (evC rfl) abin_geq ?_
  refine WO.as gN rfl (evT fh rfl) ?_
  refine WO.nil ?_
  refine SeqK.nrm ?_
  refine WC.ret ?_
  have hr := Option.some.inj hL
  subst hr
  exact RetK.gen1 rfl (ares_tmp (evT fh rfl) ares_nil) rfl
theorem f75_ok {F : Nat} {h : H} {p0 : (List Int)} {p1 : Int} {a1 : Option Addr} {c2 : Nat} {r : Bool} (hsa1 : Sl (rInt .i64) h.size h a1 c2 p0) (hL : f75L F p0 p1 = some r) : Pure XX 75 #[.slice a1 p0.length c2, .int .i64 p1] h (.bool r) :=
  WF.pureR rfl (f75_wf (Nat.le_refl _) hsa1 hL)
theorem f98_wf {F : Nat} {wm : Nat} {h : H} {p0 : WeighWorld} {p1 : Int} {p2 : WeighCell} {a1 : Option Addr} {c2 : Nat} {a3 : Option Addr} {c4 : Nat} {a5 : Option Addr} {c6 : Nat} {r : Bool} (hwm : wm ≤ h.size) (hsa1 : Sl (rSl rWeighCell) wm h a1 c2 p0.cells) (hsa3 : Sl rWeighNote wm h a3 c4 p0.notes) (hsa5 : Sl (rInt .i64) wm h a5 c6 p0.freed) (hL : f98L F p0 p1 p2 = some r) :
    WR XX 98 #[.agg [.slice a1 p0.cells.length c2, .slice a3 p0.notes.length c4, .int .i64 p0.names, .slice a5 p0.freed.length c6].toArray, .int .i64 p1, .agg [.int .i64 p2.name, .bool p2.root, .int .i64 p2.from_, .int .i64 p2.has, .int .i64 p2.out, .bool p2.use].toArray] wm h (fun v _ => v = .bool r) := by
  refine WF.begin (args := [_, _, _]) (fn := Try.f98) (by kernel_rfl) (by exact rfl) Try.ntmps98 (by simp) ?_
  simp only [frameOf_cons, frameOf_nil, Nat.reduceAdd]
  have hG : Grow h h := Grow.refl h
  unfold f98L at hL
  refine WC.seq ?_
  refine WC.region ?_
  refine WO.boxN h.size gN rfl (evT (fs2 rfl fh) rfl) (vs := [.slice a1 p0.cells.length c2, .slice a3 p0.notes.length c4, .int .i64 p0.names, .slice a5 p0.freed.length c6]) rfl (fun h7 u8 hb9 => ?_)
  have whb9 : h.size ≤ h.size := hG.size
  have hsa1 := hsa1.mono (u8.fz hwm)
  have hsa3 := hsa3.mono (u8.fz hwm)
  have hsa5 := hsa5.mono (u8.fz hwm)
  have hG := u8.grow hG (Nat.le_refl _)
  refine WO.boxN h.size gN rfl (evT (fskip rfl fh) rfl) (vs := [.int .i64 p2.name, .bool p2.root, .int .i64 p2.from_, .int .i64 p2.has, .int .i64 p2.out, .bool p2.use]) rfl (fun h10 u11 hb12 => ?_)
  have whb12 : h.size ≤ h7.size := hG.size
  have ne13 := Nat.ne_of_lt (live_lt hb9 rfl)
  have hb9 := u11.row (fun z => z) hb9
  have hsa1 := hsa1.mono (u11.fz hwm)
  have hsa3 := hsa3.mono (u11.fz hwm)
  have hsa5 := hsa5.mono (u11.fz hwm)
  have hG := u11.grow hG (Nat.le_refl _)
  refine WO.as gN rfl (evC rfl) ?_
  refine WO.nil ?_
  refine SeqK.nrm ?_
  refine WC.seq ?_
  refine WC.seq ?_
  refine WC.region ?_
  refine WO.fld gN rfl fld61_0 (evT (fskip rfl fh) rfl) ?_
  refine WO.ld gN rfl agg3 (evT fh rfl) (At.box hb12) (j := 0) rfl (v := .int .i64 p2.name) rfl ?_
  refine WO.fld gN rfl fld26_2 (evT (fs4 rfl fh) rfl) ?_
  refine WO.ld gN rfl agg3 (evT fh rfl) (At.box hb9) (j := 2) rfl (v := .int .i64 p0.names) rfl ?_
  refine WO.bin gN rfl (evT fh rfl) (evC rfl) abin_subw ?_
  obtain ⟨x14, hx14, hL⟩ := bind_some hL
  refine WO.cf gN rfl has53 (evs_cons (evT (fs2 rfl (fskip rfl fh)) rfl) (evs_cons (evC rfl) (evs_cons (evT fh rfl) evs_nil))) (f53_ok  hx14 _) ?_
  refine WO.not gN rfl (evT fh rfl) ?_
  refine WO.mv gN rfl (evT fh rfl) ?_
  refine WO.gfld (GuardIs.no rfl rfl rfl fh) rfl fld61_4 (fun hg => (evT (fs8 rfl (fskip rfl fh)) rfl)) ?_
  refine WO.gld (GuardIs.no rfl rfl rfl (fskip rfl fh)) rfl agg3 (fun hg => (evG fh rfl hg)) (fun hg => (At.box hb12)) (j := 4) rfl (v := .int .i64 p2.out) rfl ?_
  obtain ⟨x15, hx15, hL⟩ := gd_some hL
  refine WO.gcf (GuardIs.no rfl rfl rfl (fs2 rfl fh)) rfl has53 (fun hg => (evs_cons (evG fh rfl hg) (evs_cons (evC rfl) (evs_cons (evC rfl) evs_nil)))) (fun hg => f53_ok  (hx15 hg) _) ?_
  refine WO.gnot (GuardIs.no rfl rfl rfl (fs2 rfl (fskip rfl fh))) rfl (fun hg => (evG fh rfl hg)) ?_
  refine WO.por gN rfl (evT (fs4 rfl fh) rfl) (evC rfl) (evGU fh) ?_
  refine WO.mv gN rfl (evT fh rfl) ?_
  refine WO.gfld (GuardIs.no rfl rfl rfl fh) rfl fld61_5 (fun hg => (evT (fs8 rfl (fs4 rfl (fs2 rfl (fskip rfl fh)))) rfl)) ?_
  refine WO.gld (GuardIs.no rfl rfl rfl (fskip rfl fh)) rfl agg4 (fun hg => (evG fh rfl hg)) (fun hg => (At.box hb12)) (j := 5) rfl (v := .bool p2.use) rfl ?_
  refine WO.gnot (GuardIs.no rfl rfl rfl (fs2 rfl fh)) rfl (fun hg => (evG fh rfl hg)) ?_
  refine WO.gmv (GuardIs.no rfl rfl rfl (fs2 rfl (fskip rfl fh))) rfl (fun hg => (evG fh rfl hg)) ?_
  refine WO.gfld (GuardIs.yes2 rfl rfl rfl fh) rfl fld61_4 (fun hg => (evT (fs8 rfl (fs8 rfl (fs2 rfl (fskip rfl fh)))) rfl)) ?_
  refine WO.gld (GuardIs.yes2 rfl rfl rfl (fskip rfl fh)) rfl agg3 (fun hg => (evG fh rfl hg)) (fun hg => (At.box hb12)) (j := 4) rfl (v := .int .i64 p2.out) rfl ?_
  refine WO.gbin (GuardIs.yes2 rfl rfl rfl (fs2 rfl fh)) rfl (fun hg => (evG fh rfl hg)) (fun hg => (evC rfl)) (fun hg => abin_eql) ?_
  refine WO.gand (GuardIs.no rfl rfl rfl (fs4 rfl (fs2 rfl (fskip rfl fh)))) rfl (fun hg => (evG (fs2 rfl (fskip rfl fh)) rfl hg)) (fun hg => evGU2 fh hg) (fun hg => (evC rfl)) ?_
  refine WO.por gN rfl (evT (fs8 rfl fh) rfl) (evC rfl) (evGU fh) ?_
  refine WO.mv gN rfl (evT fh rfl) ?_
  refine WO.gfld (GuardIs.no rfl rfl rfl fh) rfl fld26_3 (fun hg => (evT (fs8 rfl (fs8 rfl (fs8 rfl (fs2 rfl fh)))) rfl)) ?_
  refine WO.gld (GuardIs.no rfl rfl rfl (fskip rfl fh)) rfl agg24 (fun hg => (evG fh rfl hg)) (fun hg => (At.box hb9)) (j := 3) rfl (v := .slice a5 p0.freed.length c6) rfl ?_
  refine WO.gfld (GuardIs.no rfl rfl rfl (fs2 rfl fh)) rfl fld61_0 (fun hg => (evT (fs8 rfl (fs8 rfl (fs8 rfl (fs2 rfl (fskip rfl fh))))) rfl)) ?_
  refine WO.gld (GuardIs.no rfl rfl rfl (fs2 rfl (fskip rfl fh))) rfl agg3 (fun hg => (evG fh rfl hg)) (fun hg => (At.box hb12)) (j := 0) rfl (v := .int .i64 p2.name) rfl ?_
  obtain ⟨x16, hx16, hL⟩ := gd_some hL
  refine WO.gcf (GuardIs.no rfl rfl rfl (fs4 rfl fh)) rfl has61 (fun hg => (evs_cons (evG (fs2 rfl fh) rfl hg) (evs_cons (evG fh rfl hg) evs_nil))) (fun hg => f61_ok (Src.sl (Sl.src hsa5) (Nat.le_trans hwm hG.size)) (hx16 hg) _) ?_
  refine WO.por gN rfl (evT (fs4 rfl (fskip rfl fh)) rfl) (evC rfl) (evGU fh) ?_
  refine WO.nil ?_
  refine SeqK.nrm ?_
  refine WC.condN (evT fh rfl) (fun hc => ?_) (fun hc => ?_)
  · replace hL := cond_tt hc hL
    refine WC.seq ?_
    refine WC.region ?_
    refine WO.as gN rfl (evC rfl) ?_
    refine WO.nil ?_
    refine SeqK.nrm ?_
    refine WC.ret ?_
    refine SeqK.ret ?_
    have hr := Option.some.inj hL
    subst hr
    exact RetK.gen1 rfl (ares_tmp (evT fh rfl) ares_nil) rfl
  · replace hL := cond_ff hc hL
    refine WC.skip ?_
    refine SeqK.nrm ?_
    refine WC.seq ?_
    refine WC.seq ?_
    refine WC.region ?_
    refine WO.fld gN rfl fld61_1 (evT (fs8 rfl (fs8 rfl (fs8 rfl (fs4 rfl (fs2 rfl (fskip rfl fh)))))) rfl) ?_
    refine WO.ld gN rfl agg4 (evT fh rfl) (At.box hb12) (j := 1) rfl (v := .bool p2.root) rfl ?_
    refine WO.mv gN rfl (evT fh rfl) ?_
    refine WO.gfld (GuardIs.no rfl rfl rfl fh) rfl fld61_2 (fun hg => (evT (fs8 rfl (fs8 rfl (fs8 rfl (fs8 rfl (fs2 rfl fh))))) rfl)) ?_
    refine WO.gld (GuardIs.no rfl rfl rfl (fskip rfl fh)) rfl agg3 (fun hg => (evG fh rfl hg)) (fun hg => (At.box hb12)) (j := 2) rfl (v := .int .i64 p2.from_) rfl ?_
    refine WO.gbin (GuardIs.no rfl rfl rfl (fs2 rfl fh)) rfl (fun hg => (evG fh rfl hg)) (fun hg => (evC rfl)) (fun hg => abin_eql) ?_
    refine WO.por gN rfl (evT (fs2 rfl (fskip rfl fh)) rfl) (evC rfl) (evGU fh) ?_
    refine WO.nil ?_
    refine SeqK.nrm ?_
    refine WC.condN (evT fh rfl) (fun hc => ?_) (fun hc => ?_)
    · replace hL := cond_tt hc hL
      refine WC.seq ?_
      refine WC.region ?_
      refine WO.fld gN rfl fld61_2 (evT (fs8 rfl (fs8 rfl (fs8 rfl (fs8 rfl (fs4 rfl (fs2 rfl fh)))))) rfl) ?_
      refine WO.ld gN rfl agg3 (evT fh rfl) (At.box hb12) (j := 2) rfl (v := .int .i64 p2.from_) rfl ?_
      refine WO.bin gN rfl (evT fh rfl) (evC rfl) abin_eql ?_
      refine WO.mv gN rfl (evT fh rfl) ?_
      refine WO.gfld (GuardIs.yes rfl rfl rfl fh) rfl fld61_3 (fun hg => (evT (fs8 rfl (fs8 rfl (fs8 rfl (fs8 rfl (fs8 rfl (fs2 rfl fh)))))) rfl)) ?_
      refine WO.gld (GuardIs.yes rfl rfl rfl (fskip rfl fh)) rfl agg3 (fun hg => (evG fh rfl hg)) (fun hg => (At.box hb12)) (j := 3) rfl (v := .int .i64 p2.has) rfl ?_
      refine WO.gbin (GuardIs.yes rfl rfl rfl (fs2 rfl fh)) rfl (fun hg => (evG fh rfl hg)) (fun hg => (evC rfl)) (fun hg => abin_eql) ?_
      refine WO.pand gN rfl (evT (fs2 rfl (fskip rfl fh)) rfl) (evGU fh) (evC rfl) ?_
      refine WO.as gN rfl (evT fh rfl) ?_
      refine WO.nil ?_
      refine SeqK.nrm ?_
      refine WC.ret ?_
      refine SeqK.ret ?_
      have hr := Option.some.inj hL
      subst hr
      exact RetK.gen1 rfl (ares_tmp (evT fh rfl) ares_nil) rfl
    · replace hL := cond_ff hc hL
      refine WC.skip ?_
      refine SeqK.nrm ?_
      refine WC.seq ?_
      refine WC.region ?_
      refine WO.fld gN rfl fld61_2 (evT (fs8 rfl (fs8 rfl (fs8 rfl (fs8 rfl (fs4 rfl (fs2 rfl fh)))))) rfl) ?_
      refine WO.ld gN rfl agg3 (evT fh rfl) (At.box hb12) (j := 2) rfl (v := .int .i64 p2.from_) rfl ?_
      refine WO.fld gN rfl fld26_0 (evT (fs8 rfl (fs8 rfl (fs8 rfl (fs8 rfl (fs8 rfl (fskip rfl fh)))))) rfl) ?_
      refine WO.ld gN rfl agg22 (evT fh rfl) (At.box hb9) (j := 0) rfl (v := .slice a1 p0.cells.length c2) rfl ?_
      refine WO.len gN rfl und22 (evT fh rfl) ?_
      refine WO.bin gN rfl (evT fh rfl) (evC rfl) abin_subw ?_
      obtain ⟨x17, hx17, hL⟩ := bind_some hL
      refine WO.cf gN rfl has53 (evs_cons (evT (fs4 rfl fh) rfl) (evs_cons (evC rfl) (evs_cons (evT fh rfl) evs_nil))) (f53_ok  hx17 _) ?_
      refine WO.mv gN rfl (evT fh rfl) ?_
      refine WO.gfld (GuardIs.yes rfl rfl rfl fh) rfl fld61_2 (fun hg => (evT (fs8 rfl (fs8 rfl (fs8 rfl (fs8 rfl (fs8 rfl (fs4 rfl (fs2 rfl fh))))))) rfl)) ?_
      refine WO.gld (GuardIs.yes rfl rfl rfl (fskip rfl fh)) rfl agg3 (fun hg => (evG fh rfl hg)) (fun hg => (At.box hb12)) (j := 2) rfl (v := .int .i64 p2.from_) rfl ?_
      refine WO.gmv (GuardIs.yes rfl rfl rfl (fs2 rfl fh)) rfl (fun hg => (evT (fs8 rfl (fs8 rfl (fs8 rfl (fs8 rfl (fs8 rfl (fs8 rfl (fs2 rfl (fskip rfl fh)))))))) rfl)) ?_
      refine WO.gbin (GuardIs.yes rfl rfl rfl (fs2 rfl (fskip rfl fh))) rfl (fun hg => (evG (fskip rfl fh) rfl hg)) (fun hg => (evG fh rfl hg)) (fun hg => abin_neq) ?_
      refine WO.pand gN rfl (evT (fs4 rfl fh) rfl) (evGU fh) (evC rfl) ?_
      refine WO.mv gN rfl (evT fh rfl) ?_
      refine WO.gfld (GuardIs.yes rfl rfl rfl fh) rfl fld61_3 (fun hg => (evT (fs8 rfl (fs8 rfl (fs8 rfl (fs8 rfl (fs8 rfl (fs8 rfl (fs4 rfl fh))))))) rfl)) ?_
      refine WO.gld (GuardIs.yes rfl rfl rfl (fskip rfl fh)) rfl agg3 (fun hg => (evG fh rfl hg)) (fun hg => (At.box hb12)) (j := 3) rfl (v := .int .i64 p2.has) rfl ?_
      obtain ⟨x18, hx18, hL⟩ := gd_some hL
      refine WO.gcf (GuardIs.yes rfl rfl rfl (fs2 rfl fh)) rfl has53 (fun hg => (evs_cons (evG fh rfl hg) (evs_cons (evC rfl) (evs_cons (evC rfl) evs_nil)))) (fun hg => f53_ok  (hx18 hg) _) ?_
      refine WO.pand gN rfl (evT (fs2 rfl (fskip rfl fh)) rfl) (evGU fh) (evC rfl) ?_
      refine WO.as gN rfl (evT fh rfl) ?_
      refine WO.nil ?_
      refine SeqK.nrm ?_
      refine WC.ret ?_
      have hr := Option.some.inj hL
      subst hr
      exact RetK.gen1 rfl (ares_tmp (evT fh rfl) ares_nil) rfl
theorem f98_ok {F : Nat} {h : H} {p0 : WeighWorld} {p1 : Int} {p2 : WeighCell} {a1 : Option Addr} {c2 : Nat} {a3 : Option Addr} {c4 : Nat} {a5 : Option Addr} {c6 : Nat} {r : Bool} (hsa1 : Sl (rSl rWeighCell) h.size h a1 c2 p0.cells) (hsa3 : Sl rWeighNote h.size h a3 c4 p0.notes) (hsa5 : Sl (rInt .i64) h.size h a5 c6 p0.freed) (hL : f98L F p0 p1 p2 = some r) : Pure XX 98 #[.agg [.slice a1 p0.cells.length c2, .slice a3 p0.notes.length c4, .int .i64 p0.names, .slice a5 p0.freed.length c6].toArray, .int .i64 p1, .agg [.int .i64 p2.name, .bool p2.root, .int .i64 p2.from_, .int .i64 p2.has, .int .i64 p2.out, .bool p2.use].toArray] h (.bool r) :=
  WF.pureR rfl (f98_wf (Nat.le_refl _) hsa1 hsa3 hsa5 hL)
theorem f99_wf {F : Nat} {wm : Nat} {h : H} {p0 : WeighWorld} {p1 : WeighNote} {a1 : Option Addr} {c2 : Nat} {a3 : Option Addr} {c4 : Nat} {a5 : Option Addr} {c6 : Nat} {r : Bool} (hwm : wm ≤ h.size) (hsa1 : Sl (rSl rWeighCell) wm h a1 c2 p0.cells) (hsa3 : Sl rWeighNote wm h a3 c4 p0.notes) (hsa5 : Sl (rInt .i64) wm h a5 c6 p0.freed) (hL : f99L F p0 p1 = some r) :
    WR XX 99 #[.agg [.slice a1 p0.cells.length c2, .slice a3 p0.notes.length c4, .int .i64 p0.names, .slice a5 p0.freed.length c6].toArray, .agg [.int .i64 p1.kind, .int .i64 p1.to_, .int .i64 p1.name, .int .i64 p1.via, .int .i64 p1.w].toArray] wm h (fun v _ => v = .bool r) := by
  refine WF.begin (args := [_, _]) (fn := Try.f99) (by kernel_rfl) (by exact rfl) Try.ntmps99 (by simp) ?_
  simp only [frameOf_cons, frameOf_nil, Nat.reduceAdd]
  have hG : Grow h h := Grow.refl h
  unfold f99L at hL
  refine WC.seq ?_
  refine WC.region ?_
  refine WO.boxN h.size gN rfl (evT (fskip rfl fh) rfl) (vs := [.slice a1 p0.cells.length c2, .slice a3 p0.notes.length c4, .int .i64 p0.names, .slice a5 p0.freed.length c6]) rfl (fun h7 u8 hb9 => ?_)
  have whb9 : h.size ≤ h.size := hG.size
  have hsa1 := hsa1.mono (u8.fz hwm)
  have hsa3 := hsa3.mono (u8.fz hwm)
  have hsa5 := hsa5.mono (u8.fz hwm)
  have hG := u8.grow hG (Nat.le_refl _)
  refine WO.boxN h.size gN rfl (evT (fskip rfl fh) rfl) (vs := [.int .i64 p1.kind, .int .i64 p1.to_, .int .i64 p1.name, .int .i64 p1.via, .int .i64 p1.w]) rfl (fun h10 u11 hb12 => ?_)
  have whb12 : h.size ≤ h7.size := hG.size
  have ne13 := Nat.ne_of_lt (live_lt hb9 rfl)
  have hb9 := u11.row (fun z => z) hb9
  have hsa1 := hsa1.mono (u11.fz hwm)
  have hsa3 := hsa3.mono (u11.fz hwm)
  have hsa5 := hsa5.mono (u11.fz hwm)
  have hG := u11.grow hG (Nat.le_refl _)
  refine WO.as gN rfl (evC rfl) ?_
  refine WO.nil ?_
  refine SeqK.nrm ?_
  refine WC.seq ?_
  refine WC.seq ?_
  refine WC.region ?_
  refine WO.fld gN rfl fld58_1 (evT (fskip rfl fh) rfl) ?_
  refine WO.ld gN rfl agg3 (evT fh rfl) (At.box hb12) (j := 1) rfl (v := .int .i64 p1.to_) rfl ?_
  refine WO.fld gN rfl fld26_0 (evT (fs4 rfl fh) rfl) ?_
  refine WO.ld gN rfl agg22 (evT fh rfl) (At.box hb9) (j := 0) rfl (v := .slice a1 p0.cells.length c2) rfl ?_
  refine WO.len gN rfl und22 (evT fh rfl) ?_
  refine WO.bin gN rfl (evT fh rfl) (evC rfl) abin_subw ?_
  obtain ⟨x14, hx14, hL⟩ := bind_some hL
  refine WO.cf gN rfl has53 (evs_cons (evT (fs4 rfl fh) rfl) (evs_cons (evC rfl) (evs_cons (evT fh rfl) evs_nil))) (f53_ok  hx14 _) ?_
  refine WO.not gN rfl (evT fh rfl) ?_
  refine WO.mv gN rfl (evT fh rfl) ?_
  refine WO.gfld (GuardIs.no rfl rfl rfl fh) rfl fld58_2 (fun hg => (evT (fs8 rfl (fs2 rfl fh)) rfl)) ?_
  refine WO.gld (GuardIs.no rfl rfl rfl (fskip rfl fh)) rfl agg3 (fun hg => (evG fh rfl hg)) (fun hg => (At.box hb12)) (j := 2) rfl (v := .int .i64 p1.name) rfl ?_
  refine WO.gfld (GuardIs.no rfl rfl rfl (fs2 rfl fh)) rfl fld26_2 (fun hg => (evT (fs8 rfl (fs4 rfl (fskip rfl fh))) rfl)) ?_
  refine WO.gld (GuardIs.no rfl rfl rfl (fs2 rfl (fskip rfl fh))) rfl agg3 (fun hg => (evG fh rfl hg)) (fun hg => (At.box hb9)) (j := 2) rfl (v := .int .i64 p0.names) rfl ?_
  refine WO.gbin (GuardIs.no rfl rfl rfl (fs4 rfl fh)) rfl (fun hg => (evG fh rfl hg)) (fun hg => (evC rfl)) (fun hg => abin_subw) ?_
  obtain ⟨x15, hx15, hL⟩ := gd_some hL
  refine WO.gcf (GuardIs.no rfl rfl rfl (fs4 rfl (fskip rfl fh))) rfl has53 (fun hg => (evs_cons (evG (fs2 rfl (fskip rfl fh)) rfl hg) (evs_cons (evC rfl) (evs_cons (evG fh rfl hg) evs_nil)))) (fun hg => f53_ok  (hx15 hg) _) ?_
  refine WO.gnot (GuardIs.no rfl rfl rfl (fs4 rfl (fs2 rfl fh))) rfl (fun hg => (evG fh rfl hg)) ?_
  refine WO.por gN rfl (evT (fs4 rfl (fs2 rfl (fskip rfl fh))) rfl) (evC rfl) (evGU fh) ?_
  refine WO.mv gN rfl (evT fh rfl) ?_
  refine WO.gfld (GuardIs.no rfl rfl rfl fh) rfl fld26_3 (fun hg => (evT (fs8 rfl (fs8 rfl (fs4 rfl fh))) rfl)) ?_
  refine WO.gld (GuardIs.no rfl rfl rfl (fskip rfl fh)) rfl agg24 (fun hg => (evG fh rfl hg)) (fun hg => (At.box hb9)) (j := 3) rfl (v := .slice a5 p0.freed.length c6) rfl ?_
  refine WO.gfld (GuardIs.no rfl rfl rfl (fs2 rfl fh)) rfl fld58_2 (fun hg => (evT (fs8 rfl (fs8 rfl (fs4 rfl (fskip rfl fh)))) rfl)) ?_
  refine WO.gld (GuardIs.no rfl rfl rfl (fs2 rfl (fskip rfl fh))) rfl agg3 (fun hg => (evG fh rfl hg)) (fun hg => (At.box hb12)) (j := 2) rfl (v := .int .i64 p1.name) rfl ?_
  obtain ⟨x16, hx16, hL⟩ := gd_some hL
  refine WO.gcf (GuardIs.no rfl rfl rfl (fs4 rfl fh)) rfl has61 (fun hg => (evs_cons (evG (fs2 rfl fh) rfl hg) (evs_cons (evG fh rfl hg) evs_nil))) (fun hg => f61_ok (Src.sl (Sl.src hsa5) (Nat.le_trans hwm hG.size)) (hx16 hg) _) ?_
  refine WO.por gN rfl (evT (fs4 rfl (fskip rfl fh)) rfl) (evC rfl) (evGU fh) ?_
  refine WO.mv gN rfl (evT fh rfl) ?_
  refine WO.gfld (GuardIs.no rfl rfl rfl fh) rfl fld58_4 (fun hg => (evT (fs8 rfl (fs8 rfl (fs8 rfl (fs2 rfl fh)))) rfl)) ?_
  refine WO.gld (GuardIs.no rfl rfl rfl (fskip rfl fh)) rfl agg3 (fun hg => (evG fh rfl hg)) (fun hg => (At.box hb12)) (j := 4) rfl (v := .int .i64 p1.w) rfl ?_
  obtain ⟨x17, hx17, hL⟩ := gd_some hL
  refine WO.gcf (GuardIs.no rfl rfl rfl (fs2 rfl fh)) rfl has53 (fun hg => (evs_cons (evG fh rfl hg) (evs_cons (evC rfl) (evs_cons (evC rfl) evs_nil)))) (fun hg => f53_ok  (hx17 hg) _) ?_
  refine WO.gnot (GuardIs.no rfl rfl rfl (fs2 rfl (fskip rfl fh))) rfl (fun hg => (evG fh rfl hg)) ?_
  refine WO.por gN rfl (evT (fs4 rfl fh) rfl) (evC rfl) (evGU fh) ?_
  refine WO.nil ?_
  refine SeqK.nrm ?_
  refine WC.condN (evT fh rfl) (fun hc => ?_) (fun hc => ?_)
  · replace hL := cond_tt hc hL
    refine WC.seq ?_
    refine WC.region ?_
    refine WO.as gN rfl (evC rfl) ?_
    refine WO.nil ?_
    refine SeqK.nrm ?_
    refine WC.ret ?_
    refine SeqK.ret ?_
    have hr := Option.some.inj hL
    subst hr
    exact RetK.gen1 rfl (ares_tmp (evT fh rfl) ares_nil) rfl
  · replace hL := cond_ff hc hL
    refine WC.skip ?_
    refine SeqK.nrm ?_
    refine WC.seq ?_
    refine WC.seq ?_
    refine WC.region ?_
    refine WO.fld gN rfl fld58_0 (evT (fs8 rfl (fs8 rfl (fs8 rfl (fs4 rfl (fs2 rfl (fskip rfl fh)))))) rfl) ?_
    refine WO.ld gN rfl agg56 (evT fh rfl) (At.box hb12) (j := 0) rfl (v := .int .i64 p1.kind) rfl ?_
    refine WO.nil ?_
    refine SeqK.nrm ?_
    refine WC.block ?_
    refine WC.seq ?_
    refine WC.region ?_
    refine WO.bin gN rfl (evT fh rfl) (evC rfl) abin_eql ?_
    refine WO.as gN rfl (evT fh rfl) ?_
    refine WO.nil ?_
    refine SeqK.nrm ?_
    refine WC.condN (evT fh rfl) (fun hc => ?_) (fun hc => ?_)
    · replace hL := cond_tt hc hL
      refine WC.seq ?_
      refine WC.region ?_
      refine WO.fld gN rfl fld58_3 (evT (fs8 rfl (fs8 rfl (fs8 rfl (fs8 rfl (fs2 rfl (fskip rfl fh)))))) rfl) ?_
      refine WO.ld gN rfl agg3 (evT fh rfl) (At.box hb12) (j := 3) rfl (v := .int .i64 p1.via) rfl ?_
      refine WO.fld gN rfl fld26_0 (evT (fs8 rfl (fs8 rfl (fs8 rfl (fs8 rfl (fs4 rfl (fs2 rfl fh)))))) rfl) ?_
      refine WO.ld gN rfl agg22 (evT fh rfl) (At.box hb9) (j := 0) rfl (v := .slice a1 p0.cells.length c2) rfl ?_
      refine WO.len gN rfl und22 (evT fh rfl) ?_
      refine WO.bin gN rfl (evT fh rfl) (evC rfl) abin_subw ?_
      obtain ⟨x18, hx18, hL⟩ := bind_some hL
      refine WO.cf gN rfl has53 (evs_cons (evT (fs4 rfl fh) rfl) (evs_cons (evC rfl) (evs_cons (evT fh rfl) evs_nil))) (f53_ok  hx18 _) ?_
      refine WO.as gN rfl (evT fh rfl) ?_
      refine WO.nil ?_
      refine SeqK.nrm ?_
      refine WC.ret ?_
      refine BlkK.ret ?_
      refine SeqK.ret ?_
      have hr := Option.some.inj hL
      subst hr
      exact RetK.gen1 rfl (ares_tmp (evT fh rfl) ares_nil) rfl
    · replace hL := cond_ff hc hL
      refine WC.seq ?_
      refine WC.region ?_
      refine WO.bin gN rfl (evT (fs2 rfl fh) rfl) (evC rfl) abin_eql ?_
      refine WO.as gN rfl (evT fh rfl) ?_
      refine WO.nil ?_
      refine SeqK.nrm ?_
      refine WC.condN (evT fh rfl) (fun hc => ?_) (fun hc => ?_)
      · replace hL := cond_tt hc hL
        refine WC.seq ?_
        refine WC.region ?_
        refine WO.fld gN rfl fld58_3 (evT (fs8 rfl (fs8 rfl (fs8 rfl (fs8 rfl (fs4 rfl (fskip rfl fh)))))) rfl) ?_
        refine WO.ld gN rfl agg3 (evT fh rfl) (At.box hb12) (j := 3) rfl (v := .int .i64 p1.via) rfl ?_
        refine WO.bin gN rfl (evT fh rfl) (evC rfl) abin_eql ?_
        refine WO.as gN rfl (evT fh rfl) ?_
        refine WO.nil ?_
        refine SeqK.nrm ?_
        refine WC.ret ?_
        refine BlkK.ret ?_
        refine SeqK.ret ?_
        have hr := Option.some.inj hL
        subst hr
        exact RetK.gen1 rfl (ares_tmp (evT fh rfl) ares_nil) rfl
      · replace hL := cond_ff hc hL
        refine WC.seq ?_
        refine WC.region ?_
        refine WO.bin gN rfl (evT (fs4 rfl fh) rfl) (evC rfl) abin_eql ?_
        refine WO.as gN rfl (evT fh rfl) ?_
        refine WO.nil ?_
        refine SeqK.nrm ?_
        refine WC.condN (evT fh rfl) (fun hc => ?_) (fun hc => ?_)
        · replace hL := cond_tt hc hL
          refine WC.seq ?_
          refine WC.region ?_
          refine WO.fld gN rfl fld58_3 (evT (fs8 rfl (fs8 rfl (fs8 rfl (fs8 rfl (fs4 rfl (fs2 rfl (fskip rfl fh))))))) rfl) ?_
          refine WO.ld gN rfl agg3 (evT fh rfl) (At.box hb12) (j := 3) rfl (v := .int .i64 p1.via) rfl ?_
          refine WO.bin gN rfl (evT fh rfl) (evC rfl) abin_eql ?_
          refine WO.mv gN rfl (evT fh rfl) ?_
          refine WO.gfld (GuardIs.yes rfl rfl rfl fh) rfl fld58_4 (fun hg => (evT (fs8 rfl (fs8 rfl (fs8 rfl (fs8 rfl (fs8 rfl (fs2 rfl (fskip rfl fh))))))) rfl)) ?_
          refine WO.gld (GuardIs.yes rfl rfl rfl (fskip rfl fh)) rfl agg3 (fun hg => (evG fh rfl hg)) (fun hg => (At.box hb12)) (j := 4) rfl (v := .int .i64 p1.w) rfl ?_
          refine WO.gbin (GuardIs.yes rfl rfl rfl (fs2 rfl fh)) rfl (fun hg => (evG fh rfl hg)) (fun hg => (evC rfl)) (fun hg => abin_eql) ?_
          refine WO.pand gN rfl (evT (fs2 rfl (fskip rfl fh)) rfl) (evGU fh) (evC rfl) ?_
          refine WO.as gN rfl (evT fh rfl) ?_
          refine WO.nil ?_
          refine SeqK.nrm ?_
          refine WC.ret ?_
          refine BlkK.ret ?_
          refine SeqK.ret ?_
          have hr := Option.some.inj hL
          subst hr
          exact RetK.gen1 rfl (ares_tmp (evT fh rfl) ares_nil) rfl
        · replace hL := cond_ff hc hL
          refine WC.skip ?_
          refine BlkK.nrm ?_
          refine SeqK.nrm ?_
          refine WC.seq ?_
          refine WC.region ?_
          refine WO.as gN rfl (evC rfl) ?_
          refine WO.nil ?_
          refine SeqK.nrm ?_
          refine WC.ret ?_
          have hr := Option.some.inj hL
          subst hr
          exact RetK.gen1 rfl (ares_tmp (evT fh rfl) ares_nil) rfl
theorem f99_ok {F : Nat} {h : H} {p0 : WeighWorld} {p1 : WeighNote} {a1 : Option Addr} {c2 : Nat} {a3 : Option Addr} {c4 : Nat} {a5 : Option Addr} {c6 : Nat} {r : Bool} (hsa1 : Sl (rSl rWeighCell) h.size h a1 c2 p0.cells) (hsa3 : Sl rWeighNote h.size h a3 c4 p0.notes) (hsa5 : Sl (rInt .i64) h.size h a5 c6 p0.freed) (hL : f99L F p0 p1 = some r) : Pure XX 99 #[.agg [.slice a1 p0.cells.length c2, .slice a3 p0.notes.length c4, .int .i64 p0.names, .slice a5 p0.freed.length c6].toArray, .agg [.int .i64 p1.kind, .int .i64 p1.to_, .int .i64 p1.name, .int .i64 p1.via, .int .i64 p1.w].toArray] h (.bool r) :=
  WF.pureR rfl (f99_wf (Nat.le_refl _) hsa1 hsa3 hsa5 hL)
theorem f101_wf {F : Nat} {wm : Nat} {h : H} {p0 : WeighWorld} {p1 : Int} {p2 : Int} {p3 : Int} {a1 : Option Addr} {c2 : Nat} {a3 : Option Addr} {c4 : Nat} {a5 : Option Addr} {c6 : Nat} {r : Bool} (hwm : wm ≤ h.size) (hsa1 : Sl (rSl rWeighCell) wm h a1 c2 p0.cells) (hsa3 : Sl rWeighNote wm h a3 c4 p0.notes) (hsa5 : Sl (rInt .i64) wm h a5 c6 p0.freed) (hL : f101L F p0 p1 p2 p3 = some r) :
    WR XX 101 #[.agg [.slice a1 p0.cells.length c2, .slice a3 p0.notes.length c4, .int .i64 p0.names, .slice a5 p0.freed.length c6].toArray, .int .i64 p1, .int .i64 p2, .int .i64 p3] wm h (fun v _ => v = .bool r) := by
  refine WF.begin (args := [_, _, _, _]) (fn := Try.f101) (by kernel_rfl) (by exact rfl) Try.ntmps101 (by simp) ?_
  simp only [frameOf_cons, frameOf_nil, Nat.reduceAdd]
  have hG : Grow h h := Grow.refl h
  unfold f101L at hL
  refine WC.seq ?_
  refine WC.region ?_
  refine WO.boxN h.size gN rfl (evT (fs2 rfl (fskip rfl fh)) rfl) (vs := [.slice a1 p0.cells.length c2, .slice a3 p0.notes.length c4, .int .i64 p0.names, .slice a5 p0.freed.length c6]) rfl (fun h7 u8 hb9 => ?_)
  have whb9 : h.size ≤ h.size := hG.size
  have hsa1 := hsa1.mono (u8.fz hwm)
  have hsa3 := hsa3.mono (u8.fz hwm)
  have hsa5 := hsa5.mono (u8.fz hwm)
  have hG := u8.grow hG (Nat.le_refl _)
  refine WO.as gN rfl (evC rfl) ?_
  refine WO.nil ?_
  refine SeqK.nrm ?_
  refine WC.seq ?_
  refine WC.seq ?_
  refine WC.region ?_
  refine WO.as gN rfl (evC rfl) ?_
  refine WO.nil ?_
  refine SeqK.nrm ?_
  refine WC.block ?_
  refine WC.loop (WL.lift hL (fun (p : Int × Int) (s : Fs) => match p with | (v12, v17) => ∃ (fr11 : Fr) (h10 : H), s = ⟨fr11, [], h10, none⟩ ∧ Grow h h10 ∧ fr11.at 1 = .int .i64 v12 ∧ fr11.at 2 = .int .i64 p2 ∧ fr11.at 3 = .int .i64 p3 ∧ fr11.at 4 = .pointer (some ⟨h.size, 0, none⟩) ∧ fr11.at 9 = .int .i64 v17 ∧ h10.at (h.size) = .row [.slice a1 p0.cells.length c2, .slice a3 p0.notes.length c4, .int .i64 p0.names, .slice a5 p0.freed.length c6] true 0 ∧ Sl (rSl rWeighCell) wm h10 a1 c2 p0.cells ∧ Sl rWeighNote wm h10 a3 c4 p0.notes ∧ Sl (rInt .i64) wm h10 a5 c6 p0.freed) ⟨_, _, rfl, hG, (fs4 rfl (fskip rfl fh)), (fs4 rfl fh), (fs2 rfl (fskip rfl fh)), (fs2 rfl fh), fh, hb9, hsa1, hsa3, hsa5⟩ ?_)
  clear hL
  rintro next23 ⟨v12, v17⟩ s hnext23 hL ⟨fr11, h10, rfl, hG, e13, e14, e15, e16, e18, hb19, hs20, hs21, hs22⟩
  dsimp only [f101_b0] at hL
  refine WC.seq ?_
  refine WC.seq ?_
  refine WC.region ?_
  refine WO.mv gN rfl (evT e18 rfl) ?_
  refine WO.fld gN rfl fld26_0 (evT (fskip rfl e16) rfl) ?_
  refine WO.ld gN rfl agg22 (evT fh rfl) (At.box hb19) (j := 0) rfl (v := .slice a1 p0.cells.length c2) rfl ?_
  refine WO.len gN rfl und22 (evT fh rfl) ?_
  refine WO.bin gN rfl (evT (fs2 rfl (fskip rfl fh)) rfl) (evT fh rfl) abin_leq ?_
  refine WO.nil ?_
  refine SeqK.nrm ?_
  refine WC.condN (evT fh rfl) (fun hc => ?_) (fun hc => ?_)
  · replace hL := cond_tt hc hL
    refine WC.skip ?_
    refine SeqK.nrm ?_
    refine WC.seq ?_
    refine WC.block ?_
    refine WC.seq ?_
    refine WC.seq ?_
    refine WC.region ?_
    refine WO.mv gN rfl (evT (fs4 rfl (fskip rfl e13)) rfl) ?_
    refine WO.mv gN rfl (evT (fs4 rfl (fs2 rfl e14)) rfl) ?_
    refine WO.bin gN rfl (evT (fskip rfl fh) rfl) (evT fh rfl) abin_eql ?_
    refine WO.nil ?_
    refine SeqK.nrm ?_
    refine WC.condN (evT fh rfl) (fun hc => ?_) (fun hc => ?_)
    · replace hL := cond_tt hc hL
      refine WC.seq ?_
      refine WC.region ?_
      refine WO.as gN rfl (evC rfl) ?_
      refine WO.nil ?_
      refine SeqK.nrm ?_
      refine WC.ret ?_
      refine SeqK.ret ?_
      refine BlkK.ret ?_
      refine SeqK.ret ?_
      refine LoopK.ret ?_
      refine BlkK.ret ?_
      refine SeqK.ret ?_
      have hr := Option.some.inj hL
      subst hr
      exact RetK.gen1 rfl (ares_tmp (evT fh rfl) ares_nil) rfl
    · replace hL := cond_ff hc hL
      refine WC.skip ?_
      refine SeqK.nrm ?_
      refine WC.seq ?_
      refine WC.region ?_
      refine WO.ldA gN rfl agg26 size26 (evT (fs8 rfl e16) rfl) (At.box hb19) (j := 0) rfl rfl (ws := [.slice a1 p0.cells.length c2, .slice a3 p0.notes.length c4, .int .i64 p0.names, .slice a5 p0.freed.length c6]) rfl ?_
      refine WO.mv gN rfl (evT (fs8 rfl (fskip rfl e13)) rfl) ?_
      refine WO.mv gN rfl (evT (fs8 rfl (fs2 rfl e15)) rfl) ?_
      obtain ⟨x24, hx24, hL⟩ := bind_some hL
      refine WO.cf gN rfl has72 (evs_cons (evT (fs2 rfl fh) rfl) (evs_cons (evT (fskip rfl fh) rfl) (evs_cons (evT fh rfl) evs_nil))) (f72_ok (Src.sl (Sl.src hs20) (Nat.le_trans hwm hG.size)) (Src.sl (Sl.src hs21) (Nat.le_trans hwm hG.size)) (Src.sl (Sl.src hs22) (Nat.le_trans hwm hG.size)) hx24 _) ?_
      refine WO.as gN rfl (evT fh rfl) ?_
      refine WO.nil ?_
      refine SeqK.nrm ?_
      refine WC.seq ?_
      refine WC.seq ?_
      refine WC.region ?_
      refine WO.mv gN rfl (evT fh rfl) ?_
      refine WO.bin gN rfl (evT fh rfl) (evC rfl) abin_lss ?_
      refine WO.mv gN rfl (evT fh rfl) ?_
      refine WO.gfld (GuardIs.no rfl rfl rfl fh) rfl fld26_0 (fun hg => (evT (fs8 rfl (fs8 rfl e16)) rfl)) ?_
      refine WO.gld (GuardIs.no rfl rfl rfl (fskip rfl fh)) rfl agg22 (fun hg => (evG fh rfl hg)) (fun hg => (At.box hb19)) (j := 0) rfl (v := .slice a1 p0.cells.length c2) rfl ?_
      refine WO.gmv (GuardIs.no rfl rfl rfl (fs2 rfl fh)) rfl (fun hg => (evT (fs8 rfl (fs8 rfl (fs2 rfl e13))) rfl)) ?_
      obtain ⟨x25, hx25, hL⟩ := gd_some hL
      obtain ⟨b26, o27, ⟨a28, c29⟩, hQ⟩ := Sl.atG (fun hg => hs20) hx25
      have hab26 := fun hg => (hQ hg).1
      have hAb26 := fun hg => (hQ hg).2.1
      have hSb26 := fun hg => (hQ hg).2.2.1
      have hFb26 := fun hg => (hQ hg).2.2.2
      refine WO.gix (GuardIs.no rfl rfl rfl (fs2 rfl (fskip rfl fh))) rfl und22 size59 (fun hg => (evG (fskip rfl fh) rfl hg)) (fun hg => (evG fh rfl hg)) hab26 hx25 ?_
      have hsa28 : (!(decide (x24 < 0))) = true → Sl rWeighCell wm h10 a28 c29 x25 := fun hg => (hFb26 hg)
      refine WO.gld (GuardIs.no rfl rfl rfl (fs4 rfl fh)) rfl agg59 (fun hg => (evG fh rfl hg)) (fun hg => (hAb26 hg)) (j := 0) rfl (v := .slice a28 x25.length c29) rfl ?_
      refine WO.gmv (GuardIs.no rfl rfl rfl (fs4 rfl (fskip rfl fh))) rfl (fun hg => (evT (fs8 rfl fh) rfl)) ?_
      obtain ⟨x30, hx30, hL⟩ := gd_some hL
      obtain ⟨b31, o32, _, hQ⟩ := Sl.atG (fun hg => (hsa28 hg)) hx30
      have hab31 := fun hg => (hQ hg).1
      have hAb31 := fun hg => (hQ hg).2.1
      have hSb31 := fun hg => (hQ hg).2.2.1
      have hFb31 := fun hg => (hQ hg).2.2.2
      refine WO.gix (GuardIs.no rfl rfl rfl (fs4 rfl (fs2 rfl fh))) rfl und59 size61 (fun hg => (evG (fskip rfl fh) rfl hg)) (fun hg => (evG fh rfl hg)) hab31 hx30 ?_
      refine WO.gfld (GuardIs.no rfl rfl rfl (fs4 rfl (fs2 rfl (fskip rfl fh)))) rfl fld61_2 (fun hg => (evG fh rfl hg)) ?_
      refine WO.gld (GuardIs.no rfl rfl rfl (fs8 rfl fh)) rfl agg3 (fun hg => (evG fh rfl hg)) (fun hg => (hAb31 hg)) (j := 2) rfl (v := .int .i64 x30.from_) rfl ?_
      refine WO.gbin (GuardIs.no rfl rfl rfl (fs8 rfl (fskip rfl fh))) rfl (fun hg => (evG fh rfl hg)) (fun hg => (evC rfl)) (fun hg => abin_lss) ?_
      refine WO.por gN rfl (evT (fs8 rfl (fs2 rfl fh)) rfl) (evC rfl) (evGU fh) ?_
      refine WO.nil ?_
      refine SeqK.nrm ?_
      refine WC.condN (evT fh rfl) (fun hc => ?_) (fun hc => ?_)
      · replace hL := cond_tt hc hL
        refine WC.seq ?_
        refine WC.region ?_
        refine WO.as gN rfl (evC rfl) ?_
        refine WO.nil ?_
        refine SeqK.nrm ?_
        refine WC.ret ?_
        refine SeqK.ret ?_
        refine BlkK.ret ?_
        refine SeqK.ret ?_
        refine LoopK.ret ?_
        refine BlkK.ret ?_
        refine SeqK.ret ?_
        have hr := Option.some.inj hL
        subst hr
        exact RetK.gen1 rfl (ares_tmp (evT fh rfl) ares_nil) rfl
      · replace hL := cond_ff hc hL
        refine WC.skip ?_
        refine SeqK.nrm ?_
        refine WC.region ?_
        refine WO.fld gN rfl fld26_0 (evT (fs8 rfl (fs8 rfl (fs8 rfl (fs2 rfl (fskip rfl e16))))) rfl) ?_
        refine WO.ld gN rfl agg22 (evT fh rfl) (At.box hb19) (j := 0) rfl (v := .slice a1 p0.cells.length c2) rfl ?_
        refine WO.mv gN rfl (evT (fs8 rfl (fs8 rfl (fs8 rfl (fs4 rfl (fskip rfl e13))))) rfl) ?_
        obtain ⟨x33, hx33, hL⟩ := bind_some hL
        obtain ⟨b34, o35, ⟨a36, c37⟩, hab34, hAb34, hSb34, hFb34⟩ := Sl.at_ hs20 hx33
        refine WO.ix gN rfl und22 size59 (evT (fskip rfl fh) rfl) (evT fh rfl) hab34 hx33 ?_
        have hsa36 : Sl rWeighCell wm h10 a36 c37 x33 := hFb34
        refine WO.ld gN rfl agg59 (evT fh rfl) hAb34 (j := 0) rfl (v := .slice a36 x33.length c37) rfl ?_
        refine WO.mv gN rfl (evT (fs8 rfl (fs8 rfl (fs2 rfl (fskip rfl fh)))) rfl) ?_
        obtain ⟨x38, hx38, hL⟩ := bind_some hL
        obtain ⟨b39, o40, _, hab39, hAb39, hSb39, hFb39⟩ := Sl.at_ hsa36 hx38
        refine WO.ix gN rfl und59 size61 (evT (fskip rfl fh) rfl) (evT fh rfl) hab39 hx38 ?_
        refine WO.fld gN rfl fld61_2 (evT fh rfl) ?_
        refine WO.ld gN rfl agg3 (evT fh rfl) hAb39 (j := 2) rfl (v := .int .i64 x38.from_) rfl ?_
        refine WO.as gN rfl (evT fh rfl) ?_
        refine WO.nil ?_
        refine BlkK.nrm ?_
        refine SeqK.nrm ?_
        refine WC.region ?_
        refine WO.mv gN rfl (evT (fs8 rfl (fs8 rfl (fs8 rfl (fs8 rfl (fs4 rfl (fskip rfl e18)))))) rfl) ?_
        refine WO.bin gN rfl (evT fh rfl) (evC rfl) abin_addw ?_
        refine WO.as gN rfl (evT fh rfl) ?_
        refine WO.nil ?_
        exact LoopK.nrm (hnext23 _ _ hL ⟨_, _, rfl, hG, (fs2 rfl (fskip rfl fh)), (fs8 rfl (fs8 rfl (fs8 rfl (fs8 rfl (fs8 rfl e14))))), (fs8 rfl (fs8 rfl (fs8 rfl (fs8 rfl (fs8 rfl e15))))), (fs8 rfl (fs8 rfl (fs8 rfl (fs8 rfl (fs8 rfl e16))))), fh, hb19, hs20, hs21, hs22⟩)
  · replace hL := cond_ff hc hL
    refine WC.exit ?_
    refine SeqK.exit ?_
    refine LoopK.exit ?_
    refine BlkK.here ?_
    refine SeqK.nrm ?_
    refine WC.seq ?_
    refine WC.region ?_
    refine WO.as gN rfl (evC rfl) ?_
    refine WO.nil ?_
    refine SeqK.nrm ?_
    refine WC.ret ?_
    have hr := Option.some.inj hL
    subst hr
    exact RetK.gen1 rfl (ares_tmp (evT fh rfl) ares_nil) rfl
theorem f101_ok {F : Nat} {h : H} {p0 : WeighWorld} {p1 : Int} {p2 : Int} {p3 : Int} {a1 : Option Addr} {c2 : Nat} {a3 : Option Addr} {c4 : Nat} {a5 : Option Addr} {c6 : Nat} {r : Bool} (hsa1 : Sl (rSl rWeighCell) h.size h a1 c2 p0.cells) (hsa3 : Sl rWeighNote h.size h a3 c4 p0.notes) (hsa5 : Sl (rInt .i64) h.size h a5 c6 p0.freed) (hL : f101L F p0 p1 p2 p3 = some r) : Pure XX 101 #[.agg [.slice a1 p0.cells.length c2, .slice a3 p0.notes.length c4, .int .i64 p0.names, .slice a5 p0.freed.length c6].toArray, .int .i64 p1, .int .i64 p2, .int .i64 p3] h (.bool r) :=
  WF.pureR rfl (f101_wf (Nat.le_refl _) hsa1 hsa3 hsa5 hL)
theorem f13_wf {F : Nat} {wm : Nat} {h : H} {p0 : WeighWorld} {a1 : Option Addr} {c2 : Nat} {a3 : Option Addr} {c4 : Nat} {a5 : Option Addr} {c6 : Nat} {r : Bool} (hwm : wm ≤ h.size) (hsa1 : Sl (rSl rWeighCell) wm h a1 c2 p0.cells) (hsa3 : Sl rWeighNote wm h a3 c4 p0.notes) (hsa5 : Sl (rInt .i64) wm h a5 c6 p0.freed) (hL : f13L F p0 = some r) :
    WR XX 13 #[.agg [.slice a1 p0.cells.length c2, .slice a3 p0.notes.length c4, .int .i64 p0.names, .slice a5 p0.freed.length c6].toArray] wm h (fun v _ => v = .bool r) := by
  refine WF.begin (args := [_]) (fn := Try.f13) (by kernel_rfl) (by exact rfl) Try.ntmps13 (by simp) ?_
  simp only [frameOf_cons, frameOf_nil, Nat.reduceAdd]
  have hG : Grow h h := Grow.refl h
  unfold f13L at hL
  refine WC.seq ?_
  refine WC.region ?_
  refine WO.boxN h.size gN rfl (evT fh rfl) (vs := [.slice a1 p0.cells.length c2, .slice a3 p0.notes.length c4, .int .i64 p0.names, .slice a5 p0.freed.length c6]) rfl (fun h7 u8 hb9 => ?_)
  have whb9 : h.size ≤ h.size := hG.size
  have hsa1 := hsa1.mono (u8.fz hwm)
  have hsa3 := hsa3.mono (u8.fz hwm)
  have hsa5 := hsa5.mono (u8.fz hwm)
  have hG := u8.grow hG (Nat.le_refl _)
  refine WO.as gN rfl (evC rfl) ?_
  refine WO.nil ?_
  refine SeqK.nrm ?_
  refine WC.seq ?_
  refine WC.seq ?_
  refine WC.region ?_
  refine WO.fld gN rfl fld26_0 (evT (fskip rfl fh) rfl) ?_
  refine WO.ld gN rfl agg22 (evT fh rfl) (At.box hb9) (j := 0) rfl (v := .slice a1 p0.cells.length c2) rfl ?_
  refine WO.len gN rfl und22 (evT fh rfl) ?_
  refine WO.bin gN rfl (evT fh rfl) (evC rfl) abin_gtr ?_
  refine WO.mv gN rfl (evT fh rfl) ?_
  refine WO.gfld (GuardIs.no rfl rfl rfl fh) rfl fld26_1 (fun hg => (evT (fs4 rfl (fs2 rfl fh)) rfl)) ?_
  refine WO.gld (GuardIs.no rfl rfl rfl (fskip rfl fh)) rfl agg23 (fun hg => (evG fh rfl hg)) (fun hg => (At.box hb9)) (j := 1) rfl (v := .slice a3 p0.notes.length c4) rfl ?_
  refine WO.glen (GuardIs.no rfl rfl rfl (fs2 rfl fh)) rfl und23 (fun hg => (evG fh rfl hg)) ?_
  refine WO.gbin (GuardIs.no rfl rfl rfl (fs2 rfl (fskip rfl fh))) rfl (fun hg => (evG fh rfl hg)) (fun hg => (evC rfl)) (fun hg => abin_gtr) ?_
  refine WO.por gN rfl (evT (fs4 rfl fh) rfl) (evC rfl) (evGU fh) ?_
  refine WO.mv gN rfl (evT fh rfl) ?_
  refine WO.gfld (GuardIs.no rfl rfl rfl fh) rfl fld26_3 (fun hg => (evT (fs8 rfl (fs4 rfl fh)) rfl)) ?_
  refine WO.gld (GuardIs.no rfl rfl rfl (fskip rfl fh)) rfl agg24 (fun hg => (evG fh rfl hg)) (fun hg => (At.box hb9)) (j := 3) rfl (v := .slice a5 p0.freed.length c6) rfl ?_
  refine WO.glen (GuardIs.no rfl rfl rfl (fs2 rfl fh)) rfl und24 (fun hg => (evG fh rfl hg)) ?_
  refine WO.gbin (GuardIs.no rfl rfl rfl (fs2 rfl (fskip rfl fh))) rfl (fun hg => (evG fh rfl hg)) (fun hg => (evC rfl)) (fun hg => abin_gtr) ?_
  refine WO.por gN rfl (evT (fs4 rfl fh) rfl) (evC rfl) (evGU fh) ?_
  refine WO.nil ?_
  refine SeqK.nrm ?_
  refine WC.condN (evT fh rfl) (fun hc => ?_) (fun hc => ?_)
  · replace hL := cond_tt hc hL
    refine WC.seq ?_
    refine WC.region ?_
    refine WO.as gN rfl (evC rfl) ?_
    refine WO.nil ?_
    refine SeqK.nrm ?_
    refine WC.ret ?_
    refine SeqK.ret ?_
    have hr := Option.some.inj hL
    subst hr
    exact RetK.gen1 rfl (ares_tmp (evT fh rfl) ares_nil) rfl
  · replace hL := cond_ff hc hL
    refine WC.skip ?_
    refine SeqK.nrm ?_
    refine WC.seq ?_
    refine WC.seq ?_
    refine WC.region ?_
    refine WO.as gN rfl (evC rfl) ?_
    refine WO.nil ?_
    refine SeqK.nrm ?_
    refine WC.block ?_
    refine WC.loop (WL.lift hL (fun (v13 : Int) (s : Fs) => ∃ (fr11 : Fr) (h10 : H), s = ⟨fr11, [], h10, none⟩ ∧ Grow h h10 ∧ fr11.at 1 = .pointer (some ⟨h.size, 0, none⟩) ∧ fr11.at 3 = .int .i64 v13 ∧ h10.at (h.size) = .row [.slice a1 p0.cells.length c2, .slice a3 p0.notes.length c4, .int .i64 p0.names, .slice a5 p0.freed.length c6] true 0 ∧ Sl (rSl rWeighCell) wm h10 a1 c2 p0.cells ∧ Sl rWeighNote wm h10 a3 c4 p0.notes ∧ Sl (rInt .i64) wm h10 a5 c6 p0.freed) ⟨_, _, rfl, hG, (fs8 rfl (fs8 rfl (fs2 rfl fh))), fh, hb9, hsa1, hsa3, hsa5⟩ ?_)
    clear hL
    rintro next19 v13 s hnext19 hL ⟨fr11, h10, rfl, hG, e12, e14, hb15, hs16, hs17, hs18⟩
    dsimp only [f13_b0] at hL
    refine WC.seq ?_
    refine WC.seq ?_
    refine WC.region ?_
    refine WO.mv gN rfl (evT e14 rfl) ?_
    refine WO.fld gN rfl fld26_0 (evT (fskip rfl e12) rfl) ?_
    refine WO.ld gN rfl agg22 (evT fh rfl) (At.box hb15) (j := 0) rfl (v := .slice a1 p0.cells.length c2) rfl ?_
    refine WO.len gN rfl und22 (evT fh rfl) ?_
    refine WO.bin gN rfl (evT (fs2 rfl (fskip rfl fh)) rfl) (evT fh rfl) abin_lss ?_
    refine WO.nil ?_
    refine SeqK.nrm ?_
    refine WC.condN (evT fh rfl) (fun hc => ?_) (fun hc => ?_)
    · replace hL := cond_tt hc hL
      refine WC.skip ?_
      refine SeqK.nrm ?_
      refine WC.seq ?_
      refine WC.block ?_
      refine WC.seq ?_
      refine WC.region ?_
      refine WO.fld gN rfl fld26_0 (evT (fs4 rfl (fskip rfl e12)) rfl) ?_
      refine WO.ld gN rfl agg22 (evT fh rfl) (At.box hb15) (j := 0) rfl (v := .slice a1 p0.cells.length c2) rfl ?_
      refine WO.mv gN rfl (evT (fs4 rfl (fs2 rfl (fskip rfl e14))) rfl) ?_
      obtain ⟨x20, hx20, hL⟩ := bind_some hL
      obtain ⟨b21, o22, ⟨a23, c24⟩, hab21, hAb21, hSb21, hFb21⟩ := Sl.at_ hs16 hx20
      refine WO.ix gN rfl und22 size59 (evT (fskip rfl fh) rfl) (evT fh rfl) hab21 hx20 ?_
      have hsa23 : Sl rWeighCell wm h10 a23 c24 x20 := hFb21
      refine WO.ld gN rfl agg59 (evT fh rfl) hAb21 (j := 0) rfl (v := .slice a23 x20.length c24) rfl ?_
      refine WO.len gN rfl und59 (evT fh rfl) ?_
      refine WO.bin gN rfl (evT fh rfl) (evC rfl) abin_gtr ?_
      refine WO.nil ?_
      refine SeqK.nrm ?_
      refine WC.condN (evT fh rfl) (fun hc => ?_) (fun hc => ?_)
      · replace hL := cond_tt hc hL
        refine WC.seq ?_
        refine WC.region ?_
        refine WO.as gN rfl (evC rfl) ?_
        refine WO.nil ?_
        refine SeqK.nrm ?_
        refine WC.ret ?_
        refine BlkK.ret ?_
        refine SeqK.ret ?_
        refine LoopK.ret ?_
        refine BlkK.ret ?_
        refine SeqK.ret ?_
        have hr := Option.some.inj hL
        subst hr
        exact RetK.gen1 rfl (ares_tmp (evT fh rfl) ares_nil) rfl
      · replace hL := cond_ff hc hL
        refine WC.skip ?_
        refine BlkK.nrm ?_
        refine SeqK.nrm ?_
        refine WC.region ?_
        refine WO.mv gN rfl (evT (fs8 rfl (fs4 rfl e14)) rfl) ?_
        refine WO.bin gN rfl (evT fh rfl) (evC rfl) abin_addw ?_
        refine WO.as gN rfl (evT fh rfl) ?_
        refine WO.nil ?_
        exact LoopK.nrm (hnext19 _ _ hL ⟨_, _, rfl, hG, (fs8 rfl (fs4 rfl (fs2 rfl (fskip rfl e12)))), fh, hb15, hs16, hs17, hs18⟩)
    · replace hL := cond_ff hc hL
      refine WC.exit ?_
      refine SeqK.exit ?_
      refine LoopK.exit ?_
      refine BlkK.here ?_
      refine SeqK.nrm ?_
      refine WC.seq ?_
      refine WC.region ?_
      refine WO.as gN rfl (evC rfl) ?_
      refine WO.nil ?_
      refine SeqK.nrm ?_
      refine WC.ret ?_
      have hr := Option.some.inj hL
      subst hr
      exact RetK.gen1 rfl (ares_tmp (evT fh rfl) ares_nil) rfl
theorem f13_ok {F : Nat} {h : H} {p0 : WeighWorld} {a1 : Option Addr} {c2 : Nat} {a3 : Option Addr} {c4 : Nat} {a5 : Option Addr} {c6 : Nat} {r : Bool} (hsa1 : Sl (rSl rWeighCell) h.size h a1 c2 p0.cells) (hsa3 : Sl rWeighNote h.size h a3 c4 p0.notes) (hsa5 : Sl (rInt .i64) h.size h a5 c6 p0.freed) (hL : f13L F p0 = some r) : Pure XX 13 #[.agg [.slice a1 p0.cells.length c2, .slice a3 p0.notes.length c4, .int .i64 p0.names, .slice a5 p0.freed.length c6].toArray] h (.bool r) :=
  WF.pureR rfl (f13_wf (Nat.le_refl _) hsa1 hsa3 hsa5 hL)
theorem f60_wf {F : Nat} {wm : Nat} {h : H} {p0 : WeighWorld} {a1 : Option Addr} {c2 : Nat} {a3 : Option Addr} {c4 : Nat} {a5 : Option Addr} {c6 : Nat} {r : Bool} (hwm : wm ≤ h.size) (hsa1 : Sl (rSl rWeighCell) wm h a1 c2 p0.cells) (hsa3 : Sl rWeighNote wm h a3 c4 p0.notes) (hsa5 : Sl (rInt .i64) wm h a5 c6 p0.freed) (hL : f60L F p0 = some r) :
    WR XX 60 #[.agg [.slice a1 p0.cells.length c2, .slice a3 p0.notes.length c4, .int .i64 p0.names, .slice a5 p0.freed.length c6].toArray] wm h (fun v _ => v = .bool r) := by
  refine WF.begin (args := [_]) (fn := Try.f60) (by kernel_rfl) (by exact rfl) Try.ntmps60 (by simp) ?_
  simp only [frameOf_cons, frameOf_nil, Nat.reduceAdd]
  have hG : Grow h h := Grow.refl h
  unfold f60L at hL
  refine WC.seq ?_
  refine WC.region ?_
  refine WO.boxN h.size gN rfl (evT fh rfl) (vs := [.slice a1 p0.cells.length c2, .slice a3 p0.notes.length c4, .int .i64 p0.names, .slice a5 p0.freed.length c6]) rfl (fun h7 u8 hb9 => ?_)
  have whb9 : h.size ≤ h.size := hG.size
  have hsa1 := hsa1.mono (u8.fz hwm)
  have hsa3 := hsa3.mono (u8.fz hwm)
  have hsa5 := hsa5.mono (u8.fz hwm)
  have hG := u8.grow hG (Nat.le_refl _)
  refine WO.as gN rfl (evC rfl) ?_
  refine WO.nil ?_
  refine SeqK.nrm ?_
  refine WC.seq ?_
  refine WC.seq ?_
  refine WC.region ?_
  refine WO.fld gN rfl fld26_0 (evT (fskip rfl fh) rfl) ?_
  refine WO.ld gN rfl agg22 (evT fh rfl) (At.box hb9) (j := 0) rfl (v := .slice a1 p0.cells.length c2) rfl ?_
  refine WO.len gN rfl und22 (evT fh rfl) ?_
  obtain ⟨x10, hx10, hL⟩ := bind_some hL
  refine WO.cf gN rfl has53 (evs_cons (evT fh rfl) (evs_cons (evC rfl) (evs_cons (evC rfl) evs_nil))) (f53_ok  hx10 _) ?_
  refine WO.not gN rfl (evT fh rfl) ?_
  refine WO.mv gN rfl (evT fh rfl) ?_
  refine WO.gfld (GuardIs.no rfl rfl rfl fh) rfl fld26_2 (fun hg => (evT (fs4 rfl (fs2 rfl (fskip rfl fh))) rfl)) ?_
  refine WO.gld (GuardIs.no rfl rfl rfl (fskip rfl fh)) rfl agg3 (fun hg => (evG fh rfl hg)) (fun hg => (At.box hb9)) (j := 2) rfl (v := .int .i64 p0.names) rfl ?_
  obtain ⟨x11, hx11, hL⟩ := gd_some hL
  refine WO.gcf (GuardIs.no rfl rfl rfl (fs2 rfl fh)) rfl has53 (fun hg => (evs_cons (evG fh rfl hg) (evs_cons (evC rfl) (evs_cons (evC rfl) evs_nil)))) (fun hg => f53_ok  (hx11 hg) _) ?_
  refine WO.gnot (GuardIs.no rfl rfl rfl (fs2 rfl (fskip rfl fh))) rfl (fun hg => (evG fh rfl hg)) ?_
  refine WO.por gN rfl (evT (fs4 rfl fh) rfl) (evC rfl) (evGU fh) ?_
  refine WO.mv gN rfl (evT fh rfl) ?_
  refine WO.gfld (GuardIs.no rfl rfl rfl fh) rfl fld26_1 (fun hg => (evT (fs8 rfl (fs4 rfl (fskip rfl fh))) rfl)) ?_
  refine WO.gld (GuardIs.no rfl rfl rfl (fskip rfl fh)) rfl agg23 (fun hg => (evG fh rfl hg)) (fun hg => (At.box hb9)) (j := 1) rfl (v := .slice a3 p0.notes.length c4) rfl ?_
  refine WO.glen (GuardIs.no rfl rfl rfl (fs2 rfl fh)) rfl und23 (fun hg => (evG fh rfl hg)) ?_
  refine WO.gbin (GuardIs.no rfl rfl rfl (fs2 rfl (fskip rfl fh))) rfl (fun hg => (evG fh rfl hg)) (fun hg => (evC rfl)) (fun hg => abin_gtr) ?_
  refine WO.por gN rfl (evT (fs4 rfl fh) rfl) (evC rfl) (evGU fh) ?_
  refine WO.mv gN rfl (evT fh rfl) ?_
  refine WO.gfld (GuardIs.no rfl rfl rfl fh) rfl fld26_3 (fun hg => (evT (fs8 rfl (fs8 rfl (fs2 rfl (fskip rfl fh)))) rfl)) ?_
  refine WO.gld (GuardIs.no rfl rfl rfl (fskip rfl fh)) rfl agg24 (fun hg => (evG fh rfl hg)) (fun hg => (At.box hb9)) (j := 3) rfl (v := .slice a5 p0.freed.length c6) rfl ?_
  refine WO.glen (GuardIs.no rfl rfl rfl (fs2 rfl fh)) rfl und24 (fun hg => (evG fh rfl hg)) ?_
  refine WO.gfld (GuardIs.no rfl rfl rfl (fs2 rfl (fskip rfl fh))) rfl fld26_2 (fun hg => (evT (fs8 rfl (fs8 rfl (fs4 rfl (fs2 rfl fh)))) rfl)) ?_
  refine WO.gld (GuardIs.no rfl rfl rfl (fs4 rfl fh)) rfl agg3 (fun hg => (evG fh rfl hg)) (fun hg => (At.box hb9)) (j := 2) rfl (v := .int .i64 p0.names) rfl ?_
  refine WO.gbin (GuardIs.no rfl rfl rfl (fs4 rfl (fskip rfl fh))) rfl (fun hg => (evG (fs2 rfl fh) rfl hg)) (fun hg => (evG fh rfl hg)) (fun hg => abin_gtr) ?_
  refine WO.por gN rfl (evT (fs4 rfl (fs2 rfl fh)) rfl) (evC rfl) (evGU fh) ?_
  refine WO.nil ?_
  refine SeqK.nrm ?_
  refine WC.condN (evT fh rfl) (fun hc => ?_) (fun hc => ?_)
  · replace hL := cond_tt hc hL
    refine WC.seq ?_
    refine WC.region ?_
    refine WO.as gN rfl (evC rfl) ?_
    refine WO.nil ?_
    refine SeqK.nrm ?_
    refine WC.ret ?_
    refine SeqK.ret ?_
    have hr := Option.some.inj hL
    subst hr
    exact RetK.gen1 rfl (ares_tmp (evT fh rfl) ares_nil) rfl
  · replace hL := cond_ff hc hL
    refine WC.skip ?_
    refine SeqK.nrm ?_
    refine WC.seq ?_
    refine WC.seq ?_
    refine WC.region ?_
    refine WO.as gN rfl (evC rfl) ?_
    refine WO.nil ?_
    refine SeqK.nrm ?_
    refine WC.block ?_
    refine WC.loop (WL.lift hL (fun (v15 : Int) (s : Fs) => ∃ (fr13 : Fr) (h12 : H), s = ⟨fr13, [], h12, none⟩ ∧ Grow h h12 ∧ fr13.at 1 = .pointer (some ⟨h.size, 0, none⟩) ∧ fr13.at 3 = .int .i64 v15 ∧ h12.at (h.size) = .row [.slice a1 p0.cells.length c2, .slice a3 p0.notes.length c4, .int .i64 p0.names, .slice a5 p0.freed.length c6] true 0 ∧ Sl (rSl rWeighCell) wm h12 a1 c2 p0.cells ∧ Sl rWeighNote wm h12 a3 c4 p0.notes ∧ Sl (rInt .i64) wm h12 a5 c6 p0.freed) ⟨_, _, rfl, hG, (fs8 rfl (fs8 rfl (fs8 rfl (fs2 rfl (fskip rfl fh))))), fh, hb9, hsa1, hsa3, hsa5⟩ ?_)
    clear hL
    rintro next21 v15 s hnext21 hL ⟨fr13, h12, rfl, hG, e14, e16, hb17, hs18, hs19, hs20⟩
    dsimp only [f60_b0] at hL
    refine WC.seq ?_
    refine WC.seq ?_
    refine WC.region ?_
    refine WO.mv gN rfl (evT e16 rfl) ?_
    refine WO.fld gN rfl fld26_3 (evT (fskip rfl e14) rfl) ?_
    refine WO.ld gN rfl agg24 (evT fh rfl) (At.box hb17) (j := 3) rfl (v := .slice a5 p0.freed.length c6) rfl ?_
    refine WO.len gN rfl und24 (evT fh rfl) ?_
    refine WO.bin gN rfl (evT (fs2 rfl (fskip rfl fh)) rfl) (evT fh rfl) abin_lss ?_
    refine WO.nil ?_
    refine SeqK.nrm ?_
    refine WC.condN (evT fh rfl) (fun hc => ?_) (fun hc => ?_)
    · replace hL := cond_tt hc hL
      refine WC.skip ?_
      refine SeqK.nrm ?_
      refine WC.seq ?_
      refine WC.block ?_
      refine WC.seq ?_
      refine WC.drawQ mixed (by kernel_rfl) ?_
      refine WQ.fld gN rfl fld26_3 (evT (fs4 rfl (fskip rfl e14)) rfl) ?_
      refine WQ.ld gN rfl agg24 (evT fh rfl) (At.box hb17) (j := 3) rfl (v := .slice a5 p0.freed.length c6) rfl ?_
      refine WQ.mv gN rfl (evT (fs4 rfl (fs2 rfl (fskip rfl e16))) rfl) ?_
      obtain ⟨x22, hx22, hL⟩ := bind_some hL
      obtain ⟨b23, o24, _, hab23, hAb23, hSb23, hFb23⟩ := Sl.at_ hs20 hx22
      refine WQ.ix gN rfl und24 size3 (evT (fskip rfl fh) rfl) (evT fh rfl) hab23 hx22 ?_
      refine WQ.ld gN rfl agg3 (evT fh rfl) hAb23 (j := 0) rfl (v := .int .i64 x22) rfl ?_
      refine WQ.fld gN rfl fld26_2 (evT (fs8 rfl (fs2 rfl e14)) rfl) ?_
      refine WQ.ld gN rfl agg3 (evT fh rfl) (At.box hb17) (j := 2) rfl (v := .int .i64 p0.names) rfl ?_
      refine WQ.bin gN rfl (evT fh rfl) (evC rfl) abin_subw ?_
      obtain ⟨x25, hx25, hL⟩ := bind_some hL
      refine WQ.cf gN rfl has53 (evs_cons (evT (fs2 rfl (fskip rfl fh)) rfl) (evs_cons (evC rfl) (evs_cons (evT fh rfl) evs_nil))) (f53_ok  hx25 _) ?_
      refine WQ.not gN rfl (evT fh rfl) ?_
      refine WQ.mv gN rfl (evT fh rfl) ?_
      refine WQ.gmv (GuardIs.no rfl rfl rfl fh) rfl (fun hg => (evT (fs8 rfl (fs8 rfl e16)) rfl)) ?_
      refine WQ.gbin (GuardIs.no rfl rfl rfl (fskip rfl fh)) rfl (fun hg => (evG fh rfl hg)) (fun hg => (evC rfl)) (fun hg => abin_gtr) ?_
      refine WQ.gmv (GuardIs.no rfl rfl rfl (fs2 rfl fh)) rfl (fun hg => (evG fh rfl hg)) ?_
      refine WQ.gfld (GuardIs.yes2 rfl rfl rfl fh) rfl fld26_3 (fun hg => (evT (fs8 rfl (fs8 rfl (fs2 rfl (fskip rfl e14)))) rfl)) ?_
      refine WQ.gld (GuardIs.yes2 rfl rfl rfl (fskip rfl fh)) rfl agg24 (fun hg => (evG fh rfl hg)) (fun hg => (At.box hb17)) (j := 3) rfl (v := .slice a5 p0.freed.length c6) rfl ?_
      refine WQ.gmv (GuardIs.yes2 rfl rfl rfl (fs2 rfl fh)) rfl (fun hg => (evT (fs8 rfl (fs8 rfl (fs4 rfl (fskip rfl e16)))) rfl)) ?_
      obtain ⟨x26, hx26, hL⟩ := gd_some hL
      obtain ⟨b27, o28, _, hQ⟩ := Sl.atG (fun hg => hs20) hx26
      have hab27 := fun hg => (hQ hg).1
      have hAb27 := fun hg => (hQ hg).2.1
      have hSb27 := fun hg => (hQ hg).2.2.1
      have hFb27 := fun hg => (hQ hg).2.2.2
      refine WQ.gix (GuardIs.yes2 rfl rfl rfl (fs2 rfl (fskip rfl fh))) rfl und24 size3 (fun hg => (evG (fskip rfl fh) rfl hg)) (fun hg => (evG fh rfl hg)) hab27 hx26 ?_
      refine WQ.gld (GuardIs.yes2 rfl rfl rfl (fs4 rfl fh)) rfl agg3 (fun hg => (evG fh rfl hg)) (fun hg => (hAb27 hg)) (j := 0) rfl (v := .int .i64 x26) rfl ?_
      refine WQ.gfld (GuardIs.yes2 rfl rfl rfl (fs4 rfl (fskip rfl fh))) rfl fld26_3 (fun hg => (evT (fs8 rfl (fs8 rfl (fs8 rfl e14))) rfl)) ?_
      refine WQ.gld (GuardIs.yes2 rfl rfl rfl (fs4 rfl (fs2 rfl fh))) rfl agg24 (fun hg => (evG fh rfl hg)) (fun hg => (At.box hb17)) (j := 3) rfl (v := .slice a5 p0.freed.length c6) rfl ?_
      refine WQ.gmv (GuardIs.yes2 rfl rfl rfl (fs4 rfl (fs2 rfl (fskip rfl fh)))) rfl (fun hg => (evT (fs8 rfl (fs8 rfl (fs8 rfl (fs2 rfl e16)))) rfl)) ?_
      refine WQ.gbin (GuardIs.yes2 rfl rfl rfl (fs8 rfl fh)) rfl (fun hg => (evG fh rfl hg)) (fun hg => (evC rfl)) (fun hg => abin_subw) ?_
      obtain ⟨x29, hx29, hL⟩ := gd_some hL
      obtain ⟨b30, o31, _, hQ⟩ := Sl.atG (fun hg => hs20) hx29
      have hab30 := fun hg => (hQ hg).1
      have hAb30 := fun hg => (hQ hg).2.1
      have hSb30 := fun hg => (hQ hg).2.2.1
      have hFb30 := fun hg => (hQ hg).2.2.2
      refine WQ.gix (GuardIs.yes2 rfl rfl rfl (fs8 rfl (fskip rfl fh))) rfl und24 size3 (fun hg => (evG (fs2 rfl fh) rfl hg)) (fun hg => (evG fh rfl hg)) hab30 hx29 ?_
      refine WQ.gld (GuardIs.yes2 rfl rfl rfl (fs8 rfl (fs2 rfl fh))) rfl agg3 (fun hg => (evG fh rfl hg)) (fun hg => (hAb30 hg)) (j := 0) rfl (v := .int .i64 x29) rfl ?_
      refine WQ.gbin (GuardIs.yes2 rfl rfl rfl (fs8 rfl (fs2 rfl (fskip rfl fh)))) rfl (fun hg => (evG (fs4 rfl (fs2 rfl fh)) rfl hg)) (fun hg => (evG fh rfl hg)) (fun hg => abin_leq) ?_
      refine WQ.gand (GuardIs.no rfl rfl rfl (fs8 rfl (fs4 rfl (fs2 rfl (fskip rfl fh))))) rfl (fun hg => (evG (fs8 rfl (fs4 rfl fh)) rfl hg)) (fun hg => evGU2 fh hg) (fun hg => (evC rfl)) ?_
      refine WQ.or gN rfl (evT (fs8 rfl (fs8 rfl fh)) rfl) (evC rfl) (evGU fh) ?_
      refine WQ.nil ?_
      refine SeqK.nrm ?_
      refine WC.condN (evT fh rfl) (fun hc => ?_) (fun hc => ?_)
      · replace hL := cond_tt hc hL
        refine WC.seq ?_
        refine WC.region ?_
        refine WO.as gN rfl (evC rfl) ?_
        refine WO.nil ?_
        refine SeqK.nrm ?_
        refine WC.ret ?_
        refine BlkK.ret ?_
        refine SeqK.ret ?_
        refine LoopK.ret ?_
        refine BlkK.ret ?_
        refine SeqK.ret ?_
        have hr := Option.some.inj hL
        subst hr
        exact RetK.gen1 rfl (ares_tmp (evT fh rfl) ares_nil) rfl
      · replace hL := cond_ff hc hL
        refine WC.skip ?_
        refine BlkK.nrm ?_
        refine SeqK.nrm ?_
        refine WC.region ?_
        refine WO.mv gN rfl (evT (fs8 rfl (fs8 rfl (fs8 rfl (fs8 rfl (fskip rfl e16))))) rfl) ?_
        refine WO.bin gN rfl (evT fh rfl) (evC rfl) abin_addw ?_
        refine WO.as gN rfl (evT fh rfl) ?_
        refine WO.nil ?_
        exact LoopK.nrm (hnext21 _ _ hL ⟨_, _, rfl, hG, (fs8 rfl (fs8 rfl (fs8 rfl (fs8 rfl (fs4 rfl e14))))), fh, hb17, hs18, hs19, hs20⟩)
    · replace hL := cond_ff hc hL
      refine WC.exit ?_
      refine SeqK.exit ?_
      refine LoopK.exit ?_
      refine BlkK.here ?_
      refine SeqK.nrm ?_
      refine WC.seq ?_
      refine WC.seq ?_
      refine WC.region ?_
      refine WO.as gN rfl (evC rfl) ?_
      refine WO.nil ?_
      refine SeqK.nrm ?_
      refine WC.block ?_
      refine WC.loop (WL.lift hL (fun (v35 : Int) (s : Fs) => ∃ (fr33 : Fr) (h32 : H), s = ⟨fr33, [], h32, none⟩ ∧ Grow h h32 ∧ fr33.at 1 = .pointer (some ⟨h.size, 0, none⟩) ∧ fr33.at 4 = .int .i64 v35 ∧ h32.at (h.size) = .row [.slice a1 p0.cells.length c2, .slice a3 p0.notes.length c4, .int .i64 p0.names, .slice a5 p0.freed.length c6] true 0 ∧ Sl (rSl rWeighCell) wm h32 a1 c2 p0.cells ∧ Sl rWeighNote wm h32 a3 c4 p0.notes ∧ Sl (rInt .i64) wm h32 a5 c6 p0.freed) ⟨_, _, rfl, hG, (fs4 rfl (fs2 rfl e14)), fh, hb17, hs18, hs19, hs20⟩ ?_)
      clear hL
      rintro next41 v35 s hnext41 hL ⟨fr33, h32, rfl, hG, e34, e36, hb37, hs38, hs39, hs40⟩
      dsimp only [f60_b1] at hL
      refine WC.seq ?_
      refine WC.seq ?_
      refine WC.region ?_
      refine WO.mv gN rfl (evT e36 rfl) ?_
      refine WO.fld gN rfl fld26_0 (evT (fskip rfl e34) rfl) ?_
      refine WO.ld gN rfl agg22 (evT fh rfl) (At.box hb37) (j := 0) rfl (v := .slice a1 p0.cells.length c2) rfl ?_
      refine WO.len gN rfl und22 (evT fh rfl) ?_
      refine WO.bin gN rfl (evT (fs2 rfl (fskip rfl fh)) rfl) (evT fh rfl) abin_lss ?_
      refine WO.nil ?_
      refine SeqK.nrm ?_
      refine WC.condN (evT fh rfl) (fun hc => ?_) (fun hc => ?_)
      · replace hL := cond_tt hc hL
        refine WC.skip ?_
        refine SeqK.nrm ?_
        refine WC.seq ?_
        refine WC.block ?_
        refine WC.seq ?_
        refine WC.region ?_
        refine WO.fld gN rfl fld26_0 (evT (fs4 rfl (fskip rfl e34)) rfl) ?_
        refine WO.ld gN rfl agg22 (evT fh rfl) (At.box hb37) (j := 0) rfl (v := .slice a1 p0.cells.length c2) rfl ?_
        refine WO.mv gN rfl (evT (fs4 rfl (fs2 rfl (fskip rfl e36))) rfl) ?_
        obtain ⟨x42, hx42, hL⟩ := bind_some hL
        obtain ⟨b43, o44, ⟨a45, c46⟩, hab43, hAb43, hSb43, hFb43⟩ := Sl.at_ hs38 hx42
        refine WO.ix gN rfl und22 size59 (evT (fskip rfl fh) rfl) (evT fh rfl) hab43 hx42 ?_
        have hsa45 : Sl rWeighCell wm h32 a45 c46 x42 := hFb43
        refine WO.ld gN rfl agg59 (evT fh rfl) hAb43 (j := 0) rfl (v := .slice a45 x42.length c46) rfl ?_
        refine WO.as gN rfl (evT fh rfl) ?_
        refine WO.nil ?_
        refine SeqK.nrm ?_
        refine WC.seq ?_
        refine WC.seq ?_
        refine WC.region ?_
        refine WO.mv gN rfl (evT fh rfl) ?_
        refine WO.len gN rfl und59 (evT fh rfl) ?_
        refine WO.fld gN rfl fld26_2 (evT (fs8 rfl (fs4 rfl (fskip rfl e34))) rfl) ?_
        refine WO.ld gN rfl agg3 (evT fh rfl) (At.box hb37) (j := 2) rfl (v := .int .i64 p0.names) rfl ?_
        refine WO.bin gN rfl (evT (fs2 rfl fh) rfl) (evT fh rfl) abin_gtr ?_
        refine WO.nil ?_
        refine SeqK.nrm ?_
        refine WC.condN (evT fh rfl) (fun hc => ?_) (fun hc => ?_)
        · replace hL := cond_tt hc hL
          refine WC.seq ?_
          refine WC.region ?_
          refine WO.as gN rfl (evC rfl) ?_
          refine WO.nil ?_
          refine SeqK.nrm ?_
          refine WC.ret ?_
          refine SeqK.ret ?_
          refine BlkK.ret ?_
          refine SeqK.ret ?_
          refine LoopK.ret ?_
          refine BlkK.ret ?_
          refine SeqK.ret ?_
          have hr := Option.some.inj hL
          subst hr
          exact RetK.gen1 rfl (ares_tmp (evT fh rfl) ares_nil) rfl
        · replace hL := cond_ff hc hL
          refine WC.skip ?_
          refine SeqK.nrm ?_
          refine WC.seq ?_
          refine WC.region ?_
          refine WO.as gN rfl (evC rfl) ?_
          refine WO.nil ?_
          refine SeqK.nrm ?_
          refine WC.block ?_
          refine WC.loop (WL.lift hL (fun (v52 : Int) (s : Fs) => ∃ (fr48 : Fr) (h47 : H), s = ⟨fr48, [], h47, none⟩ ∧ Grow h h47 ∧ fr48.at 1 = .pointer (some ⟨h.size, 0, none⟩) ∧ fr48.at 4 = .int .i64 v35 ∧ fr48.at 5 = .slice a45 x42.length c46 ∧ fr48.at 6 = .int .i64 v52 ∧ h47.at (h.size) = .row [.slice a1 p0.cells.length c2, .slice a3 p0.notes.length c4, .int .i64 p0.names, .slice a5 p0.freed.length c6] true 0 ∧ Sl rWeighCell wm h47 a45 c46 x42 ∧ Sl (rSl rWeighCell) wm h47 a1 c2 p0.cells ∧ Sl rWeighNote wm h47 a3 c4 p0.notes ∧ Sl (rInt .i64) wm h47 a5 c6 p0.freed) ⟨_, _, rfl, hG, (fs8 rfl (fs8 rfl (fskip rfl e34))), (fs8 rfl (fs8 rfl (fskip rfl e36))), (fs4 rfl (fs2 rfl fh)), fh, hb37, hsa45, hs38, hs39, hs40⟩ ?_)
          clear hL
          rintro next59 v52 s hnext59 hL ⟨fr48, h47, rfl, hG, e49, e50, e51, e53, hb54, hs55, hs56, hs57, hs58⟩
          dsimp only [f60_b2] at hL
          refine WC.seq ?_
          refine WC.seq ?_
          refine WC.region ?_
          refine WO.mv gN rfl (evT e53 rfl) ?_
          refine WO.mv gN rfl (evT (fskip rfl e51) rfl) ?_
          refine WO.len gN rfl und59 (evT fh rfl) ?_
          refine WO.bin gN rfl (evT (fs2 rfl fh) rfl) (evT fh rfl) abin_lss ?_
          refine WO.nil ?_
          refine SeqK.nrm ?_
          refine WC.condN (evT fh rfl) (fun hc => ?_) (fun hc => ?_)
          · replace hL := cond_tt hc hL
            refine WC.skip ?_
            refine SeqK.nrm ?_
            refine WC.seq ?_
            refine WC.block ?_
            refine WC.seq ?_
            refine WC.drawQ mixed (by kernel_rfl) ?_
            refine WQ.ldA gN rfl agg26 size26 (evT (fs4 rfl e49) rfl) (At.box hb54) (j := 0) rfl rfl (ws := [.slice a1 p0.cells.length c2, .slice a3 p0.notes.length c4, .int .i64 p0.names, .slice a5 p0.freed.length c6]) rfl ?_
            refine WQ.mv gN rfl (evT (fs4 rfl (fskip rfl e50)) rfl) ?_
            refine WQ.mv gN rfl (evT (fs4 rfl (fs2 rfl e51)) rfl) ?_
            refine WQ.mv gN rfl (evT (fs4 rfl (fs2 rfl (fskip rfl e53))) rfl) ?_
            obtain ⟨x60, hx60, hL⟩ := bind_some hL
            obtain ⟨b61, o62, _, hab61, hAb61, hSb61, hFb61⟩ := Sl.at_ hs55 hx60
            refine WQ.ix gN rfl und59 size61 (evT (fskip rfl fh) rfl) (evT fh rfl) hab61 hx60 ?_
            refine WQ.ldA gN rfl agg61 size61 (evT fh rfl) hAb61 (j := 0) rfl rfl (ws := [.int .i64 x60.name, .bool x60.root, .int .i64 x60.from_, .int .i64 x60.has, .int .i64 x60.out, .bool x60.use]) rfl ?_
            obtain ⟨x63, hx63, hL⟩ := bind_some hL
            refine WQ.cf gN rfl has98 (evs_cons (evT (fs4 rfl (fskip rfl fh)) rfl) (evs_cons (evT (fs4 rfl fh) rfl) (evs_cons (evT fh rfl) evs_nil))) (f98_ok (Src.sl (Sl.src hs56) (Nat.le_trans hwm hG.size)) (Src.sl (Sl.src hs57) (Nat.le_trans hwm hG.size)) (Src.sl (Sl.src hs58) (Nat.le_trans hwm hG.size)) hx63 _) ?_
            refine WQ.not gN rfl (evT fh rfl) ?_
            refine WQ.mv gN rfl (evT fh rfl) ?_
            refine WQ.gmv (GuardIs.no rfl rfl rfl fh) rfl (fun hg => (evT (fs8 rfl (fs4 rfl (fskip rfl e53))) rfl)) ?_
            refine WQ.gbin (GuardIs.no rfl rfl rfl (fskip rfl fh)) rfl (fun hg => (evG fh rfl hg)) (fun hg => (evC rfl)) (fun hg => abin_gtr) ?_
            refine WQ.gmv (GuardIs.no rfl rfl rfl (fs2 rfl fh)) rfl (fun hg => (evG fh rfl hg)) ?_
            refine WQ.gmv (GuardIs.yes2 rfl rfl rfl fh) rfl (fun hg => (evT (fs8 rfl (fs8 rfl e51)) rfl)) ?_
            refine WQ.gmv (GuardIs.yes2 rfl rfl rfl (fskip rfl fh)) rfl (fun hg => (evT (fs8 rfl (fs8 rfl (fskip rfl e53))) rfl)) ?_
            obtain ⟨x64, hx64, hL⟩ := gd_some hL
            obtain ⟨b65, o66, _, hQ⟩ := Sl.atG (fun hg => hs55) hx64
            have hab65 := fun hg => (hQ hg).1
            have hAb65 := fun hg => (hQ hg).2.1
            have hSb65 := fun hg => (hQ hg).2.2.1
            have hFb65 := fun hg => (hQ hg).2.2.2
            refine WQ.gix (GuardIs.yes2 rfl rfl rfl (fs2 rfl fh)) rfl und59 size61 (fun hg => (evG (fskip rfl fh) rfl hg)) (fun hg => (evG fh rfl hg)) hab65 hx64 ?_
            refine WQ.gfld (GuardIs.yes2 rfl rfl rfl (fs2 rfl (fskip rfl fh))) rfl fld61_0 (fun hg => (evG fh rfl hg)) ?_
            refine WQ.gld (GuardIs.yes2 rfl rfl rfl (fs4 rfl fh)) rfl agg3 (fun hg => (evG fh rfl hg)) (fun hg => (hAb65 hg)) (j := 0) rfl (v := .int .i64 x64.name) rfl ?_
            refine WQ.gmv (GuardIs.yes2 rfl rfl rfl (fs4 rfl (fskip rfl fh))) rfl (fun hg => (evT (fs8 rfl (fs8 rfl (fs4 rfl (fskip rfl e51)))) rfl)) ?_
            refine WQ.gmv (GuardIs.yes2 rfl rfl rfl (fs4 rfl (fs2 rfl fh))) rfl (fun hg => (evT (fs8 rfl (fs8 rfl (fs4 rfl (fs2 rfl e53)))) rfl)) ?_
            refine WQ.gbin (GuardIs.yes2 rfl rfl rfl (fs4 rfl (fs2 rfl (fskip rfl fh)))) rfl (fun hg => (evG fh rfl hg)) (fun hg => (evC rfl)) (fun hg => abin_subw) ?_
            obtain ⟨x67, hx67, hL⟩ := gd_some hL
            obtain ⟨b68, o69, _, hQ⟩ := Sl.atG (fun hg => hs55) hx67
            have hab68 := fun hg => (hQ hg).1
            have hAb68 := fun hg => (hQ hg).2.1
            have hSb68 := fun hg => (hQ hg).2.2.1
            have hFb68 := fun hg => (hQ hg).2.2.2
            refine WQ.gix (GuardIs.yes2 rfl rfl rfl (fs8 rfl fh)) rfl und59 size61 (fun hg => (evG (fs2 rfl fh) rfl hg)) (fun hg => (evG fh rfl hg)) hab68 hx67 ?_
            refine WQ.gfld (GuardIs.yes2 rfl rfl rfl (fs8 rfl (fskip rfl fh))) rfl fld61_0 (fun hg => (evG fh rfl hg)) ?_
            refine WQ.gld (GuardIs.yes2 rfl rfl rfl (fs8 rfl (fs2 rfl fh))) rfl agg3 (fun hg => (evG fh rfl hg)) (fun hg => (hAb68 hg)) (j := 0) rfl (v := .int .i64 x67.name) rfl ?_
            refine WQ.gbin (GuardIs.yes2 rfl rfl rfl (fs8 rfl (fs2 rfl (fskip rfl fh)))) rfl (fun hg => (evG (fs4 rfl (fs2 rfl fh)) rfl hg)) (fun hg => (evG fh rfl hg)) (fun hg => abin_leq) ?_
            refine WQ.gand (GuardIs.no rfl rfl rfl (fs8 rfl (fs4 rfl (fs2 rfl (fskip rfl fh))))) rfl (fun hg => (evG (fs8 rfl (fs4 rfl fh)) rfl hg)) (fun hg => evGU2 fh hg) (fun hg => (evC rfl)) ?_
            refine WQ.or gN rfl (evT (fs8 rfl (fs8 rfl fh)) rfl) (evC rfl) (evGU fh) ?_
            refine WQ.nil ?_
            refine SeqK.nrm ?_
            refine WC.condN (evT fh rfl) (fun hc => ?_) (fun hc => ?_)
            · replace hL := cond_tt hc hL
              refine WC.seq ?_
              refine WC.region ?_
              refine WO.as gN rfl (evC rfl) ?_
              refine WO.nil ?_
              refine SeqK.nrm ?_
              refine WC.ret ?_
              refine BlkK.ret ?_
              refine SeqK.ret ?_
              refine LoopK.ret ?_
              refine BlkK.ret ?_
              refine BlkK.ret ?_
              refine SeqK.ret ?_
              refine LoopK.ret ?_
              refine BlkK.ret ?_
              refine SeqK.ret ?_
              have hr := Option.some.inj hL
              subst hr
              exact RetK.gen1 rfl (ares_tmp (evT fh rfl) ares_nil) rfl
            · replace hL := cond_ff hc hL
              refine WC.skip ?_
              refine BlkK.nrm ?_
              refine SeqK.nrm ?_
              refine WC.region ?_
              refine WO.mv gN rfl (evT (fs8 rfl (fs8 rfl (fs8 rfl (fs4 rfl (fs2 rfl e53))))) rfl) ?_
              refine WO.bin gN rfl (evT fh rfl) (evC rfl) abin_addw ?_
              refine WO.as gN rfl (evT fh rfl) ?_
              refine WO.nil ?_
              exact LoopK.nrm (hnext59 _ _ hL ⟨_, _, rfl, hG, (fs8 rfl (fs8 rfl (fs8 rfl (fs8 rfl (fskip rfl e49))))), (fs8 rfl (fs8 rfl (fs8 rfl (fs8 rfl (fskip rfl e50))))), (fs8 rfl (fs8 rfl (fs8 rfl (fs8 rfl (fskip rfl e51))))), fh, hb54, hs55, hs56, hs57, hs58⟩)
          · replace hL := cond_ff hc hL
            refine WC.exit ?_
            refine SeqK.exit ?_
            refine LoopK.exit ?_
            refine BlkK.here ?_
            refine BlkK.nrm ?_
            refine SeqK.nrm ?_
            refine WC.region ?_
            refine WO.mv gN rfl (evT (fs4 rfl e50) rfl) ?_
            refine WO.bin gN rfl (evT fh rfl) (evC rfl) abin_addw ?_
            refine WO.as gN rfl (evT fh rfl) ?_
            refine WO.nil ?_
            exact LoopK.nrm (hnext41 _ _ hL ⟨_, _, rfl, hG, (fs4 rfl (fs2 rfl (fskip rfl e49))), fh, hb54, hs56, hs57, hs58⟩)
      · replace hL := cond_ff hc hL
        refine WC.exit ?_
        refine SeqK.exit ?_
        refine LoopK.exit ?_
        refine BlkK.here ?_
        refine SeqK.nrm ?_
        refine WC.seq ?_
        refine WC.seq ?_
        refine WC.region ?_
        refine WO.as gN rfl (evC rfl) ?_
        refine WO.nil ?_
        refine SeqK.nrm ?_
        refine WC.block ?_
        refine WC.loop (WL.lift hL (fun (v73 : Int) (s : Fs) => ∃ (fr71 : Fr) (h70 : H), s = ⟨fr71, [], h70, none⟩ ∧ Grow h h70 ∧ fr71.at 1 = .pointer (some ⟨h.size, 0, none⟩) ∧ fr71.at 7 = .int .i64 v73 ∧ h70.at (h.size) = .row [.slice a1 p0.cells.length c2, .slice a3 p0.notes.length c4, .int .i64 p0.names, .slice a5 p0.freed.length c6] true 0 ∧ Sl (rSl rWeighCell) wm h70 a1 c2 p0.cells ∧ Sl rWeighNote wm h70 a3 c4 p0.notes ∧ Sl (rInt .i64) wm h70 a5 c6 p0.freed) ⟨_, _, rfl, hG, (fs4 rfl (fs2 rfl e34)), fh, hb37, hs38, hs39, hs40⟩ ?_)
        clear hL
        rintro next79 v73 s hnext79 hL ⟨fr71, h70, rfl, hG, e72, e74, hb75, hs76, hs77, hs78⟩
        dsimp only [f60_b3] at hL
        refine WC.seq ?_
        refine WC.seq ?_
        refine WC.region ?_
        refine WO.mv gN rfl (evT e74 rfl) ?_
        refine WO.fld gN rfl fld26_1 (evT (fskip rfl e72) rfl) ?_
        refine WO.ld gN rfl agg23 (evT fh rfl) (At.box hb75) (j := 1) rfl (v := .slice a3 p0.notes.length c4) rfl ?_
        refine WO.len gN rfl und23 (evT fh rfl) ?_
        refine WO.bin gN rfl (evT (fs2 rfl (fskip rfl fh)) rfl) (evT fh rfl) abin_lss ?_
        refine WO.nil ?_
        refine SeqK.nrm ?_
        refine WC.condN (evT fh rfl) (fun hc => ?_) (fun hc => ?_)
        · replace hL := cond_tt hc hL
          refine WC.skip ?_
          refine SeqK.nrm ?_
          refine WC.seq ?_
          refine WC.block ?_
          refine WC.seq ?_
          refine WC.drawQ mixed (by kernel_rfl) ?_
          refine WQ.ldA gN rfl agg26 size26 (evT (fs4 rfl (fskip rfl e72)) rfl) (At.box hb75) (j := 0) rfl rfl (ws := [.slice a1 p0.cells.length c2, .slice a3 p0.notes.length c4, .int .i64 p0.names, .slice a5 p0.freed.length c6]) rfl ?_
          refine WQ.fld gN rfl fld26_1 (evT (fs4 rfl (fs2 rfl e72)) rfl) ?_
          refine WQ.ld gN rfl agg23 (evT fh rfl) (At.box hb75) (j := 1) rfl (v := .slice a3 p0.notes.length c4) rfl ?_
          refine WQ.mv gN rfl (evT (fs8 rfl e74) rfl) ?_
          obtain ⟨x80, hx80, hL⟩ := bind_some hL
          obtain ⟨b81, o82, _, hab81, hAb81, hSb81, hFb81⟩ := Sl.at_ hs77 hx80
          refine WQ.ix gN rfl und23 size58 (evT (fskip rfl fh) rfl) (evT fh rfl) hab81 hx80 ?_
          refine WQ.ldA gN rfl agg58 size58 (evT fh rfl) hAb81 (j := 0) rfl rfl (ws := [.int .i64 x80.kind, .int .i64 x80.to_, .int .i64 x80.name, .int .i64 x80.via, .int .i64 x80.w]) rfl ?_
          obtain ⟨x83, hx83, hL⟩ := bind_some hL
          refine WQ.cf gN rfl has99 (evs_cons (evT (fs4 rfl (fskip rfl fh)) rfl) (evs_cons (evT fh rfl) evs_nil)) (f99_ok (Src.sl (Sl.src hs76) (Nat.le_trans hwm hG.size)) (Src.sl (Sl.src hs77) (Nat.le_trans hwm hG.size)) (Src.sl (Sl.src hs78) (Nat.le_trans hwm hG.size)) hx83 _) ?_
          refine WQ.not gN rfl (evT fh rfl) ?_
          refine WQ.nil ?_
          refine SeqK.nrm ?_
          refine WC.condN (evT fh rfl) (fun hc => ?_) (fun hc => ?_)
          · replace hL := cond_tt hc hL
            refine WC.seq ?_
            refine WC.region ?_
            refine WO.as gN rfl (evC rfl) ?_
            refine WO.nil ?_
            refine SeqK.nrm ?_
            refine WC.ret ?_
            refine BlkK.ret ?_
            refine SeqK.ret ?_
            refine LoopK.ret ?_
            refine BlkK.ret ?_
            refine SeqK.ret ?_
            have hr := Option.some.inj hL
            subst hr
            exact RetK.gen1 rfl (ares_tmp (evT fh rfl) ares_nil) rfl
          · replace hL := cond_ff hc hL
            refine WC.skip ?_
            refine BlkK.nrm ?_
            refine SeqK.nrm ?_
            refine WC.region ?_
            refine WO.mv gN rfl (evT (fs8 rfl (fs4 rfl (fskip rfl e74))) rfl) ?_
            refine WO.bin gN rfl (evT fh rfl) (evC rfl) abin_addw ?_
            refine WO.as gN rfl (evT fh rfl) ?_
            refine WO.nil ?_
            exact LoopK.nrm (hnext79 _ _ hL ⟨_, _, rfl, hG, (fs8 rfl (fs8 rfl e72)), fh, hb75, hs76, hs77, hs78⟩)
        · replace hL := cond_ff hc hL
          refine WC.exit ?_
          refine SeqK.exit ?_
          refine LoopK.exit ?_
          refine BlkK.here ?_
          refine SeqK.nrm ?_
          refine WC.seq ?_
          refine WC.region ?_
          refine WO.as gN rfl (evC rfl) ?_
          refine WO.nil ?_
          refine SeqK.nrm ?_
          refine WC.ret ?_
          have hr := Option.some.inj hL
          subst hr
          exact RetK.gen1 rfl (ares_tmp (evT fh rfl) ares_nil) rfl
theorem f60_ok {F : Nat} {h : H} {p0 : WeighWorld} {a1 : Option Addr} {c2 : Nat} {a3 : Option Addr} {c4 : Nat} {a5 : Option Addr} {c6 : Nat} {r : Bool} (hsa1 : Sl (rSl rWeighCell) h.size h a1 c2 p0.cells) (hsa3 : Sl rWeighNote h.size h a3 c4 p0.notes) (hsa5 : Sl (rInt .i64) h.size h a5 c6 p0.freed) (hL : f60L F p0 = some r) : Pure XX 60 #[.agg [.slice a1 p0.cells.length c2, .slice a3 p0.notes.length c4, .int .i64 p0.names, .slice a5 p0.freed.length c6].toArray] h (.bool r) :=
  WF.pureR rfl (f60_wf (Nat.le_refl _) hsa1 hsa3 hsa5 hL)
theorem f70_wf {F : Nat} {wm : Nat} {h : H} {p0 : WeighWorld} {p1 : Int} {p2 : Int} {a1 : Option Addr} {c2 : Nat} {a3 : Option Addr} {c4 : Nat} {a5 : Option Addr} {c6 : Nat} {r : Int} (hwm : wm ≤ h.size) (hsa1 : Sl (rSl rWeighCell) wm h a1 c2 p0.cells) (hsa3 : Sl rWeighNote wm h a3 c4 p0.notes) (hsa5 : Sl (rInt .i64) wm h a5 c6 p0.freed) (hL : f70L F p0 p1 p2 = some r) :
    WR XX 70 #[.agg [.slice a1 p0.cells.length c2, .slice a3 p0.notes.length c4, .int .i64 p0.names, .slice a5 p0.freed.length c6].toArray, .int .i64 p1, .int .i64 p2] wm h (fun v _ => v = .int .i64 r) := by
  refine WF.begin (args := [_, _, _]) (fn := Try.f70) (by kernel_rfl) (by exact rfl) Try.ntmps70 (by simp) ?_
  simp only [frameOf_cons, frameOf_nil, Nat.reduceAdd]
  have hG : Grow h h := Grow.refl h
  unfold f70L at hL
  refine WC.seq ?_
  refine WC.region ?_
  refine WO.boxN h.size gN rfl (evT (fs2 rfl fh) rfl) (vs := [.slice a1 p0.cells.length c2, .slice a3 p0.notes.length c4, .int .i64 p0.names, .slice a5 p0.freed.length c6]) rfl (fun h7 u8 hb9 => ?_)
  have whb9 : h.size ≤ h.size := hG.size
  have hsa1 := hsa1.mono (u8.fz hwm)
  have hsa3 := hsa3.mono (u8.fz hwm)
  have hsa5 := hsa5.mono (u8.fz hwm)
  have hG := u8.grow hG (Nat.le_refl _)
  refine WO.as gN rfl (evC rfl) ?_
  refine WO.nil ?_
  refine SeqK.nrm ?_
  refine WC.seq ?_
  refine WC.region ?_
  refine WO.as gN rfl (evC rfl) ?_
  refine WO.nil ?_
  refine SeqK.nrm ?_
  refine WC.seq ?_
  refine WC.seq ?_
  refine WC.region ?_
  refine WO.as gN rfl (evC rfl) ?_
  refine WO.nil ?_
  refine SeqK.nrm ?_
  refine WC.block ?_
  refine WC.loop (WL.lift hL (fun (p : Int × Int) (s : Fs) => match p with | (v15, v17) => ∃ (fr11 : Fr) (h10 : H), s = ⟨fr11, [], h10, none⟩ ∧ Grow h h10 ∧ fr11.at 1 = .int .i64 p1 ∧ fr11.at 2 = .int .i64 p2 ∧ fr11.at 3 = .pointer (some ⟨h.size, 0, none⟩) ∧ fr11.at 7 = .int .i64 v15 ∧ fr11.at 8 = .int .i64 v17 ∧ h10.at (h.size) = .row [.slice a1 p0.cells.length c2, .slice a3 p0.notes.length c4, .int .i64 p0.names, .slice a5 p0.freed.length c6] true 0 ∧ Sl (rSl rWeighCell) wm h10 a1 c2 p0.cells ∧ Sl rWeighNote wm h10 a3 c4 p0.notes ∧ Sl (rInt .i64) wm h10 a5 c6 p0.freed) ⟨_, _, rfl, hG, (fs4 rfl (fskip rfl fh)), (fs4 rfl fh), (fs2 rfl (fskip rfl fh)), (fskip rfl fh), fh, hb9, hsa1, hsa3, hsa5⟩ ?_)
  clear hL
  rintro next23 ⟨v15, v17⟩ s hnext23 hL ⟨fr11, h10, rfl, hG, e12, e13, e14, e16, e18, hb19, hs20, hs21, hs22⟩
  dsimp only [f70_b0] at hL
  refine WC.seq ?_
  refine WC.seq ?_
  refine WC.region ?_
  refine WO.mv gN rfl (evT e18 rfl) ?_
  refine WO.fld gN rfl fld26_0 (evT (fskip rfl e14) rfl) ?_
  refine WO.ld gN rfl agg22 (evT fh rfl) (At.box hb19) (j := 0) rfl (v := .slice a1 p0.cells.length c2) rfl ?_
  refine WO.len gN rfl und22 (evT fh rfl) ?_
  refine WO.bin gN rfl (evT (fs2 rfl (fskip rfl fh)) rfl) (evT fh rfl) abin_lss ?_
  refine WO.nil ?_
  refine SeqK.nrm ?_
  refine WC.condN (evT fh rfl) (fun hc => ?_) (fun hc => ?_)
  · replace hL := cond_tt hc hL
    refine WC.skip ?_
    refine SeqK.nrm ?_
    refine WC.seqJ (r := r) (fun (v29 : Int) (s : Fs) => ∃ (fr25 : Fr) (h24 : H), s = ⟨fr25, [], h24, none⟩ ∧ Grow h h24 ∧ fr25.at 1 = .int .i64 p1 ∧ fr25.at 2 = .int .i64 p2 ∧ fr25.at 3 = .pointer (some ⟨h.size, 0, none⟩) ∧ fr25.at 7 = .int .i64 v29 ∧ fr25.at 8 = .int .i64 v17 ∧ h24.at (h.size) = .row [.slice a1 p0.cells.length c2, .slice a3 p0.notes.length c4, .int .i64 p0.names, .slice a5 p0.freed.length c6] true 0 ∧ Sl (rSl rWeighCell) wm h24 a1 c2 p0.cells ∧ Sl rWeighNote wm h24 a3 c4 p0.notes ∧ Sl (rInt .i64) wm h24 a5 c6 p0.freed) (f70_j0 v17 next23) ?_ ?_
    · clear hL
      rintro v29 s hL ⟨fr25, h24, rfl, hG, e26, e27, e28, e30, e31, hb32, hs33, hs34, hs35⟩
      dsimp only [f70_j0] at hL
      refine WC.region ?_
      refine WO.mv gN rfl (evT e31 rfl) ?_
      refine WO.bin gN rfl (evT fh rfl) (evC rfl) abin_addw ?_
      refine WO.as gN rfl (evT fh rfl) ?_
      refine WO.nil ?_
      exact LoopK.nrm (hnext23 _ _ hL ⟨_, _, rfl, hG, (fs2 rfl (fskip rfl e26)), (fs2 rfl (fskip rfl e27)), (fs2 rfl (fskip rfl e28)), (fs2 rfl (fskip rfl e30)), fh, hb32, hs33, hs34, hs35⟩)
    · skip
      refine WC.block ?_
      refine WC.seq ?_
      refine WC.region ?_
      refine WO.ldA gN rfl agg26 size26 (evT (fs4 rfl (fskip rfl e14)) rfl) (At.box hb19) (j := 0) rfl rfl (ws := [.slice a1 p0.cells.length c2, .slice a3 p0.notes.length c4, .int .i64 p0.names, .slice a5 p0.freed.length c6]) rfl ?_
      refine WO.mv gN rfl (evT (fs4 rfl (fs2 rfl e18)) rfl) ?_
      refine WO.mv gN rfl (evT (fs4 rfl (fs2 rfl (fskip rfl e13))) rfl) ?_
      obtain ⟨x36, hx36, hL⟩ := bind_some hL
      refine WO.cf gN rfl has72 (evs_cons (evT (fs2 rfl fh) rfl) (evs_cons (evT (fskip rfl fh) rfl) (evs_cons (evT fh rfl) evs_nil))) (f72_ok (Src.sl (Sl.src hs20) (Nat.le_trans hwm hG.size)) (Src.sl (Sl.src hs21) (Nat.le_trans hwm hG.size)) (Src.sl (Sl.src hs22) (Nat.le_trans hwm hG.size)) hx36 _) ?_
      refine WO.as gN rfl (evT fh rfl) ?_
      refine WO.nil ?_
      refine SeqK.nrm ?_
      refine WC.seq ?_
      refine WC.region ?_
      refine WO.mv gN rfl (evT fh rfl) ?_
      refine WO.bin gN rfl (evT fh rfl) (evC rfl) abin_geq ?_
      refine WO.mv gN rfl (evT fh rfl) ?_
      refine WO.gfld (GuardIs.yes rfl rfl rfl fh) rfl fld26_0 (fun hg => (evT (fs8 rfl (fs4 rfl (fskip rfl e14))) rfl)) ?_
      refine WO.gld (GuardIs.yes rfl rfl rfl (fskip rfl fh)) rfl agg22 (fun hg => (evG fh rfl hg)) (fun hg => (At.box hb19)) (j := 0) rfl (v := .slice a1 p0.cells.length c2) rfl ?_
      refine WO.gmv (GuardIs.yes rfl rfl rfl (fs2 rfl fh)) rfl (fun hg => (evT (fs8 rfl (fs4 rfl (fs2 rfl (fskip rfl e18)))) rfl)) ?_
      obtain ⟨x37, hx37, hL⟩ := gd_some hL
      obtain ⟨b38, o39, ⟨a40, c41⟩, hQ⟩ := Sl.atG (fun hg => hs20) hx37
      have hab38 := fun hg => (hQ hg).1
      have hAb38 := fun hg => (hQ hg).2.1
      have hSb38 := fun hg => (hQ hg).2.2.1
      have hFb38 := fun hg => (hQ hg).2.2.2
      refine WO.gix (GuardIs.yes rfl rfl rfl (fs2 rfl (fskip rfl fh))) rfl und22 size59 (fun hg => (evG (fskip rfl fh) rfl hg)) (fun hg => (evG fh rfl hg)) hab38 hx37 ?_
      have hsa40 : (decide (x36 ≥ 0)) = true → Sl rWeighCell wm h10 a40 c41 x37 := fun hg => (hFb38 hg)
      refine WO.gld (GuardIs.yes rfl rfl rfl (fs4 rfl fh)) rfl agg59 (fun hg => (evG fh rfl hg)) (fun hg => (hAb38 hg)) (j := 0) rfl (v := .slice a40 x37.length c41) rfl ?_
      refine WO.gmv (GuardIs.yes rfl rfl rfl (fs4 rfl (fskip rfl fh))) rfl (fun hg => (evT (fs8 rfl fh) rfl)) ?_
      obtain ⟨x42, hx42, hL⟩ := gd_some hL
      obtain ⟨b43, o44, _, hQ⟩ := Sl.atG (fun hg => (hsa40 hg)) hx42
      have hab43 := fun hg => (hQ hg).1
      have hAb43 := fun hg => (hQ hg).2.1
      have hSb43 := fun hg => (hQ hg).2.2.1
      have hFb43 := fun hg => (hQ hg).2.2.2
      refine WO.gix (GuardIs.yes rfl rfl rfl (fs4 rfl (fs2 rfl fh))) rfl und59 size61 (fun hg => (evG (fskip rfl fh) rfl hg)) (fun hg => (evG fh rfl hg)) hab43 hx42 ?_
      refine WO.gfld (GuardIs.yes rfl rfl rfl (fs4 rfl (fs2 rfl (fskip rfl fh)))) rfl fld61_2 (fun hg => (evG fh rfl hg)) ?_
      refine WO.gld (GuardIs.yes rfl rfl rfl (fs8 rfl fh)) rfl agg3 (fun hg => (evG fh rfl hg)) (fun hg => (hAb43 hg)) (j := 2) rfl (v := .int .i64 x42.from_) rfl ?_
      refine WO.gmv (GuardIs.yes rfl rfl rfl (fs8 rfl (fskip rfl fh))) rfl (fun hg => (evT (fs8 rfl (fs8 rfl (fs4 rfl (fs2 rfl e12)))) rfl)) ?_
      refine WO.gbin (GuardIs.yes rfl rfl rfl (fs8 rfl (fs2 rfl fh))) rfl (fun hg => (evG (fskip rfl fh) rfl hg)) (fun hg => (evG fh rfl hg)) (fun hg => abin_eql) ?_
      refine WO.pand gN rfl (evT (fs8 rfl (fs2 rfl (fskip rfl fh))) rfl) (evGU fh) (evC rfl) ?_
      refine WO.nil ?_
      refine SeqK.nrm ?_
      refine WC.condN (evT fh rfl) (fun hc => ?_) (fun hc => ?_)
      · replace hL := cond_tt hc hL
        refine WC.region ?_
        refine WO.mv gN rfl (evT (fs8 rfl (fs8 rfl (fs8 rfl (fskip rfl e16)))) rfl) ?_
        refine WO.fld gN rfl fld26_0 (evT (fs8 rfl (fs8 rfl (fs8 rfl (fs2 rfl e14)))) rfl) ?_
        refine WO.ld gN rfl agg22 (evT fh rfl) (At.box hb19) (j := 0) rfl (v := .slice a1 p0.cells.length c2) rfl ?_
        refine WO.mv gN rfl (evT (fs8 rfl (fs8 rfl (fs8 rfl (fs4 rfl e18)))) rfl) ?_
        obtain ⟨x45, hx45, hL⟩ := bind_some hL
        obtain ⟨b46, o47, ⟨a48, c49⟩, hab46, hAb46, hSb46, hFb46⟩ := Sl.at_ hs20 hx45
        refine WO.ix gN rfl und22 size59 (evT (fskip rfl fh) rfl) (evT fh rfl) hab46 hx45 ?_
        have hsa48 : Sl rWeighCell wm h10 a48 c49 x45 := hFb46
        refine WO.ld gN rfl agg59 (evT fh rfl) hAb46 (j := 0) rfl (v := .slice a48 x45.length c49) rfl ?_
        refine WO.mv gN rfl (evT (fs8 rfl (fs8 rfl (fs4 rfl (fskip rfl fh)))) rfl) ?_
        obtain ⟨x50, hx50, hL⟩ := bind_some hL
        obtain ⟨b51, o52, _, hab51, hAb51, hSb51, hFb51⟩ := Sl.at_ hsa48 hx50
        refine WO.ix gN rfl und59 size61 (evT (fskip rfl fh) rfl) (evT fh rfl) hab51 hx50 ?_
        refine WO.fld gN rfl fld61_3 (evT fh rfl) ?_
        refine WO.ld gN rfl agg3 (evT fh rfl) hAb51 (j := 3) rfl (v := .int .i64 x50.has) rfl ?_
        refine WO.bin gN rfl (evT (fs8 rfl (fskip rfl fh)) rfl) (evT fh rfl) abin_addw ?_
        refine WO.as gN rfl (evT fh rfl) ?_
        refine WO.nil ?_
        refine BlkK.nrm ?_
        exact SeqJ.nrm _ hL ⟨_, _, rfl, hG, (fs8 rfl (fs8 rfl (fs8 rfl (fs8 rfl (fs4 rfl (fskip rfl e12)))))), (fs8 rfl (fs8 rfl (fs8 rfl (fs8 rfl (fs4 rfl (fskip rfl e13)))))), (fs8 rfl (fs8 rfl (fs8 rfl (fs8 rfl (fs4 rfl (fskip rfl e14)))))), fh, (fs8 rfl (fs8 rfl (fs8 rfl (fs8 rfl (fs4 rfl (fskip rfl e18)))))), hb19, hs20, hs21, hs22⟩
      · replace hL := cond_ff hc hL
        refine WC.skip ?_
        refine BlkK.nrm ?_
        exact SeqJ.nrm _ hL ⟨_, _, rfl, hG, (fs8 rfl (fs8 rfl (fs8 rfl (fskip rfl e12)))), (fs8 rfl (fs8 rfl (fs8 rfl (fskip rfl e13)))), (fs8 rfl (fs8 rfl (fs8 rfl (fskip rfl e14)))), (fs8 rfl (fs8 rfl (fs8 rfl (fskip rfl e16)))), (fs8 rfl (fs8 rfl (fs8 rfl (fskip rfl e18)))), hb19, hs20, hs21, hs22⟩
  · replace hL := cond_ff hc hL
    refine WC.exit ?_
    refine SeqK.exit ?_
    refine LoopK.exit ?_
    refine BlkK.here ?_
    refine SeqK.nrm ?_
    refine WC.seq ?_
    refine WC.seq ?_
    refine WC.region ?_
    refine WO.as gN rfl (evC rfl) ?_
    refine WO.nil ?_
    refine SeqK.nrm ?_
    refine WC.block ?_
    refine WC.loop (WL.lift hL (fun (p : Int × Int) (s : Fs) => match p with | (v58, v60) => ∃ (fr54 : Fr) (h53 : H), s = ⟨fr54, [], h53, none⟩ ∧ Grow h h53 ∧ fr54.at 1 = .int .i64 p1 ∧ fr54.at 2 = .int .i64 p2 ∧ fr54.at 3 = .pointer (some ⟨h.size, 0, none⟩) ∧ fr54.at 7 = .int .i64 v58 ∧ fr54.at 10 = .int .i64 v60 ∧ h53.at (h.size) = .row [.slice a1 p0.cells.length c2, .slice a3 p0.notes.length c4, .int .i64 p0.names, .slice a5 p0.freed.length c6] true 0 ∧ Sl (rSl rWeighCell) wm h53 a1 c2 p0.cells ∧ Sl rWeighNote wm h53 a3 c4 p0.notes ∧ Sl (rInt .i64) wm h53 a5 c6 p0.freed) ⟨_, _, rfl, hG, (fs4 rfl (fs2 rfl e12)), (fs4 rfl (fs2 rfl e13)), (fs4 rfl (fs2 rfl e14)), (fs4 rfl (fs2 rfl e16)), fh, hb19, hs20, hs21, hs22⟩ ?_)
    clear hL
    rintro next66 ⟨v58, v60⟩ s hnext66 hL ⟨fr54, h53, rfl, hG, e55, e56, e57, e59, e61, hb62, hs63, hs64, hs65⟩
    dsimp only [f70_b1] at hL
    refine WC.seq ?_
    refine WC.seq ?_
    refine WC.region ?_
    refine WO.mv gN rfl (evT e61 rfl) ?_
    refine WO.fld gN rfl fld26_1 (evT (fskip rfl e57) rfl) ?_
    refine WO.ld gN rfl agg23 (evT fh rfl) (At.box hb62) (j := 1) rfl (v := .slice a3 p0.notes.length c4) rfl ?_
    refine WO.len gN rfl und23 (evT fh rfl) ?_
    refine WO.bin gN rfl (evT (fs2 rfl (fskip rfl fh)) rfl) (evT fh rfl) abin_lss ?_
    refine WO.nil ?_
    refine SeqK.nrm ?_
    refine WC.condN (evT fh rfl) (fun hc => ?_) (fun hc => ?_)
    · replace hL := cond_tt hc hL
      refine WC.skip ?_
      refine SeqK.nrm ?_
      refine WC.seqJ (r := r) (fun (v72 : Int) (s : Fs) => ∃ (fr68 : Fr) (h67 : H), s = ⟨fr68, [], h67, none⟩ ∧ Grow h h67 ∧ fr68.at 1 = .int .i64 p1 ∧ fr68.at 2 = .int .i64 p2 ∧ fr68.at 3 = .pointer (some ⟨h.size, 0, none⟩) ∧ fr68.at 7 = .int .i64 v72 ∧ fr68.at 10 = .int .i64 v60 ∧ h67.at (h.size) = .row [.slice a1 p0.cells.length c2, .slice a3 p0.notes.length c4, .int .i64 p0.names, .slice a5 p0.freed.length c6] true 0 ∧ Sl (rSl rWeighCell) wm h67 a1 c2 p0.cells ∧ Sl rWeighNote wm h67 a3 c4 p0.notes ∧ Sl (rInt .i64) wm h67 a5 c6 p0.freed) (f70_j1 v60 next66) ?_ ?_
      · clear hL
        rintro v72 s hL ⟨fr68, h67, rfl, hG, e69, e70, e71, e73, e74, hb75, hs76, hs77, hs78⟩
        dsimp only [f70_j1] at hL
        refine WC.region ?_
        refine WO.mv gN rfl (evT e74 rfl) ?_
        refine WO.bin gN rfl (evT fh rfl) (evC rfl) abin_addw ?_
        refine WO.as gN rfl (evT fh rfl) ?_
        refine WO.nil ?_
        exact LoopK.nrm (hnext66 _ _ hL ⟨_, _, rfl, hG, (fs2 rfl (fskip rfl e69)), (fs2 rfl (fskip rfl e70)), (fs2 rfl (fskip rfl e71)), (fs2 rfl (fskip rfl e73)), fh, hb75, hs76, hs77, hs78⟩)
      · skip
        refine WC.block ?_
        refine WC.seq ?_
        refine WC.region ?_
        refine WO.fld gN rfl fld26_1 (evT (fs4 rfl (fskip rfl e57)) rfl) ?_
        refine WO.ld gN rfl agg23 (evT fh rfl) (At.box hb62) (j := 1) rfl (v := .slice a3 p0.notes.length c4) rfl ?_
        refine WO.mv gN rfl (evT (fs4 rfl (fs2 rfl (fskip rfl e61))) rfl) ?_
        obtain ⟨x79, hx79, hL⟩ := bind_some hL
        obtain ⟨b80, o81, _, hab80, hAb80, hSb80, hFb80⟩ := Sl.at_ hs64 hx79
        refine WO.ix gN rfl und23 size58 (evT (fskip rfl fh) rfl) (evT fh rfl) hab80 hx79 ?_
        refine WO.ldA gN rfl agg58 size58 (evT fh rfl) hAb80 (j := 0) rfl rfl (ws := [.int .i64 x79.kind, .int .i64 x79.to_, .int .i64 x79.name, .int .i64 x79.via, .int .i64 x79.w]) rfl ?_
        refine WO.alcN h.size gN rfl zero58 (vs := [.int .i64 0, .int .i64 0, .int .i64 0, .int .i64 0, .int .i64 0]) rfl (fun h82 u83 hb84 => ?_)
        have whb84 : h.size ≤ h53.size := hG.size
        have ne85 := Nat.ne_of_lt (live_lt hb62 rfl)
        have hb62 := u83.row (fun z => z) hb62
        have hs63 := hs63.mono (u83.fz hwm)
        have hs64 := hs64.mono (u83.fz hwm)
        have hs65 := hs65.mono (u83.fz hwm)
        have qhAb80 := Stb.fz (u83.fz hwm) hAb80 hSb80
        have hAb80 := At.fz (u83.fz hwm) hSb80 hAb80
        have hSb80 := qhAb80
        have hG := u83.grow hG (Nat.le_refl _)
        refine WO.stN h.size gN size58 (evT fh rfl) (evT (fskip rfl fh) rfl) hb84 whb84 hwm (vs := [.int .i64 x79.kind, .int .i64 x79.to_, .int .i64 x79.name, .int .i64 x79.via, .int .i64 x79.w]) rfl rfl rfl rfl (cs' := [.int .i64 x79.kind, .int .i64 x79.to_, .int .i64 x79.name, .int .i64 x79.via, .int .i64 x79.w]) rfl (fun h86 u87 hb88 => ?_)
        have hb62 := u87.row ne85 hb62
        have hs63 := hs63.mono (u87.fz hwm)
        have hs64 := hs64.mono (u87.fz hwm)
        have hs65 := hs65.mono (u87.fz hwm)
        have qhAb80 := Stb.fz (u87.fz hwm) hAb80 hSb80
        have hAb80 := At.fz (u87.fz hwm) hSb80 hAb80
        have hSb80 := qhAb80
        have hG := u87.grow hG (Nat.le_refl _)
        refine WO.nil ?_
        refine SeqK.nrm ?_
        refine WC.seq ?_
        refine WC.region ?_
        refine WO.fld gN rfl fld58_2 (evT fh rfl) ?_
        refine WO.ld gN rfl agg3 (evT fh rfl) (At.box hb88) (j := 2) rfl (v := .int .i64 x79.name) rfl ?_
        refine WO.mv gN rfl (evT (fs8 rfl (fs4 rfl (fskip rfl e56))) rfl) ?_
        refine WO.bin gN rfl (evT (fskip rfl fh) rfl) (evT fh rfl) abin_eql ?_
        refine WO.mv gN rfl (evT fh rfl) ?_
        refine WO.gfld (GuardIs.yes rfl rfl rfl fh) rfl fld58_0 (fun hg => (evT (fs4 rfl (fskip rfl fh)) rfl)) ?_
        refine WO.gld (GuardIs.yes rfl rfl rfl (fskip rfl fh)) rfl agg56 (fun hg => (evG fh rfl hg)) (fun hg => (At.box hb88)) (j := 0) rfl (v := .int .i64 x79.kind) rfl ?_
        refine WO.gbin (GuardIs.yes rfl rfl rfl (fs2 rfl fh)) rfl (fun hg => (evG fh rfl hg)) (fun hg => (evC rfl)) (fun hg => abin_eql) ?_
        refine WO.gmv (GuardIs.yes rfl rfl rfl (fs2 rfl (fskip rfl fh))) rfl (fun hg => (evG fh rfl hg)) ?_
        refine WO.gfld (GuardIs.yes2 rfl rfl rfl fh) rfl fld58_3 (fun hg => (evT (fs8 rfl (fskip rfl fh)) rfl)) ?_
        refine WO.gld (GuardIs.yes2 rfl rfl rfl (fskip rfl fh)) rfl agg3 (fun hg => (evG fh rfl hg)) (fun hg => (At.box hb88)) (j := 3) rfl (v := .int .i64 x79.via) rfl ?_
        refine WO.gmv (GuardIs.yes2 rfl rfl rfl (fs2 rfl fh)) rfl (fun hg => (evT (fs8 rfl (fs8 rfl (fs4 rfl (fs2 rfl e55)))) rfl)) ?_
        refine WO.gbin (GuardIs.yes2 rfl rfl rfl (fs2 rfl (fskip rfl fh))) rfl (fun hg => (evG (fskip rfl fh) rfl hg)) (fun hg => (evG fh rfl hg)) (fun hg => abin_eql) ?_
        refine WO.gand (GuardIs.yes rfl rfl rfl (fs8 rfl fh)) rfl (fun hg => (evG (fs4 rfl fh) rfl hg)) (fun hg => evGU2 fh hg) (fun hg => (evC rfl)) ?_
        refine WO.gmv (GuardIs.yes rfl rfl rfl (fs8 rfl (fskip rfl fh))) rfl (fun hg => (evG fh rfl hg)) ?_
        refine WO.gfld (GuardIs.no2 rfl rfl rfl fh) rfl fld58_0 (fun hg => (evT (fs8 rfl (fs4 rfl (fs2 rfl (fskip rfl fh)))) rfl)) ?_
        refine WO.gld (GuardIs.no2 rfl rfl rfl (fskip rfl fh)) rfl agg56 (fun hg => (evG fh rfl hg)) (fun hg => (At.box hb88)) (j := 0) rfl (v := .int .i64 x79.kind) rfl ?_
        refine WO.gbin (GuardIs.no2 rfl rfl rfl (fs2 rfl fh)) rfl (fun hg => (evG fh rfl hg)) (fun hg => (evC rfl)) (fun hg => abin_eql) ?_
        refine WO.gmv (GuardIs.no2 rfl rfl rfl (fs2 rfl (fskip rfl fh))) rfl (fun hg => (evG fh rfl hg)) ?_
        refine WO.gfld (GuardIs.yes2 rfl rfl rfl fh) rfl fld58_1 (fun hg => (evT (fs8 rfl (fs8 rfl (fs2 rfl (fskip rfl fh)))) rfl)) ?_
        refine WO.gld (GuardIs.yes2 rfl rfl rfl (fskip rfl fh)) rfl agg3 (fun hg => (evG fh rfl hg)) (fun hg => (At.box hb88)) (j := 1) rfl (v := .int .i64 x79.to_) rfl ?_
        refine WO.gmv (GuardIs.yes2 rfl rfl rfl (fs2 rfl fh)) rfl (fun hg => (evT (fs8 rfl (fs8 rfl (fs8 rfl (fs8 rfl e55)))) rfl)) ?_
        refine WO.gbin (GuardIs.yes2 rfl rfl rfl (fs2 rfl (fskip rfl fh))) rfl (fun hg => (evG (fskip rfl fh) rfl hg)) (fun hg => (evG fh rfl hg)) (fun hg => abin_eql) ?_
        refine WO.gand (GuardIs.no2 rfl rfl rfl (fs8 rfl fh)) rfl (fun hg => (evG (fs4 rfl fh) rfl hg)) (fun hg => evGU2 fh hg) (fun hg => (evC rfl)) ?_
        refine WO.gor (GuardIs.yes rfl rfl rfl (fs8 rfl (fs8 rfl (fs2 rfl (fskip rfl fh))))) rfl (fun hg => (evG (fs8 rfl (fskip rfl fh)) rfl hg)) (fun hg => (evC rfl)) (fun hg => evGU2 fh hg) ?_
        refine WO.pand gN rfl (evT (fs8 rfl (fs8 rfl (fs4 rfl fh))) rfl) (evGU fh) (evC rfl) ?_
        refine WO.nil ?_
        refine SeqK.nrm ?_
        refine WC.condN (evT fh rfl) (fun hc => ?_) (fun hc => ?_)
        · replace hL := cond_tt hc hL
          refine WC.region ?_
          refine WO.mv gN rfl (evT (fs8 rfl (fs8 rfl (fs8 rfl (fs8 rfl (fs4 rfl (fskip rfl e59)))))) rfl) ?_
          refine WO.fld gN rfl fld58_4 (evT (fs8 rfl (fs8 rfl (fs8 rfl (fs2 rfl (fskip rfl fh))))) rfl) ?_
          refine WO.ld gN rfl agg3 (evT fh rfl) (At.box hb88) (j := 4) rfl (v := .int .i64 x79.w) rfl ?_
          refine WO.bin gN rfl (evT (fs2 rfl fh) rfl) (evT fh rfl) abin_addw ?_
          refine WO.as gN rfl (evT fh rfl) ?_
          refine WO.nil ?_
          refine BlkK.nrm ?_
          exact SeqJ.nrm _ hL ⟨_, _, rfl, hG, (fs8 rfl (fs8 rfl (fs8 rfl (fs8 rfl (fs8 rfl (fs2 rfl e55)))))), (fs8 rfl (fs8 rfl (fs8 rfl (fs8 rfl (fs8 rfl (fs2 rfl e56)))))), (fs8 rfl (fs8 rfl (fs8 rfl (fs8 rfl (fs8 rfl (fs2 rfl e57)))))), fh, (fs8 rfl (fs8 rfl (fs8 rfl (fs8 rfl (fs8 rfl (fs2 rfl e61)))))), hb62, hs63, hs64, hs65⟩
        · replace hL := cond_ff hc hL
          refine WC.skip ?_
          refine BlkK.nrm ?_
          exact SeqJ.nrm _ hL ⟨_, _, rfl, hG, (fs8 rfl (fs8 rfl (fs8 rfl (fs8 rfl (fs4 rfl (fskip rfl e55)))))), (fs8 rfl (fs8 rfl (fs8 rfl (fs8 rfl (fs4 rfl (fskip rfl e56)))))), (fs8 rfl (fs8 rfl (fs8 rfl (fs8 rfl (fs4 rfl (fskip rfl e57)))))), (fs8 rfl (fs8 rfl (fs8 rfl (fs8 rfl (fs4 rfl (fskip rfl e59)))))), (fs8 rfl (fs8 rfl (fs8 rfl (fs8 rfl (fs4 rfl (fskip rfl e61)))))), hb62, hs63, hs64, hs65⟩
    · replace hL := cond_ff hc hL
      refine WC.exit ?_
      refine SeqK.exit ?_
      refine LoopK.exit ?_
      refine BlkK.here ?_
      refine SeqK.nrm ?_
      refine WC.seq ?_
      refine WC.region ?_
      refine WO.mv gN rfl (evT (fs4 rfl (fskip rfl e59)) rfl) ?_
      refine WO.as gN rfl (evT fh rfl) ?_
      refine WO.nil ?_
      refine SeqK.nrm ?_
      refine WC.ret ?_
      have hr := Option.some.inj hL
      subst hr
      exact RetK.gen1 rfl (ares_tmp (evT fh rfl) ares_nil) rfl
theorem f70_ok {F : Nat} {h : H} {p0 : WeighWorld} {p1 : Int} {p2 : Int} {a1 : Option Addr} {c2 : Nat} {a3 : Option Addr} {c4 : Nat} {a5 : Option Addr} {c6 : Nat} {r : Int} (hsa1 : Sl (rSl rWeighCell) h.size h a1 c2 p0.cells) (hsa3 : Sl rWeighNote h.size h a3 c4 p0.notes) (hsa5 : Sl (rInt .i64) h.size h a5 c6 p0.freed) (hL : f70L F p0 p1 p2 = some r) : Pure XX 70 #[.agg [.slice a1 p0.cells.length c2, .slice a3 p0.notes.length c4, .int .i64 p0.names, .slice a5 p0.freed.length c6].toArray, .int .i64 p1, .int .i64 p2] h (.int .i64 r) :=
  WF.pureR rfl (f70_wf (Nat.le_refl _) hsa1 hsa3 hsa5 hL)
theorem f62_wf {F : Nat} {wm : Nat} {h : H} {p0 : WeighWorld} {p1 : Int} {a1 : Option Addr} {c2 : Nat} {a3 : Option Addr} {c4 : Nat} {a5 : Option Addr} {c6 : Nat} {r : Bool} (hwm : wm ≤ h.size) (hsa1 : Sl (rSl rWeighCell) wm h a1 c2 p0.cells) (hsa3 : Sl rWeighNote wm h a3 c4 p0.notes) (hsa5 : Sl (rInt .i64) wm h a5 c6 p0.freed) (hL : f62L F p0 p1 = some r) :
    WR XX 62 #[.agg [.slice a1 p0.cells.length c2, .slice a3 p0.notes.length c4, .int .i64 p0.names, .slice a5 p0.freed.length c6].toArray, .int .i64 p1] wm h (fun v _ => v = .bool r) := by
  refine WF.begin (args := [_, _]) (fn := Try.f62) (by kernel_rfl) (by exact rfl) Try.ntmps62 (by simp) ?_
  simp only [frameOf_cons, frameOf_nil, Nat.reduceAdd]
  have hG : Grow h h := Grow.refl h
  unfold f62L at hL
  refine WC.seq ?_
  refine WC.region ?_
  refine WO.boxN h.size gN rfl (evT (fskip rfl fh) rfl) (vs := [.slice a1 p0.cells.length c2, .slice a3 p0.notes.length c4, .int .i64 p0.names, .slice a5 p0.freed.length c6]) rfl (fun h7 u8 hb9 => ?_)
  have whb9 : h.size ≤ h.size := hG.size
  have hsa1 := hsa1.mono (u8.fz hwm)
  have hsa3 := hsa3.mono (u8.fz hwm)
  have hsa5 := hsa5.mono (u8.fz hwm)
  have hG := u8.grow hG (Nat.le_refl _)
  refine WO.as gN rfl (evC rfl) ?_
  refine WO.nil ?_
  refine SeqK.nrm ?_
  refine WC.seq ?_
  refine WC.region ?_
  refine WO.as gN rfl (evC rfl) ?_
  refine WO.nil ?_
  refine SeqK.nrm ?_
  refine WC.seq ?_
  refine WC.region ?_
  refine WO.as gN rfl (evC rfl) ?_
  refine WO.nil ?_
  refine SeqK.nrm ?_
  refine WC.seq ?_
  refine WC.seq ?_
  refine WC.region ?_
  refine WO.as gN rfl (evC rfl) ?_
  refine WO.nil ?_
  refine SeqK.nrm ?_
  refine WC.block ?_
  refine WC.loop (WL.lift hL (fun (p : Int × Int × Int) (s : Fs) => match p with | (v14, v16, v18) => ∃ (fr11 : Fr) (h10 : H), s = ⟨fr11, [], h10, none⟩ ∧ Grow h h10 ∧ fr11.at 1 = .int .i64 p1 ∧ fr11.at 2 = .pointer (some ⟨h.size, 0, none⟩) ∧ fr11.at 5 = .int .i64 v14 ∧ fr11.at 6 = .int .i64 v16 ∧ fr11.at 7 = .int .i64 v18 ∧ h10.at (h.size) = .row [.slice a1 p0.cells.length c2, .slice a3 p0.notes.length c4, .int .i64 p0.names, .slice a5 p0.freed.length c6] true 0 ∧ Sl (rSl rWeighCell) wm h10 a1 c2 p0.cells ∧ Sl rWeighNote wm h10 a3 c4 p0.notes ∧ Sl (rInt .i64) wm h10 a5 c6 p0.freed) ⟨_, _, rfl, hG, (fs4 rfl (fskip rfl fh)), (fs4 rfl fh), (fs2 rfl fh), (fskip rfl fh), fh, hb9, hsa1, hsa3, hsa5⟩ ?_)
  clear hL
  rintro next24 ⟨v14, v16, v18⟩ s hnext24 hL ⟨fr11, h10, rfl, hG, e12, e13, e15, e17, e19, hb20, hs21, hs22, hs23⟩
  dsimp only [f62_b0] at hL
  refine WC.seq ?_
  refine WC.seq ?_
  refine WC.region ?_
  refine WO.mv gN rfl (evT e19 rfl) ?_
  refine WO.fld gN rfl fld26_0 (evT (fskip rfl e13) rfl) ?_
  refine WO.ld gN rfl agg22 (evT fh rfl) (At.box hb20) (j := 0) rfl (v := .slice a1 p0.cells.length c2) rfl ?_
  refine WO.len gN rfl und22 (evT fh rfl) ?_
  refine WO.bin gN rfl (evT (fs2 rfl (fskip rfl fh)) rfl) (evT fh rfl) abin_lss ?_
  refine WO.nil ?_
  refine SeqK.nrm ?_
  refine WC.condN (evT fh rfl) (fun hc => ?_) (fun hc => ?_)
  · replace hL := cond_tt hc hL
    refine WC.skip ?_
    refine SeqK.nrm ?_
    refine WC.seq ?_
    refine WC.block ?_
    refine WC.seq ?_
    refine WC.region ?_
    refine WO.ldA gN rfl agg26 size26 (evT (fs4 rfl (fskip rfl e13)) rfl) (At.box hb20) (j := 0) rfl rfl (ws := [.slice a1 p0.cells.length c2, .slice a3 p0.notes.length c4, .int .i64 p0.names, .slice a5 p0.freed.length c6]) rfl ?_
    refine WO.mv gN rfl (evT (fs4 rfl (fs2 rfl e19)) rfl) ?_
    refine WO.mv gN rfl (evT (fs4 rfl (fs2 rfl (fskip rfl e12))) rfl) ?_
    obtain ⟨x25, hx25, hL⟩ := bind_some hL
    refine WO.cf gN rfl has100 (evs_cons (evT (fs2 rfl fh) rfl) (evs_cons (evT (fskip rfl fh) rfl) (evs_cons (evT fh rfl) evs_nil))) (f100_ok (Src.sl (Sl.src hs21) (Nat.le_trans hwm hG.size)) (Src.sl (Sl.src hs22) (Nat.le_trans hwm hG.size)) (Src.sl (Sl.src hs23) (Nat.le_trans hwm hG.size)) hx25 _) ?_
    refine WO.as gN rfl (evT fh rfl) ?_
    refine WO.nil ?_
    refine SeqK.nrm ?_
    refine WC.seq ?_
    refine WC.region ?_
    refine WO.ldA gN rfl agg26 size26 (evT (fs8 rfl (fs2 rfl e13)) rfl) (At.box hb20) (j := 0) rfl rfl (ws := [.slice a1 p0.cells.length c2, .slice a3 p0.notes.length c4, .int .i64 p0.names, .slice a5 p0.freed.length c6]) rfl ?_
    refine WO.mv gN rfl (evT (fs8 rfl (fs2 rfl (fskip rfl e19))) rfl) ?_
    refine WO.mv gN rfl (evT (fs8 rfl (fs4 rfl e12)) rfl) ?_
    obtain ⟨x26, hx26, hL⟩ := bind_some hL
    refine WO.cf gN rfl has72 (evs_cons (evT (fs2 rfl fh) rfl) (evs_cons (evT (fskip rfl fh) rfl) (evs_cons (evT fh rfl) evs_nil))) (f72_ok (Src.sl (Sl.src hs21) (Nat.le_trans hwm hG.size)) (Src.sl (Sl.src hs22) (Nat.le_trans hwm hG.size)) (Src.sl (Sl.src hs23) (Nat.le_trans hwm hG.size)) hx26 _) ?_
    refine WO.as gN rfl (evT fh rfl) ?_
    refine WO.nil ?_
    refine SeqK.nrm ?_
    refine WC.seqJ (r := r) (fun (v34 : Int) (s : Fs) => ∃ (fr28 : Fr) (h27 : H), s = ⟨fr28, [], h27, none⟩ ∧ Grow h h27 ∧ fr28.at 1 = .int .i64 p1 ∧ fr28.at 2 = .pointer (some ⟨h.size, 0, none⟩) ∧ fr28.at 5 = .int .i64 v14 ∧ fr28.at 6 = .int .i64 v16 ∧ fr28.at 7 = .int .i64 v18 ∧ fr28.at 8 = .int .i64 v34 ∧ h27.at (h.size) = .row [.slice a1 p0.cells.length c2, .slice a3 p0.notes.length c4, .int .i64 p0.names, .slice a5 p0.freed.length c6] true 0 ∧ Sl (rSl rWeighCell) wm h27 a1 c2 p0.cells ∧ Sl rWeighNote wm h27 a3 c4 p0.notes ∧ Sl (rInt .i64) wm h27 a5 c6 p0.freed) (f62_j0 F p0 p1 v14 v16 v18 next24) ?_ ?_
    · clear hL
      rintro v34 s hL ⟨fr28, h27, rfl, hG, e29, e30, e31, e32, e33, e35, hb36, hs37, hs38, hs39⟩
      dsimp only [f62_j0] at hL
      refine WC.seqJ (r := r) (fun (p : Int × Int) (s : Fs) => match p with | (v44, v46) => ∃ (fr41 : Fr) (h40 : H), s = ⟨fr41, [], h40, none⟩ ∧ Grow h h40 ∧ fr41.at 1 = .int .i64 p1 ∧ fr41.at 2 = .pointer (some ⟨h.size, 0, none⟩) ∧ fr41.at 5 = .int .i64 v44 ∧ fr41.at 6 = .int .i64 v46 ∧ fr41.at 7 = .int .i64 v18 ∧ h40.at (h.size) = .row [.slice a1 p0.cells.length c2, .slice a3 p0.notes.length c4, .int .i64 p0.names, .slice a5 p0.freed.length c6] true 0 ∧ Sl (rSl rWeighCell) wm h40 a1 c2 p0.cells ∧ Sl rWeighNote wm h40 a3 c4 p0.notes ∧ Sl (rInt .i64) wm h40 a5 c6 p0.freed) (f62_j1 F p0 p1 v18 next24) ?_ ?_
      · clear hL
        rintro ⟨v44, v46⟩ s hL ⟨fr41, h40, rfl, hG, e42, e43, e45, e47, e48, hb49, hs50, hs51, hs52⟩
        dsimp only [f62_j1] at hL
        refine WC.seq ?_
        refine WC.drawQ mixed (by kernel_rfl) ?_
        refine WQ.ldA gN rfl agg26 size26 (evT e43 rfl) (At.box hb49) (j := 0) rfl rfl (ws := [.slice a1 p0.cells.length c2, .slice a3 p0.notes.length c4, .int .i64 p0.names, .slice a5 p0.freed.length c6]) rfl ?_
        refine WQ.mv gN rfl (evT (fskip rfl e48) rfl) ?_
        refine WQ.mv gN rfl (evT (fs2 rfl e42) rfl) ?_
        obtain ⟨x53, hx53, hL⟩ := bind_some hL
        refine WQ.cf gN rfl has69 (evs_cons (evT (fs2 rfl fh) rfl) (evs_cons (evT (fskip rfl fh) rfl) (evs_cons (evT fh rfl) evs_nil))) (f69_ok (Src.sl (Sl.src hs50) (Nat.le_trans hwm hG.size)) (Src.sl (Sl.src hs51) (Nat.le_trans hwm hG.size)) (Src.sl (Sl.src hs52) (Nat.le_trans hwm hG.size)) hx53 _) ?_
        refine WQ.ldA gN rfl agg26 size26 (evT (fs4 rfl e43) rfl) (At.box hb49) (j := 0) rfl rfl (ws := [.slice a1 p0.cells.length c2, .slice a3 p0.notes.length c4, .int .i64 p0.names, .slice a5 p0.freed.length c6]) rfl ?_
        refine WQ.mv gN rfl (evT (fs4 rfl (fskip rfl e48)) rfl) ?_
        refine WQ.mv gN rfl (evT (fs4 rfl (fs2 rfl e42)) rfl) ?_
        obtain ⟨x54, hx54, hL⟩ := bind_some hL
        refine WQ.cf gN rfl has70 (evs_cons (evT (fs2 rfl fh) rfl) (evs_cons (evT (fskip rfl fh) rfl) (evs_cons (evT fh rfl) evs_nil))) (f70_ok (Src.sl (Sl.src hs50) (Nat.le_trans hwm hG.size)) (Src.sl (Sl.src hs51) (Nat.le_trans hwm hG.size)) (Src.sl (Sl.src hs52) (Nat.le_trans hwm hG.size)) hx54 _) ?_
        refine WQ.bin gN rfl (evT (fs4 rfl fh) rfl) (evT fh rfl) abin_neq ?_
        refine WQ.mv gN rfl (evT fh rfl) ?_
        refine WQ.gldA (GuardIs.no rfl rfl rfl fh) rfl agg26 size26 (fun hg => (evT (fs8 rfl (fs2 rfl e43)) rfl)) (fun hg => (At.box hb49)) (j := 0) rfl rfl (ws := [.slice a1 p0.cells.length c2, .slice a3 p0.notes.length c4, .int .i64 p0.names, .slice a5 p0.freed.length c6]) rfl ?_
        refine WQ.gmv (GuardIs.no rfl rfl rfl (fskip rfl fh)) rfl (fun hg => (evT (fs8 rfl (fs2 rfl (fskip rfl e48))) rfl)) ?_
        refine WQ.gmv (GuardIs.no rfl rfl rfl (fs2 rfl fh)) rfl (fun hg => (evT (fs8 rfl (fs4 rfl e42)) rfl)) ?_
        obtain ⟨x55, hx55, hL⟩ := gd_some hL
        refine WQ.gcf (GuardIs.no rfl rfl rfl (fs2 rfl (fskip rfl fh))) rfl has69 (fun hg => (evs_cons (evG (fs2 rfl fh) rfl hg) (evs_cons (evG (fskip rfl fh) rfl hg) (evs_cons (evG fh rfl hg) evs_nil)))) (fun hg => f69_ok (Src.sl (Sl.src hs50) (Nat.le_trans hwm hG.size)) (Src.sl (Sl.src hs51) (Nat.le_trans hwm hG.size)) (Src.sl (Sl.src hs52) (Nat.le_trans hwm hG.size)) (hx55 hg) _) ?_
        refine WQ.gbin (GuardIs.no rfl rfl rfl (fs4 rfl fh)) rfl (fun hg => (evG fh rfl hg)) (fun hg => (evC rfl)) (fun hg => abin_gtr) ?_
        refine WQ.or gN rfl (evT (fs4 rfl (fskip rfl fh)) rfl) (evC rfl) (evGU fh) ?_
        refine WQ.nil ?_
        refine SeqK.nrm ?_
        refine WC.condN (evT fh rfl) (fun hc => ?_) (fun hc => ?_)
        · replace hL := cond_tt hc hL
          refine WC.seq ?_
          refine WC.region ?_
          refine WO.as gN rfl (evC rfl) ?_
          refine WO.nil ?_
          refine SeqK.nrm ?_
          refine WC.ret ?_
          refine BlkK.ret ?_
          refine SeqK.ret ?_
          refine LoopK.ret ?_
          refine BlkK.ret ?_
          refine SeqK.ret ?_
          have hr := Option.some.inj hL
          subst hr
          exact RetK.gen1 rfl (ares_tmp (evT fh rfl) ares_nil) rfl
        · replace hL := cond_ff hc hL
          refine WC.skip ?_
          refine BlkK.nrm ?_
          refine SeqK.nrm ?_
          refine WC.region ?_
          refine WO.mv gN rfl (evT (fs8 rfl (fs8 rfl e48)) rfl) ?_
          refine WO.bin gN rfl (evT fh rfl) (evC rfl) abin_addw ?_
          refine WO.as gN rfl (evT fh rfl) ?_
          refine WO.nil ?_
          exact LoopK.nrm (hnext24 _ _ hL ⟨_, _, rfl, hG, (fs8 rfl (fs8 rfl (fs2 rfl (fskip rfl e42)))), (fs8 rfl (fs8 rfl (fs2 rfl (fskip rfl e43)))), (fs8 rfl (fs8 rfl (fs2 rfl (fskip rfl e45)))), (fs8 rfl (fs8 rfl (fs2 rfl (fskip rfl e47)))), fh, hb49, hs50, hs51, hs52⟩)
      · skip
        refine WC.seq ?_
        refine WC.region ?_
        refine WO.mv gN rfl (evT e35 rfl) ?_
        refine WO.bin gN rfl (evT fh rfl) (evC rfl) abin_gtr ?_
        refine WO.nil ?_
        refine SeqK.nrm ?_
        refine WC.condN (evT fh rfl) (fun hc => ?_) (fun hc => ?_)
        · replace hL := cond_tt hc hL
          refine WC.seq ?_
          refine WC.region ?_
          refine WO.mv gN rfl (evT (fs2 rfl e31) rfl) ?_
          refine WO.mv gN rfl (evT (fs2 rfl (fskip rfl e35)) rfl) ?_
          refine WO.bin gN rfl (evT (fskip rfl fh) rfl) (evT fh rfl) abin_addw ?_
          refine WO.as gN rfl (evT fh rfl) ?_
          refine WO.nil ?_
          refine SeqK.nrm ?_
          refine WC.region ?_
          refine WO.mv gN rfl (evT (fs4 rfl (fs2 rfl e33)) rfl) ?_
          refine WO.as gN rfl (evT fh rfl) ?_
          refine WO.nil ?_
          exact SeqJ.nrm _ hL ⟨_, _, rfl, hG, (fs8 rfl e29), (fs8 rfl e30), (fs2 rfl fh), fh, (fs8 rfl e33), hb36, hs37, hs38, hs39⟩
        · replace hL := cond_ff hc hL
          refine WC.skip ?_
          exact SeqJ.nrm _ hL ⟨_, _, rfl, hG, (fs2 rfl e29), (fs2 rfl e30), (fs2 rfl e31), (fs2 rfl e32), (fs2 rfl e33), hb36, hs37, hs38, hs39⟩
    · skip
      refine WC.seq ?_
      refine WC.region ?_
      refine WO.mv gN rfl (evT fh rfl) ?_
      refine WO.bin gN rfl (evT fh rfl) (evC rfl) abin_geq ?_
      refine WO.mv gN rfl (evT fh rfl) ?_
      refine WO.gfld (GuardIs.yes rfl rfl rfl fh) rfl fld26_0 (fun hg => (evT (fs8 rfl (fs8 rfl (fs2 rfl e13))) rfl)) ?_
      refine WO.gld (GuardIs.yes rfl rfl rfl (fskip rfl fh)) rfl agg22 (fun hg => (evG fh rfl hg)) (fun hg => (At.box hb20)) (j := 0) rfl (v := .slice a1 p0.cells.length c2) rfl ?_
      refine WO.gmv (GuardIs.yes rfl rfl rfl (fs2 rfl fh)) rfl (fun hg => (evT (fs8 rfl (fs8 rfl (fs4 rfl e19))) rfl)) ?_
      obtain ⟨x56, hx56, hL⟩ := gd_some hL
      obtain ⟨b57, o58, ⟨a59, c60⟩, hQ⟩ := Sl.atG (fun hg => hs21) hx56
      have hab57 := fun hg => (hQ hg).1
      have hAb57 := fun hg => (hQ hg).2.1
      have hSb57 := fun hg => (hQ hg).2.2.1
      have hFb57 := fun hg => (hQ hg).2.2.2
      refine WO.gix (GuardIs.yes rfl rfl rfl (fs2 rfl (fskip rfl fh))) rfl und22 size59 (fun hg => (evG (fskip rfl fh) rfl hg)) (fun hg => (evG fh rfl hg)) hab57 hx56 ?_
      have hsa59 : (decide (x26 ≥ 0)) = true → Sl rWeighCell wm h10 a59 c60 x56 := fun hg => (hFb57 hg)
      refine WO.gld (GuardIs.yes rfl rfl rfl (fs4 rfl fh)) rfl agg59 (fun hg => (evG fh rfl hg)) (fun hg => (hAb57 hg)) (j := 0) rfl (v := .slice a59 x56.length c60) rfl ?_
      refine WO.gmv (GuardIs.yes rfl rfl rfl (fs4 rfl (fskip rfl fh))) rfl (fun hg => (evT (fs8 rfl fh) rfl)) ?_
      obtain ⟨x61, hx61, hL⟩ := gd_some hL
      obtain ⟨b62, o63, _, hQ⟩ := Sl.atG (fun hg => (hsa59 hg)) hx61
      have hab62 := fun hg => (hQ hg).1
      have hAb62 := fun hg => (hQ hg).2.1
      have hSb62 := fun hg => (hQ hg).2.2.1
      have hFb62 := fun hg => (hQ hg).2.2.2
      refine WO.gix (GuardIs.yes rfl rfl rfl (fs4 rfl (fs2 rfl fh))) rfl und59 size61 (fun hg => (evG (fskip rfl fh) rfl hg)) (fun hg => (evG fh rfl hg)) hab62 hx61 ?_
      refine WO.gfld (GuardIs.yes rfl rfl rfl (fs4 rfl (fs2 rfl (fskip rfl fh)))) rfl fld61_1 (fun hg => (evG fh rfl hg)) ?_
      refine WO.gld (GuardIs.yes rfl rfl rfl (fs8 rfl fh)) rfl agg4 (fun hg => (evG fh rfl hg)) (fun hg => (hAb62 hg)) (j := 1) rfl (v := .bool x61.root) rfl ?_
      refine WO.pand gN rfl (evT (fs8 rfl (fskip rfl fh)) rfl) (evGU fh) (evC rfl) ?_
      refine WO.nil ?_
      refine SeqK.nrm ?_
      refine WC.condN (evT fh rfl) (fun hc => ?_) (fun hc => ?_)
      · replace hL := cond_tt hc hL
        refine WC.region ?_
        refine WO.mv gN rfl (evT (fs8 rfl (fs8 rfl (fs2 rfl fh))) rfl) ?_
        refine WO.bin gN rfl (evT fh rfl) (evC rfl) abin_addw ?_
        refine WO.as gN rfl (evT fh rfl) ?_
        refine WO.nil ?_
        exact SeqJ.nrm _ hL ⟨_, _, rfl, hG, (fs8 rfl (fs8 rfl (fs8 rfl (fs4 rfl (fs2 rfl (fskip rfl e12)))))), (fs8 rfl (fs8 rfl (fs8 rfl (fs4 rfl (fs2 rfl (fskip rfl e13)))))), (fs8 rfl (fs8 rfl (fs8 rfl (fs4 rfl (fs2 rfl (fskip rfl e15)))))), (fs8 rfl (fs8 rfl (fs8 rfl (fs4 rfl (fs2 rfl (fskip rfl e17)))))), (fs8 rfl (fs8 rfl (fs8 rfl (fs4 rfl (fs2 rfl (fskip rfl e19)))))), fh, hb20, hs21, hs22, hs23⟩
      · replace hL := cond_ff hc hL
        refine WC.skip ?_
        exact SeqJ.nrm _ hL ⟨_, _, rfl, hG, (fs8 rfl (fs8 rfl (fs8 rfl (fs4 rfl e12)))), (fs8 rfl (fs8 rfl (fs8 rfl (fs4 rfl e13)))), (fs8 rfl (fs8 rfl (fs8 rfl (fs4 rfl e15)))), (fs8 rfl (fs8 rfl (fs8 rfl (fs4 rfl e17)))), (fs8 rfl (fs8 rfl (fs8 rfl (fs4 rfl e19)))), (fs8 rfl (fs8 rfl (fs2 rfl fh))), hb20, hs21, hs22, hs23⟩
  · replace hL := cond_ff hc hL
    refine WC.exit ?_
    refine SeqK.exit ?_
    refine LoopK.exit ?_
    refine BlkK.here ?_
    refine SeqK.nrm ?_
    refine WC.seq ?_
    refine WC.seq ?_
    refine WC.region ?_
    refine WO.mv gN rfl (evT (fs4 rfl (fskip rfl e15)) rfl) ?_
    refine WO.bin gN rfl (evT fh rfl) (evC rfl) abin_neq ?_
    refine WO.nil ?_
    refine SeqK.nrm ?_
    refine WC.condN (evT fh rfl) (fun hc => ?_) (fun hc => ?_)
    · replace hL := cond_tt hc hL
      refine WC.seq ?_
      refine WC.region ?_
      refine WO.as gN rfl (evC rfl) ?_
      refine WO.nil ?_
      refine SeqK.nrm ?_
      refine WC.ret ?_
      refine SeqK.ret ?_
      have hr := Option.some.inj hL
      subst hr
      exact RetK.gen1 rfl (ares_tmp (evT fh rfl) ares_nil) rfl
    · replace hL := cond_ff hc hL
      refine WC.skip ?_
      refine SeqK.nrm ?_
      refine WC.seq ?_
      refine WC.seq ?_
      refine WC.region ?_
      refine WO.as gN rfl (evC rfl) ?_
      refine WO.nil ?_
      refine SeqK.nrm ?_
      refine WC.block ?_
      refine WC.loop (WL.lift hL (fun (v69 : Int) (s : Fs) => ∃ (fr65 : Fr) (h64 : H), s = ⟨fr65, [], h64, none⟩ ∧ Grow h h64 ∧ fr65.at 1 = .int .i64 p1 ∧ fr65.at 2 = .pointer (some ⟨h.size, 0, none⟩) ∧ fr65.at 6 = .int .i64 v16 ∧ fr65.at 10 = .int .i64 v69 ∧ h64.at (h.size) = .row [.slice a1 p0.cells.length c2, .slice a3 p0.notes.length c4, .int .i64 p0.names, .slice a5 p0.freed.length c6] true 0 ∧ Sl (rSl rWeighCell) wm h64 a1 c2 p0.cells ∧ Sl rWeighNote wm h64 a3 c4 p0.notes ∧ Sl (rInt .i64) wm h64 a5 c6 p0.freed) ⟨_, _, rfl, hG, (fs8 rfl e12), (fs8 rfl e13), (fs8 rfl e17), fh, hb20, hs21, hs22, hs23⟩ ?_)
      clear hL
      rintro next75 v69 s hnext75 hL ⟨fr65, h64, rfl, hG, e66, e67, e68, e70, hb71, hs72, hs73, hs74⟩
      dsimp only [f62_b1] at hL
      refine WC.seq ?_
      refine WC.seq ?_
      refine WC.region ?_
      refine WO.mv gN rfl (evT e70 rfl) ?_
      refine WO.fld gN rfl fld26_0 (evT (fskip rfl e67) rfl) ?_
      refine WO.ld gN rfl agg22 (evT fh rfl) (At.box hb71) (j := 0) rfl (v := .slice a1 p0.cells.length c2) rfl ?_
      refine WO.len gN rfl und22 (evT fh rfl) ?_
      refine WO.bin gN rfl (evT (fs2 rfl (fskip rfl fh)) rfl) (evT fh rfl) abin_lss ?_
      refine WO.nil ?_
      refine SeqK.nrm ?_
      refine WC.condN (evT fh rfl) (fun hc => ?_) (fun hc => ?_)
      · replace hL := cond_tt hc hL
        refine WC.skip ?_
        refine SeqK.nrm ?_
        refine WC.seq ?_
        refine WC.block ?_
        refine WC.seq ?_
        refine WC.region ?_
        refine WO.ldA gN rfl agg26 size26 (evT (fs4 rfl (fskip rfl e67)) rfl) (At.box hb71) (j := 0) rfl rfl (ws := [.slice a1 p0.cells.length c2, .slice a3 p0.notes.length c4, .int .i64 p0.names, .slice a5 p0.freed.length c6]) rfl ?_
        refine WO.mv gN rfl (evT (fs4 rfl (fs2 rfl e70)) rfl) ?_
        refine WO.mv gN rfl (evT (fs4 rfl (fs2 rfl (fskip rfl e66))) rfl) ?_
        obtain ⟨x76, hx76, hL⟩ := bind_some hL
        refine WO.cf gN rfl has72 (evs_cons (evT (fs2 rfl fh) rfl) (evs_cons (evT (fskip rfl fh) rfl) (evs_cons (evT fh rfl) evs_nil))) (f72_ok (Src.sl (Sl.src hs72) (Nat.le_trans hwm hG.size)) (Src.sl (Sl.src hs73) (Nat.le_trans hwm hG.size)) (Src.sl (Sl.src hs74) (Nat.le_trans hwm hG.size)) hx76 _) ?_
        refine WO.bin gN rfl (evT fh rfl) (evC rfl) abin_geq ?_
        refine WO.mv gN rfl (evT fh rfl) ?_
        refine WO.gldA (GuardIs.yes rfl rfl rfl fh) rfl agg26 size26 (fun hg => (evT (fs8 rfl (fs2 rfl (fskip rfl e67))) rfl)) (fun hg => (At.box hb71)) (j := 0) rfl rfl (ws := [.slice a1 p0.cells.length c2, .slice a3 p0.notes.length c4, .int .i64 p0.names, .slice a5 p0.freed.length c6]) rfl ?_
        refine WO.gmv (GuardIs.yes rfl rfl rfl (fskip rfl fh)) rfl (fun hg => (evT (fs8 rfl (fs4 rfl e70)) rfl)) ?_
        refine WO.gmv (GuardIs.yes rfl rfl rfl (fs2 rfl fh)) rfl (fun hg => (evT (fs8 rfl (fs4 rfl (fskip rfl e68))) rfl)) ?_
        refine WO.gmv (GuardIs.yes rfl rfl rfl (fs2 rfl (fskip rfl fh))) rfl (fun hg => (evT (fs8 rfl (fs4 rfl (fs2 rfl e66))) rfl)) ?_
        obtain ⟨x77, hx77, hL⟩ := gd_some hL
        refine WO.gcf (GuardIs.yes rfl rfl rfl (fs4 rfl fh)) rfl has101 (fun hg => (evs_cons (evG (fs2 rfl (fskip rfl fh)) rfl hg) (evs_cons (evG (fs2 rfl fh) rfl hg) (evs_cons (evG (fskip rfl fh) rfl hg) (evs_cons (evG fh rfl hg) evs_nil))))) (fun hg => f101_ok (Src.sl (Sl.src hs72) (Nat.le_trans hwm hG.size)) (Src.sl (Sl.src hs73) (Nat.le_trans hwm hG.size)) (Src.sl (Sl.src hs74) (Nat.le_trans hwm hG.size)) (hx77 hg) _) ?_
        refine WO.gnot (GuardIs.yes rfl rfl rfl (fs4 rfl (fskip rfl fh))) rfl (fun hg => (evG fh rfl hg)) ?_
        refine WO.pand gN rfl (evT (fs4 rfl (fs2 rfl fh)) rfl) (evGU fh) (evC rfl) ?_
        refine WO.nil ?_
        refine SeqK.nrm ?_
        refine WC.condN (evT fh rfl) (fun hc => ?_) (fun hc => ?_)
        · replace hL := cond_tt hc hL
          refine WC.seq ?_
          refine WC.region ?_
          refine WO.as gN rfl (evC rfl) ?_
          refine WO.nil ?_
          refine SeqK.nrm ?_
          refine WC.ret ?_
          refine BlkK.ret ?_
          refine SeqK.ret ?_
          refine LoopK.ret ?_
          refine BlkK.ret ?_
          refine SeqK.ret ?_
          have hr := Option.some.inj hL
          subst hr
          exact RetK.gen1 rfl (ares_tmp (evT fh rfl) ares_nil) rfl
        · replace hL := cond_ff hc hL
          refine WC.skip ?_
          refine BlkK.nrm ?_
          refine SeqK.nrm ?_
          refine WC.region ?_
          refine WO.mv gN rfl (evT (fs8 rfl (fs8 rfl (fs2 rfl e70))) rfl) ?_
          refine WO.bin gN rfl (evT fh rfl) (evC rfl) abin_addw ?_
          refine WO.as gN rfl (evT fh rfl) ?_
          refine WO.nil ?_
          exact LoopK.nrm (hnext75 _ _ hL ⟨_, _, rfl, hG, (fs8 rfl (fs8 rfl (fs4 rfl (fskip rfl e66)))), (fs8 rfl (fs8 rfl (fs4 rfl (fskip rfl e67)))), (fs8 rfl (fs8 rfl (fs4 rfl (fskip rfl e68)))), fh, hb71, hs72, hs73, hs74⟩)
      · replace hL := cond_ff hc hL
        refine WC.exit ?_
        refine SeqK.exit ?_
        refine LoopK.exit ?_
        refine BlkK.here ?_
        refine SeqK.nrm ?_
        refine WC.seq ?_
        refine WC.region ?_
        refine WO.as gN rfl (evC rfl) ?_
        refine WO.nil ?_
        refine SeqK.nrm ?_
        refine WC.ret ?_
        have hr := Option.some.inj hL
        subst hr
        exact RetK.gen1 rfl (ares_tmp (evT fh rfl) ares_nil) rfl
theorem f62_ok {F : Nat} {h : H} {p0 : WeighWorld} {p1 : Int} {a1 : Option Addr} {c2 : Nat} {a3 : Option Addr} {c4 : Nat} {a5 : Option Addr} {c6 : Nat} {r : Bool} (hsa1 : Sl (rSl rWeighCell) h.size h a1 c2 p0.cells) (hsa3 : Sl rWeighNote h.size h a3 c4 p0.notes) (hsa5 : Sl (rInt .i64) h.size h a5 c6 p0.freed) (hL : f62L F p0 p1 = some r) : Pure XX 62 #[.agg [.slice a1 p0.cells.length c2, .slice a3 p0.notes.length c4, .int .i64 p0.names, .slice a5 p0.freed.length c6].toArray, .int .i64 p1] h (.bool r) :=
  WF.pureR rfl (f62_wf (Nat.le_refl _) hsa1 hsa3 hsa5 hL)
theorem f20_wf {F : Nat} {wm : Nat} {h : H} {p0 : WeighWorld} {a1 : Option Addr} {c2 : Nat} {a3 : Option Addr} {c4 : Nat} {a5 : Option Addr} {c6 : Nat} {r : Bool} (hwm : wm ≤ h.size) (hsa1 : Sl (rSl rWeighCell) wm h a1 c2 p0.cells) (hsa3 : Sl rWeighNote wm h a3 c4 p0.notes) (hsa5 : Sl (rInt .i64) wm h a5 c6 p0.freed) (hL : f20L F p0 = some r) :
    WR XX 20 #[.agg [.slice a1 p0.cells.length c2, .slice a3 p0.notes.length c4, .int .i64 p0.names, .slice a5 p0.freed.length c6].toArray] wm h (fun v _ => v = .bool r) := by
  refine WF.begin (args := [_]) (fn := Try.f20) (by kernel_rfl) (by exact rfl) Try.ntmps20 (by simp) ?_
  simp only [frameOf_cons, frameOf_nil, Nat.reduceAdd]
  have hG : Grow h h := Grow.refl h
  unfold f20L at hL
  refine WC.seq ?_
  refine WC.region ?_
  refine WO.boxN h.size gN rfl (evT fh rfl) (vs := [.slice a1 p0.cells.length c2, .slice a3 p0.notes.length c4, .int .i64 p0.names, .slice a5 p0.freed.length c6]) rfl (fun h7 u8 hb9 => ?_)
  have whb9 : h.size ≤ h.size := hG.size
  have hsa1 := hsa1.mono (u8.fz hwm)
  have hsa3 := hsa3.mono (u8.fz hwm)
  have hsa5 := hsa5.mono (u8.fz hwm)
  have hG := u8.grow hG (Nat.le_refl _)
  refine WO.as gN rfl (evC rfl) ?_
  refine WO.nil ?_
  refine SeqK.nrm ?_
  refine WC.seq ?_
  refine WC.seq ?_
  refine WC.region ?_
  refine WO.ldA gN rfl agg26 size26 (evT (fskip rfl fh) rfl) (At.box hb9) (j := 0) rfl rfl (ws := [.slice a1 p0.cells.length c2, .slice a3 p0.notes.length c4, .int .i64 p0.names, .slice a5 p0.freed.length c6]) rfl ?_
  obtain ⟨x10, hx10, hL⟩ := bind_some hL
  refine WO.cf gN rfl has60 (evs_cons (evT fh rfl) evs_nil) (f60_ok (Src.sl (Sl.src hsa1) (Nat.le_trans hwm hG.size)) (Src.sl (Sl.src hsa3) (Nat.le_trans hwm hG.size)) (Src.sl (Sl.src hsa5) (Nat.le_trans hwm hG.size)) hx10 _) ?_
  refine WO.not gN rfl (evT fh rfl) ?_
  refine WO.nil ?_
  refine SeqK.nrm ?_
  refine WC.condN (evT fh rfl) (fun hc => ?_) (fun hc => ?_)
  · replace hL := cond_tt hc hL
    refine WC.seq ?_
    refine WC.region ?_
    refine WO.as gN rfl (evC rfl) ?_
    refine WO.nil ?_
    refine SeqK.nrm ?_
    refine WC.ret ?_
    refine SeqK.ret ?_
    have hr := Option.some.inj hL
    subst hr
    exact RetK.gen1 rfl (ares_tmp (evT fh rfl) ares_nil) rfl
  · replace hL := cond_ff hc hL
    refine WC.skip ?_
    refine SeqK.nrm ?_
    refine WC.seq ?_
    refine WC.seq ?_
    refine WC.region ?_
    refine WO.as gN rfl (evC rfl) ?_
    refine WO.nil ?_
    refine SeqK.nrm ?_
    refine WC.block ?_
    refine WC.loop (WL.lift hL (fun (v14 : Int) (s : Fs) => ∃ (fr12 : Fr) (h11 : H), s = ⟨fr12, [], h11, none⟩ ∧ Grow h h11 ∧ fr12.at 1 = .pointer (some ⟨h.size, 0, none⟩) ∧ fr12.at 3 = .int .i64 v14 ∧ h11.at (h.size) = .row [.slice a1 p0.cells.length c2, .slice a3 p0.notes.length c4, .int .i64 p0.names, .slice a5 p0.freed.length c6] true 0 ∧ Sl (rSl rWeighCell) wm h11 a1 c2 p0.cells ∧ Sl rWeighNote wm h11 a3 c4 p0.notes ∧ Sl (rInt .i64) wm h11 a5 c6 p0.freed) ⟨_, _, rfl, hG, (fs4 rfl (fskip rfl fh)), fh, hb9, hsa1, hsa3, hsa5⟩ ?_)
    clear hL
    rintro next20 v14 s hnext20 hL ⟨fr12, h11, rfl, hG, e13, e15, hb16, hs17, hs18, hs19⟩
    dsimp only [f20_b0] at hL
    refine WC.seq ?_
    refine WC.seq ?_
    refine WC.region ?_
    refine WO.mv gN rfl (evT e15 rfl) ?_
    refine WO.fld gN rfl fld26_2 (evT (fskip rfl e13) rfl) ?_
    refine WO.ld gN rfl agg3 (evT fh rfl) (At.box hb16) (j := 2) rfl (v := .int .i64 p0.names) rfl ?_
    refine WO.bin gN rfl (evT (fs2 rfl fh) rfl) (evT fh rfl) abin_lss ?_
    refine WO.nil ?_
    refine SeqK.nrm ?_
    refine WC.condN (evT fh rfl) (fun hc => ?_) (fun hc => ?_)
    · replace hL := cond_tt hc hL
      refine WC.skip ?_
      refine SeqK.nrm ?_
      refine WC.seq ?_
      refine WC.block ?_
      refine WC.seq ?_
      refine WC.region ?_
      refine WO.fld gN rfl fld26_3 (evT (fs4 rfl e13) rfl) ?_
      refine WO.ld gN rfl agg24 (evT fh rfl) (At.box hb16) (j := 3) rfl (v := .slice a5 p0.freed.length c6) rfl ?_
      refine WO.mv gN rfl (evT (fs4 rfl (fs2 rfl e15)) rfl) ?_
      obtain ⟨x21, hx21, hL⟩ := bind_some hL
      refine WO.cf gN rfl has61 (evs_cons (evT (fskip rfl fh) rfl) (evs_cons (evT fh rfl) evs_nil)) (f61_ok (Src.sl (Sl.src hs19) (Nat.le_trans hwm hG.size)) hx21 _) ?_
      refine WO.not gN rfl (evT fh rfl) ?_
      refine WO.mv gN rfl (evT fh rfl) ?_
      refine WO.gldA (GuardIs.yes rfl rfl rfl fh) rfl agg26 size26 (fun hg => (evT (fs8 rfl (fs2 rfl e13)) rfl)) (fun hg => (At.box hb16)) (j := 0) rfl rfl (ws := [.slice a1 p0.cells.length c2, .slice a3 p0.notes.length c4, .int .i64 p0.names, .slice a5 p0.freed.length c6]) rfl ?_
      refine WO.gmv (GuardIs.yes rfl rfl rfl (fskip rfl fh)) rfl (fun hg => (evT (fs8 rfl (fs2 rfl (fskip rfl e15))) rfl)) ?_
      obtain ⟨x22, hx22, hL⟩ := gd_some hL
      refine WO.gcf (GuardIs.yes rfl rfl rfl (fs2 rfl fh)) rfl has62 (fun hg => (evs_cons (evG (fskip rfl fh) rfl hg) (evs_cons (evG fh rfl hg) evs_nil))) (fun hg => f62_ok (Src.sl (Sl.src hs17) (Nat.le_trans hwm hG.size)) (Src.sl (Sl.src hs18) (Nat.le_trans hwm hG.size)) (Src.sl (Sl.src hs19) (Nat.le_trans hwm hG.size)) (hx22 hg) _) ?_
      refine WO.gnot (GuardIs.yes rfl rfl rfl (fs2 rfl (fskip rfl fh))) rfl (fun hg => (evG fh rfl hg)) ?_
      refine WO.pand gN rfl (evT (fs4 rfl fh) rfl) (evGU fh) (evC rfl) ?_
      refine WO.nil ?_
      refine SeqK.nrm ?_
      refine WC.condN (evT fh rfl) (fun hc => ?_) (fun hc => ?_)
      · replace hL := cond_tt hc hL
        refine WC.seq ?_
        refine WC.region ?_
        refine WO.as gN rfl (evC rfl) ?_
        refine WO.nil ?_
        refine SeqK.nrm ?_
        refine WC.ret ?_
        refine BlkK.ret ?_
        refine SeqK.ret ?_
        refine LoopK.ret ?_
        refine BlkK.ret ?_
        refine SeqK.ret ?_
        have hr := Option.some.inj hL
        subst hr
        exact RetK.gen1 rfl (ares_tmp (evT fh rfl) ares_nil) rfl
      · replace hL := cond_ff hc hL
        refine WC.skip ?_
        refine BlkK.nrm ?_
        refine SeqK.nrm ?_
        refine WC.region ?_
        refine WO.mv gN rfl (evT (fs8 rfl (fs4 rfl (fs2 rfl (fskip rfl e15)))) rfl) ?_
        refine WO.bin gN rfl (evT fh rfl) (evC rfl) abin_addw ?_
        refine WO.as gN rfl (evT fh rfl) ?_
        refine WO.nil ?_
        exact LoopK.nrm (hnext20 _ _ hL ⟨_, _, rfl, hG, (fs8 rfl (fs8 rfl (fs2 rfl e13))), fh, hb16, hs17, hs18, hs19⟩)
    · replace hL := cond_ff hc hL
      refine WC.exit ?_
      refine SeqK.exit ?_
      refine LoopK.exit ?_
      refine BlkK.here ?_
      refine SeqK.nrm ?_
      refine WC.seq ?_
      refine WC.region ?_
      refine WO.as gN rfl (evC rfl) ?_
      refine WO.nil ?_
      refine SeqK.nrm ?_
      refine WC.ret ?_
      have hr := Option.some.inj hL
      subst hr
      exact RetK.gen1 rfl (ares_tmp (evT fh rfl) ares_nil) rfl
theorem f20_ok {F : Nat} {h : H} {p0 : WeighWorld} {a1 : Option Addr} {c2 : Nat} {a3 : Option Addr} {c4 : Nat} {a5 : Option Addr} {c6 : Nat} {r : Bool} (hsa1 : Sl (rSl rWeighCell) h.size h a1 c2 p0.cells) (hsa3 : Sl rWeighNote h.size h a3 c4 p0.notes) (hsa5 : Sl (rInt .i64) h.size h a5 c6 p0.freed) (hL : f20L F p0 = some r) : Pure XX 20 #[.agg [.slice a1 p0.cells.length c2, .slice a3 p0.notes.length c4, .int .i64 p0.names, .slice a5 p0.freed.length c6].toArray] h (.bool r) :=
  WF.pureR rfl (f20_wf (Nat.le_refl _) hsa1 hsa3 hsa5 hL)
theorem f26_wf {F : Nat} {wm : Nat} {h : H} {p0 : WeighWorld} {a1 : Option Addr} {c2 : Nat} {a3 : Option Addr} {c4 : Nat} {a5 : Option Addr} {c6 : Nat} {r : ((List WeighSum) × Int)} (hwm : wm ≤ h.size) (hsa1 : Sl (rSl rWeighCell) wm h a1 c2 p0.cells) (hsa3 : Sl rWeighNote wm h a3 c4 p0.notes) (hsa5 : Sl (rInt .i64) wm h a5 c6 p0.freed) (hL : f26L F p0 = some r) :
    WR XX 26 #[.agg [.slice a1 p0.cells.length c2, .slice a3 p0.notes.length c4, .int .i64 p0.names, .slice a5 p0.freed.length c6].toArray] wm h (fun v h' => ∃ (ra0_0 : Option Addr) (rc0_0 : Nat), v = .tuple [.slice ra0_0 r.1.length rc0_0, .int .i64 r.2].toArray ∧ Grow h h' ∧ OwnS rWeighSum wm h.size h' ra0_0 rc0_0 r.1) := by
  refine WF.begin (args := [_]) (fn := Try.f26) (by kernel_rfl) (by exact rfl) Try.ntmps26 (by simp) ?_
  simp only [frameOf_cons, frameOf_nil, Nat.reduceAdd]
  have hG : Grow h h := Grow.refl h
  unfold f26L at hL
  refine WC.seq ?_
  refine WC.region ?_
  refine WO.boxN h.size gN rfl (evT fh rfl) (vs := [.slice a1 p0.cells.length c2, .slice a3 p0.notes.length c4, .int .i64 p0.names, .slice a5 p0.freed.length c6]) rfl (fun h7 u8 hb9 => ?_)
  have whb9 : h.size ≤ h.size := hG.size
  have hsa1 := hsa1.mono (u8.fz hwm)
  have hsa3 := hsa3.mono (u8.fz hwm)
  have hsa5 := hsa5.mono (u8.fz hwm)
  have hG := u8.grow hG (Nat.le_refl _)
  refine WO.as gN rfl (evC rfl) ?_
  refine WO.as gN rfl (evC rfl) ?_
  refine WO.nil ?_
  refine SeqK.nrm ?_
  refine WC.seq ?_
  refine WC.seq ?_
  refine WC.region ?_
  refine WO.ldA gN rfl agg26 size26 (evT (fs2 rfl fh) rfl) (At.box hb9) (j := 0) rfl rfl (ws := [.slice a1 p0.cells.length c2, .slice a3 p0.notes.length c4, .int .i64 p0.names, .slice a5 p0.freed.length c6]) rfl ?_
  obtain ⟨x10, hx10, hL⟩ := bind_some hL
  refine WO.cf gN rfl has20 (evs_cons (evT fh rfl) evs_nil) (f20_ok (Src.sl (Sl.src hsa1) (Nat.le_trans hwm hG.size)) (Src.sl (Sl.src hsa3) (Nat.le_trans hwm hG.size)) (Src.sl (Sl.src hsa5) (Nat.le_trans hwm hG.size)) hx10 _) ?_
  refine WO.not gN rfl (evT fh rfl) ?_
  refine WO.nil ?_
  refine SeqK.nrm ?_
  refine WC.condN (evT fh rfl) (fun hc => ?_) (fun hc => ?_)
  · replace hL := cond_tt hc hL
    refine WC.seq ?_
    refine WC.region ?_
    refine WO.as gN rfl (evC rfl) ?_
    refine WO.as gN rfl (evC rfl) ?_
    refine WO.nil ?_
    refine SeqK.nrm ?_
    refine WC.ret ?_
    refine SeqK.ret ?_
    have hr := Option.some.inj hL
    subst hr
    exact RetK.gen (vs := [.slice none 0 0, .int .i64 2]) rfl (ares_tmp (evT (fskip rfl fh) rfl) (ares_tmp (evT fh rfl) ares_nil)) rfl ⟨none, 0, rfl, hG, OwnS.nil⟩
  · replace hL := cond_ff hc hL
    refine WC.skip ?_
    refine SeqK.nrm ?_
    refine WC.seq ?_
    refine WC.region ?_
    refine WO.as gN rfl (evC rfl) ?_
    refine WO.nil ?_
    refine SeqK.nrm ?_
    refine WC.seq ?_
    refine WC.seq ?_
    refine WC.region ?_
    refine WO.as gN rfl (evC rfl) ?_
    refine WO.nil ?_
    refine SeqK.nrm ?_
    refine WC.block ?_
    refine WC.loop (WL.lift hL (fun (p : (List WeighSum) × Int) (s : Fs) => match p with | (v14, v18) => ∃ (fr12 : Fr) (h11 : H) (a15 : Option Addr) (c16 : Nat), s = ⟨fr12, [], h11, none⟩ ∧ Grow h h11 ∧ fr12.at 1 = .pointer (some ⟨h.size, 0, none⟩) ∧ fr12.at 4 = .slice a15 v14.length c16 ∧ fr12.at 5 = .int .i64 v18 ∧ h11.at (h.size) = .row [.slice a1 p0.cells.length c2, .slice a3 p0.notes.length c4, .int .i64 p0.names, .slice a5 p0.freed.length c6] true 0 ∧ OwnS rWeighSum wm h.size h11 a15 c16 v14 ∧ Sl (rSl rWeighCell) wm h11 a1 c2 p0.cells ∧ Sl rWeighNote wm h11 a3 c4 p0.notes ∧ Sl (rInt .i64) wm h11 a5 c6 p0.freed) ⟨_, _, none, 0, rfl, hG, (fs4 rfl (fs2 rfl (fskip rfl fh))), (fskip rfl fh), fh, hb9, OwnS.nil, hsa1, hsa3, hsa5⟩ ?_)
    clear hL
    rintro next25 ⟨v14, v18⟩ s hnext25 hL ⟨fr12, h11, a15, c16, rfl, hG, e13, e17, e19, hb20, ho21, hs22, hs23, hs24⟩
    dsimp only [f26_b0] at hL
    refine WC.seq ?_
    refine WC.seq ?_
    refine WC.region ?_
    refine WO.mv gN rfl (evT e19 rfl) ?_
    refine WO.fld gN rfl fld26_0 (evT (fskip rfl e13) rfl) ?_
    refine WO.ld gN rfl agg22 (evT fh rfl) (At.box hb20) (j := 0) rfl (v := .slice a1 p0.cells.length c2) rfl ?_
    refine WO.len gN rfl und22 (evT fh rfl) ?_
    refine WO.bin gN rfl (evT (fs2 rfl (fskip rfl fh)) rfl) (evT fh rfl) abin_lss ?_
    refine WO.nil ?_
    refine SeqK.nrm ?_
    refine WC.condN (evT fh rfl) (fun hc => ?_) (fun hc => ?_)
    · replace hL := cond_tt hc hL
      refine WC.skip ?_
      refine SeqK.nrm ?_
      refine WC.seq ?_
      refine WC.block ?_
      refine WC.seq ?_
      refine WC.region ?_
      refine WO.as gN rfl (evC rfl) ?_
      refine WO.nil ?_
      refine SeqK.nrm ?_
      refine WC.block ?_
      refine WC.loop (WL.lift hL (fun (p : (List WeighSum) × Int) (s : Fs) => match p with | (v29, v34) => ∃ (fr27 : Fr) (h26 : H) (a30 : Option Addr) (c31 : Nat), s = ⟨fr27, [], h26, none⟩ ∧ Grow h h26 ∧ fr27.at 1 = .pointer (some ⟨h.size, 0, none⟩) ∧ fr27.at 4 = .slice a30 v29.length c31 ∧ fr27.at 5 = .int .i64 v18 ∧ fr27.at 6 = .int .i64 v34 ∧ h26.at (h.size) = .row [.slice a1 p0.cells.length c2, .slice a3 p0.notes.length c4, .int .i64 p0.names, .slice a5 p0.freed.length c6] true 0 ∧ OwnS rWeighSum wm h.size h26 a30 c31 v29 ∧ Sl (rSl rWeighCell) wm h26 a1 c2 p0.cells ∧ Sl rWeighNote wm h26 a3 c4 p0.notes ∧ Sl (rInt .i64) wm h26 a5 c6 p0.freed) ⟨_, _, a15, c16, rfl, hG, (fs4 rfl (fs2 rfl e13)), (fs4 rfl (fs2 rfl e17)), (fs4 rfl (fs2 rfl e19)), fh, hb20, ho21, hs22, hs23, hs24⟩ ?_)
      clear hL
      rintro next41 ⟨v29, v34⟩ s hnext41 hL ⟨fr27, h26, a30, c31, rfl, hG, e28, e32, e33, e35, hb36, ho37, hs38, hs39, hs40⟩
      dsimp only [f26_b1] at hL
      refine WC.seq ?_
      refine WC.seq ?_
      refine WC.region ?_
      refine WO.mv gN rfl (evT e35 rfl) ?_
      refine WO.fld gN rfl fld26_2 (evT (fskip rfl e28) rfl) ?_
      refine WO.ld gN rfl agg3 (evT fh rfl) (At.box hb36) (j := 2) rfl (v := .int .i64 p0.names) rfl ?_
      refine WO.bin gN rfl (evT (fs2 rfl fh) rfl) (evT fh rfl) abin_lss ?_
      refine WO.nil ?_
      refine SeqK.nrm ?_
      refine WC.condN (evT fh rfl) (fun hc => ?_) (fun hc => ?_)
      · replace hL := cond_tt hc hL
        refine WC.skip ?_
        refine SeqK.nrm ?_
        refine WC.seqJ (r := r) (fun (v45 : (List WeighSum)) (s : Fs) => ∃ (fr43 : Fr) (h42 : H) (a46 : Option Addr) (c47 : Nat), s = ⟨fr43, [], h42, none⟩ ∧ Grow h h42 ∧ fr43.at 1 = .pointer (some ⟨h.size, 0, none⟩) ∧ fr43.at 4 = .slice a46 v45.length c47 ∧ fr43.at 5 = .int .i64 v18 ∧ fr43.at 6 = .int .i64 v34 ∧ h42.at (h.size) = .row [.slice a1 p0.cells.length c2, .slice a3 p0.notes.length c4, .int .i64 p0.names, .slice a5 p0.freed.length c6] true 0 ∧ OwnS rWeighSum wm h.size h42 a46 c47 v45 ∧ Sl (rSl rWeighCell) wm h42 a1 c2 p0.cells ∧ Sl rWeighNote wm h42 a3 c4 p0.notes ∧ Sl (rInt .i64) wm h42 a5 c6 p0.freed) (f26_j0 v34 next41) ?_ ?_
        · clear hL
          rintro v45 s hL ⟨fr43, h42, a46, c47, rfl, hG, e44, e48, e49, e50, hb51, ho52, hs53, hs54, hs55⟩
          dsimp only [f26_j0] at hL
          refine WC.region ?_
          refine WO.mv gN rfl (evT e50 rfl) ?_
          refine WO.bin gN rfl (evT fh rfl) (evC rfl) abin_addw ?_
          refine WO.as gN rfl (evT fh rfl) ?_
          refine WO.nil ?_
          exact LoopK.nrm (hnext41 _ _ hL ⟨_, _, a46, c47, rfl, hG, (fs2 rfl (fskip rfl e44)), (fs2 rfl (fskip rfl e48)), (fs2 rfl (fskip rfl e49)), fh, hb51, ho52, hs53, hs54, hs55⟩)
        · skip
          refine WC.block ?_
          refine WC.seq ?_
          refine WC.drawD mixed (by kernel_rfl) ?_
          refine WD.mv gN rfl (evT (fs4 rfl e33) rfl) ?_
          refine WD.mv gN rfl (evT (fs4 rfl (fskip rfl e35)) rfl) ?_
          refine WD.ldA gN rfl agg26 size26 (evT (fs4 rfl (fs2 rfl e28)) rfl) (At.box hb36) (j := 0) rfl rfl (ws := [.slice a1 p0.cells.length c2, .slice a3 p0.notes.length c4, .int .i64 p0.names, .slice a5 p0.freed.length c6]) rfl ?_
          refine WD.mv gN rfl (evT (fs4 rfl (fs2 rfl (fskip rfl e33))) rfl) ?_
          refine WD.mv gN rfl (evT (fs8 rfl e35) rfl) ?_
          obtain ⟨x56, hx56, hL⟩ := bind_some hL
          refine WD.cf gN rfl has69 (evs_cons (evT (fs2 rfl fh) rfl) (evs_cons (evT (fskip rfl fh) rfl) (evs_cons (evT fh rfl) evs_nil))) (f69_ok (Src.sl (Sl.src hs38) (Nat.le_trans hwm hG.size)) (Src.sl (Sl.src hs39) (Nat.le_trans hwm hG.size)) (Src.sl (Sl.src hs40) (Nat.le_trans hwm hG.size)) hx56 _) ?_
          refine WD.ldA gN rfl agg26 size26 (evT (fs8 rfl (fs2 rfl e28)) rfl) (At.box hb36) (j := 0) rfl rfl (ws := [.slice a1 p0.cells.length c2, .slice a3 p0.notes.length c4, .int .i64 p0.names, .slice a5 p0.freed.length c6]) rfl ?_
          refine WD.mv gN rfl (evT (fs8 rfl (fs2 rfl (fskip rfl e33))) rfl) ?_
          refine WD.mv gN rfl (evT (fs8 rfl (fs4 rfl e35)) rfl) ?_
          obtain ⟨x57, hx57, hL⟩ := bind_some hL
          refine WD.cf gN rfl has70 (evs_cons (evT (fs2 rfl fh) rfl) (evs_cons (evT (fskip rfl fh) rfl) (evs_cons (evT fh rfl) evs_nil))) (f70_ok (Src.sl (Sl.src hs38) (Nat.le_trans hwm hG.size)) (Src.sl (Sl.src hs39) (Nat.le_trans hwm hG.size)) (Src.sl (Sl.src hs40) (Nat.le_trans hwm hG.size)) hx57 _) ?_
          refine WD.bld gN rfl bld91 (evp_cons (evT (fs8 rfl (fskip rfl fh)) rfl) (evp_cons (evT (fs8 rfl fh) rfl) (evp_cons (evT (fs4 rfl fh) rfl) (evp_cons (evT fh rfl) evp_nil)))) rfl (cs' := [.int .i64 v18, .int .i64 v34, .int .i64 x56, .int .i64 x57]) rfl ?_
          refine WD.alcN h.size gN rfl zero91 (vs := [.int .i64 0, .int .i64 0, .int .i64 0, .int .i64 0]) rfl (fun h58 u59 hb60 => ?_)
          have whb60 : h.size ≤ h26.size := hG.size
          have ne61 := Nat.ne_of_lt (live_lt hb36 rfl)
          have hb36 := u59.row (fun z => z) hb36
          have ho37 := OwnS.step u59 hwm (fun _ _ z => z) ho37
          have hs38 := hs38.mono (u59.fz hwm)
          have hs39 := hs39.mono (u59.fz hwm)
          have hs40 := hs40.mono (u59.fz hwm)
          have hG := u59.grow hG (Nat.le_refl _)
          refine WD.stN h.size gN size91 (evT fh rfl) (evT (fskip rfl fh) rfl) hb60 whb60 hwm (vs := [.int .i64 v18, .int .i64 v34, .int .i64 x56, .int .i64 x57]) rfl rfl rfl rfl (cs' := [.int .i64 v18, .int .i64 v34, .int .i64 x56, .int .i64 x57]) rfl (fun h62 u63 hb64 => ?_) (by kernel_rfl)
          have hb36 := u63.row ne61 hb36
          have ho37 := OwnS.step u63 hwm (fun i hb z => by subst z; exact OwnS.notBox ho37 hb60 hb) ho37
          have hs38 := hs38.mono (u63.fz hwm)
          have hs39 := hs39.mono (u63.fz hwm)
          have hs40 := hs40.mono (u63.fz hwm)
          have hG := u63.grow hG (Nat.le_refl _)
          refine WD.nil ?_
          refine SeqK.nrm ?_
          refine WC.seq ?_
          refine WC.region ?_
          refine WO.fld gN rfl fld91_2 (evT fh rfl) ?_
          refine WO.ld gN rfl agg3 (evT fh rfl) (At.box hb64) (j := 2) rfl (v := .int .i64 x56) rfl ?_
          refine WO.bin gN rfl (evT fh rfl) (evC rfl) abin_neq ?_
          refine WO.mv gN rfl (evT fh rfl) ?_
          refine WO.gfld (GuardIs.no rfl rfl rfl fh) rfl fld91_3 (fun hg => (evT (fs4 rfl fh) rfl)) ?_
          refine WO.gld (GuardIs.no rfl rfl rfl (fskip rfl fh)) rfl agg3 (fun hg => (evG fh rfl hg)) (fun hg => (At.box hb64)) (j := 3) rfl (v := .int .i64 x57) rfl ?_
          refine WO.gbin (GuardIs.no rfl rfl rfl (fs2 rfl fh)) rfl (fun hg => (evG fh rfl hg)) (fun hg => (evC rfl)) (fun hg => abin_neq) ?_
          refine WO.por gN rfl (evT (fs2 rfl (fskip rfl fh)) rfl) (evC rfl) (evGU fh) ?_
          refine WO.nil ?_
          refine SeqK.nrm ?_
          refine WC.condN (evT fh rfl) (fun hc => ?_) (fun hc => ?_)
          · replace hL := cond_tt hc hL
            refine WC.region ?_
            refine WO.mv gN rfl (evT (fs8 rfl (fs8 rfl (fs8 rfl e32))) rfl) ?_
            refine WO.ldA gN rfl agg91 size91 (evT (fs8 rfl (fskip rfl fh)) rfl) (At.box hb64) (j := 0) rfl rfl (ws := [.int .i64 v18, .int .i64 v34, .int .i64 x56, .int .i64 x57]) rfl ?_
            refine WO.bsN (e := rWeighSum) h.size gN rfl und43 size91 zero91 rfl rfl rfl (evp_cons (evT fh rfl) evp_nil) rfl [((), (WeighSum.mk v18 v34 x56 x57))] rfl (xs := [(WeighSum.mk v18 v34 x56 x57)]) rfl (by intro q hq; simp only [List.mem_cons, List.not_mem_nil, or_false] at hq; subst hq; exact trivial) hwm hG.size rfl (fun h65 u66 ho67 => ?_)
            have dj68 := OwnS.newdj ho37
            have hb36 := u66.row (fun z => z) hb36
            have hb64 := u66.row (fun z => z) hb64
            have ho37 := OwnS.step u66 hwm (fun _ _ z => z) ho37
            have hs38 := hs38.mono (u66.fz hwm)
            have hs39 := hs39.mono (u66.fz hwm)
            have hs40 := hs40.mono (u66.fz hwm)
            have hG := u66.grow hG (Nat.le_refl _)
            obtain ⟨z69, hz69, hL⟩ := bind_some hL
            refine WO.apN (e := rWeighSum) h.size gN rfl app43_43 hwm hG.size (evT (fs2 rfl fh) rfl) (evT fh rfl) ho37 (OwnS.src ho67) hz69 (fun a70 c71 h72 u73 ho74 sb75 => ?_)
            have dj76 := OwnS.apdj sb75 (fun i p q => dj68 i q p) ho67
            have hb36 := u73.row (OwnS.notBox ho37 hb36) hb36
            have hb64 := u73.row (OwnS.notBox ho37 hb64) hb64
            have hs38 := hs38.mono (u73.fz hwm)
            have hs39 := hs39.mono (u73.fz hwm)
            have hs40 := hs40.mono (u73.fz hwm)
            have ho67 := OwnS.step u73 hwm dj68 ho67
            have hG := u73.grow hG (Nat.le_refl _)
            refine WO.as gN rfl (evT fh rfl) ?_
            refine WO.nil ?_
            refine BlkK.nrm ?_
            exact SeqJ.nrm _ hL ⟨_, _, a70, c71, rfl, hG, (fs8 rfl (fs8 rfl (fs8 rfl (fs4 rfl (fskip rfl e28))))), fh, (fs8 rfl (fs8 rfl (fs8 rfl (fs4 rfl (fskip rfl e33))))), (fs8 rfl (fs8 rfl (fs8 rfl (fs4 rfl (fskip rfl e35))))), hb36, ho74, hs38, hs39, hs40⟩
          · replace hL := cond_ff hc hL
            refine WC.skip ?_
            refine BlkK.nrm ?_
            exact SeqJ.nrm _ hL ⟨_, _, a30, c31, rfl, hG, (fs8 rfl (fs8 rfl (fs8 rfl e28))), (fs8 rfl (fs8 rfl (fs8 rfl e32))), (fs8 rfl (fs8 rfl (fs8 rfl e33))), (fs8 rfl (fs8 rfl (fs8 rfl e35))), hb36, ho37, hs38, hs39, hs40⟩
      · replace hL := cond_ff hc hL
        refine WC.exit ?_
        refine SeqK.exit ?_
        refine LoopK.exit ?_
        refine BlkK.here ?_
        refine BlkK.nrm ?_
        refine SeqK.nrm ?_
        refine WC.region ?_
        refine WO.mv gN rfl (evT (fs4 rfl e33) rfl) ?_
        refine WO.bin gN rfl (evT fh rfl) (evC rfl) abin_addw ?_
        refine WO.as gN rfl (evT fh rfl) ?_
        refine WO.nil ?_
        exact LoopK.nrm (hnext25 _ _ hL ⟨_, _, a30, c31, rfl, hG, (fs4 rfl (fs2 rfl (fskip rfl e28))), (fs4 rfl (fs2 rfl (fskip rfl e32))), fh, hb36, ho37, hs38, hs39, hs40⟩)
    · replace hL := cond_ff hc hL
      refine WC.exit ?_
      refine SeqK.exit ?_
      refine LoopK.exit ?_
      refine BlkK.here ?_
      refine SeqK.nrm ?_
      refine WC.seq ?_
      refine WC.region ?_
      refine WO.mv gN rfl (evT (fs4 rfl (fskip rfl e17)) rfl) ?_
      refine WO.as gN rfl (evT fh rfl) ?_
      refine WO.as gN rfl (evC rfl) ?_
      refine WO.nil ?_
      refine SeqK.nrm ?_
      refine WC.ret ?_
      have hr := Option.some.inj hL
      subst hr
      exact RetK.gen (vs := [.slice a15 v14.length c16, .int .i64 0]) rfl (ares_tmp (evT (fskip rfl fh) rfl) (ares_tmp (evT fh rfl) ares_nil)) rfl ⟨a15, c16, rfl, hG, ho21⟩
end Go.Proofs.Ytekpjgmhkkjhgaa
end
end
section
set_option linter.unusedVariables false
set_option linter.unusedSimpArgs false
namespace Go.Proofs.Ytekpjgmhkkjhgaa
open Go.Lf
def f29_b0 (p0 : (List WeighSum)) (p1 : (List WeighSum)) : Int → (Int → Option Bool) → Option Bool := fun v9 next13 =>
  (bif decide (v9 < (p0.length : Int)) then (geti p0 v9).bind fun x14 => (geti p1 v9).bind fun x17 => (bif (!(eqWeighSum x14 x17)) then some false else next13 (w64 (v9 + 1))) else some true)
def f29L (F : Nat) (p0 : (List WeighSum)) (p1 : (List WeighSum)) : Option Bool :=
  (bif ((p0.length : Int) != (p1.length : Int)) then some false else loop F (f29_b0 p0 p1) 0)
def f28_j0 (v21 : Int) (next28 : ((List Int) × Int → Option ((List Int) × (List Int) × Int))) : (List Int) → Option ((List Int) × (List Int) × Int) := fun v33 =>
  next28 (v33, w64 (v21 + 1))
def f28_j1 (v74 : Int) (next83 : ((List Int) × Int → Option ((List Int) × (List Int) × Int))) : (List Int) → Option ((List Int) × (List Int) × Int) := fun v89 =>
  next83 (v89, w64 (v74 + 1))
def f28_b1 (p0 : WeighWorld) (p1 : Int) (v16 : (List Int)) : (List Int) × Int → ((List Int) × Int → Option ((List Int) × (List Int) × Int)) → Option ((List Int) × (List Int) × Int) := fun (v70, v74) next83 =>
  (bif decide (v74 < (p0.notes.length : Int)) then (geti p0.notes v74).bind fun x101 => (gd (x101.kind == 1) (geti p0.notes v74) default).bind fun x104 => (bif ((x101.kind == 1) && (x104.name == p1)) then (app 8 v70 [v74]).bind fun z112 => (f28_j1 v74 next83) z112 else (f28_j1 v74 next83) v70) else some (v16, v70, 0))
def f28_b0 (F : Nat) (p0 : WeighWorld) (p1 : Int) : (List Int) × Int → ((List Int) × Int → Option ((List Int) × (List Int) × Int)) → Option ((List Int) × (List Int) × Int) := fun (v16, v21) next28 =>
  (bif decide (v21 < (p0.cells.length : Int)) then (f72L F p0 v21 p1).bind fun x44 => (gd (decide (x44 ≥ 0)) (geti p0.cells v21) default).bind fun x45 => (gd (decide (x44 ≥ 0)) (geti x45 x44) default).bind fun x50 => (bif ((decide (x44 ≥ 0)) && x50.use) then (app 8 v16 [v21]).bind fun z57 => (f28_j0 v21 next28) z57 else (f28_j0 v21 next28) v16) else loop F (f28_b1 p0 p1 v16) ([], 0))
def f28L (F : Nat) (p0 : WeighWorld) (p1 : Int) : Option ((List Int) × (List Int) × Int) :=
  (f20L F p0).bind fun x10 => (gd (!(!x10)) (f53L p1 0 (w64 (p0.names - 1))) default).bind fun x11 => (bif ((!x10) || (!x11)) then some ([], [], 2) else loop F (f28_b0 F p0 p1) ([], 0))
def f124L (p0 : Store) (p1 : Int) : Option Bool :=
  some ((decide (p1 ≥ 0)) && (decide (p1 < p0.machines)))
def f89L (F : Nat) (p0 : Store) (p1 : Int) : Option Bool :=
  (gd ((decide (p1 ≥ 0)) && (decide (p1 < p0.names))) (f75L F p0.freed p1) default).bind fun x8 => some (((decide (p1 ≥ 0)) && (decide (p1 < p0.names))) && (!x8))
def f113L (F : Nat) (p0 : Store) (p1 : Int) (p2 : WeighCell) : Option Bool :=
  (f89L F p0 p2.name).bind fun x11 => (bif ((((!x11) || (decide (p2.out < (-16)))) || (decide (p2.out > 1000000))) || ((!p2.use) && (p2.out == 0))) then some false else (bif (p2.root || (p2.from_ == (-1))) then some ((p2.from_ == (-1)) && (p2.has == 0)) else (f124L p0 p2.from_).bind fun x12 => some (((x12 && (p2.from_ != p1)) && (decide (p2.has ≥ 1))) && (decide (p2.has ≤ 1000000)))))
def f114L (F : Nat) (p0 : Store) (p1 : WeighNote) : Option Bool :=
  (f124L p0 p1.to_).bind fun x11 => (gd (!(!x11)) (f89L F p0 p1.name) default).bind fun x12 => (bif ((((!x11) || (!x12)) || (decide (p1.w < 1))) || (decide (p1.w > 1000000))) then some false else (bif (p1.kind == 1) then (f124L p0 p1.via).bind fun x13 => some x13 else (bif (p1.kind == 2) then some (p1.via == 0) else some (((p1.kind == 3) && (p1.via == 0)) && (p1.w == 16)))))
def f88_b1 (F : Nat) (p0 : Store) (v23 : Int) (next34 : (Int → Option Bool)) (x35 : (List WeighCell)) : Int → (Int → Option Bool) → Option Bool := fun v51 next63 =>
  (bif decide (v51 < (x35.length : Int)) then (geti x35 v51).bind fun x64 => (f113L F p0 v23 x64).bind fun x74 => (gd ((!(!x74)) && (decide (v51 > 0))) (geti x35 (w64 (v51 - 1))) default).bind fun x75 => (bif ((!x74) || ((decide (v51 > 0)) && (decide (x64.name ≤ x75.name)))) then some false else next63 (w64 (v51 + 1))) else next34 (w64 (v23 + 1)))
def f88_b2 (F : Nat) (p0 : Store) (p1 : WeighWorld) : Int → (Int → Option Bool) → Option Bool := fun v83 next91 =>
  (bif decide (v83 < (p1.notes.length : Int)) then (geti p1.notes v83).bind fun x92 => (f114L F p0 x92).bind fun x101 => (bif (!x101) then some false else next91 (w64 (v83 + 1))) else some true)
def f88_b0 (F : Nat) (p0 : Store) (p1 : WeighWorld) : Int → (Int → Option Bool) → Option Bool := fun v23 next34 =>
  (bif decide (v23 < (p1.cells.length : Int)) then (geti p1.cells v23).bind fun x35 => loop F (f88_b1 F p0 v23 next34 x35) 0 else loop F (f88_b2 F p0 p1) 0)
def f88L (F : Nat) (p0 : Store) (p1 : WeighWorld) : Option Bool :=
  loop F (f88_b0 F p0 p1) 0
def f86L (p0 : (List WeighNote)) : Option (List WeighNote) :=
  (app 40 [] p0).bind fun z6 => some z6
def f87L (p0 : (List Int)) : Option (List Int) :=
  (app 8 [] p0).bind fun z6 => some z6
def f56_b1 (v41 : Int) (next50 : (Int × (List (Arr2Int × WeighCell)) → Option Store)) (x51 : (List WeighCell)) : Int × (List (Arr2Int × WeighCell)) → (Int × (List (Arr2Int × WeighCell)) → Option Store) → Option Store := fun (v65, v67) next75 =>
  (bif decide (v65 < (x51.length : Int)) then (geti x51 v65).bind fun x76 => next75 (w64 (v65 + 1), (mset v67 (Arr2Int.mk v41 x76.name) x76)) else next50 (w64 (v41 + 1), v67))
def f56_b0 (F : Nat) (p0 : WeighWorld) (x13 : (List WeighNote)) (x22 : (List Int)) : Int × (List (Arr2Int × WeighCell)) → (Int × (List (Arr2Int × WeighCell)) → Option Store) → Option Store := fun (v41, v43) next50 =>
  (bif decide (v41 < (p0.cells.length : Int)) then (geti p0.cells v41).bind fun x51 => loop F (f56_b1 v41 next50 x51) (0, v43) else some (Store.mk (p0.cells.length : Int) p0.names v43 x13 x22))
def f56L (F : Nat) (p0 : WeighWorld) : Option Store :=
  (f86L p0.notes).bind fun x13 => (f87L p0.freed).bind fun x22 => loop F (f56_b0 F p0 x13 x22) (0, [])
def f91_j0 (v14 : Int) (next21 : (Int → Option Bool)) : Unit → Option Bool := fun _ =>
  next21 (w64 (v14 + 1))
def f91_b1 (p0 : Store) (p1 : Int) (p2 : Int) (v14 : Int) (next21 : (Int → Option Bool)) : Int × Bool × Int × Int × Bool × Int × Int × Int × Bool → (Int × Bool × Int × Int × Bool × Int × Int × Int × Bool → Option Bool) → Option Bool := fun (v46, v49, v54, v56, v57, v58, v59, v60, v61) next68 =>
  (bif decide (v54 < p0.machines) then (bif (v46 == p2) then (f91_j0 v14 next21) () else (bif ((!v49) || (decide (v58 < 0))) then some false else (pget2 p0.cells (Arr2Int.mk v58 p1) (WeighCell.mk 0 false 0 0 0 false)).bind fun x69 => next68 (v58, x69.2, w64 (v54 + 1), x69.1.name, x69.1.root, x69.1.from_, x69.1.has, x69.1.out, x69.1.use))) else (bif (v46 != p2) then some false else (f91_j0 v14 next21) ()))
def f91_b0 (F : Nat) (p0 : Store) (p1 : Int) (p2 : Int) : Int → (Int → Option Bool) → Option Bool := fun v14 next21 =>
  (bif decide (v14 < p0.machines) then (pget2 p0.cells (Arr2Int.mk v14 p1) (WeighCell.mk 0 false 0 0 0 false)).bind fun x34 => (bif (!x34.2) then (f91_j0 v14 next21) () else loop F (f91_b1 p0 p1 p2 v14 next21) (v14, x34.2, 0, x34.1.name, x34.1.root, x34.1.from_, x34.1.has, x34.1.out, x34.1.use)) else some true)
def f91L (F : Nat) (p0 : Store) (p1 : Int) (p2 : Int) : Option Bool :=
  loop F (f91_b0 F p0 p1 p2) 0
end Go.Proofs.Ytekpjgmhkkjhgaa
end
