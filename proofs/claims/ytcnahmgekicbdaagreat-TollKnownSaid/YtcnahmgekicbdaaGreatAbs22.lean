/- The abstract interpreter, 22: regions that draw their order, run in the text's order, with the checks that make it stand for all. -/
import Derived.Test.YtcnahmgekicbdaaGreatAbs21
noncomputable section
namespace Go.Abs
namespace Data
variable {P : Program} {nn wm : Nat} {rd : Option Nat} {ops : Array Oper} {D : Data P nn wm rd ops}

def SL (listed : Array Bool) (k : Nat) : Prop := listed.getD k false = true

theorem unlisted {listed : Array Bool} (hs : listed.size = ops.size) {k : Nat} (hk : k < ops.size) : listed.getD k true = false ↔ ¬ SL listed k := by
  unfold SL
  simp [Array.getD_eq_getD_getElem?, show k < listed.size by omega]

theorem J.any {ds : List Deferred} {ρ0 : Ren} {w0 : World} {F : Fence} (hF : FR' ρ0 rd F) {Q : Exit → Act → World → Prop}
    (hQ : ∀ (S : Nat → Prop) ρ a w, (∀ k, k < ops.size → S k) → D.J S ds ρ0 w0 ρ a w → Q .normal a w) :
    ∀ (fuel : Nat) (listed : Array Bool), listed.size = ops.size → ((List.range ops.size).filter (fun k => !listed.getD k true)).length ≤ fuel → Closed ops (SL listed) →
      ∀ ρ a w, D.J (SL listed) ds ρ0 w0 ρ a w → wpAnyIn F 0 P .any ops Q fuel listed a w := by
  -- nothing is next: all has been done
  have done : ∀ (listed : Array Bool), listed.size = ops.size → Region.ready .any ops listed = [] → ∀ k, k < ops.size → SL listed k := by
    intro listed hsz hr k
    induction k using Nat.strongRecOn with
    | ind k ih =>
      intro hk
      apply Classical.byContradiction
      intro hno
      obtain ⟨o, ho⟩ := get hk
      have : k ∈ Region.ready .any ops listed := mem_ready.2 ⟨(unlisted hsz hk).2 hno, o, ho, fun e he hb => by
        have hlt := D.edges k o e ho he hb
        exact ih e.on hlt (by omega)⟩
      rw [hr] at this
      cases this
  intro fuel
  induction fuel with
  | zero =>
    intro listed hsz hn hc ρ a w j
    have hnil : Region.ready .any ops listed = [] := by
      rw [List.eq_nil_iff_forall_not_mem]
      intro k hk
      obtain ⟨h1, o, ho, _⟩ := mem_ready.1 hk
      have hlt : k < ops.size := (Array.getElem?_eq_some_iff.1 ho).1
      have hmem : k ∈ (List.range ops.size).filter (fun k => !listed.getD k true) := by
        rw [List.mem_filter]
        exact ⟨List.mem_range.2 hlt, by rw [h1]; rfl⟩
      have := List.length_pos_of_mem hmem
      omega
    exact ⟨hnil, hQ _ ρ a w (done listed hsz hnil) j⟩
  | succ fuel ih =>
    intro listed hsz hn hc ρ a w j
    refine ⟨fun hnil => hQ _ ρ a w (done listed hsz hnil) j, fun i hi => ?_⟩
    obtain ⟨h1, o, ho, hr⟩ := mem_ready.1 hi
    have him : i < ops.size := (Array.getElem?_eq_some_iff.1 ho).1
    unfold wpOpIn
    rw [ho]
    have hS : ∀ k, SL (listed.setIfInBounds i true) k ↔ SL listed k ∨ k = i := by
      intro k
      unfold SL
      by_cases hk : k = i
      · subst hk
        simp [Array.getD_eq_getD_getElem?, show k < listed.size by omega]
      · rw [getD_set_ne false (Ne.symm hk)]
        simp [hk]
    have hc' : Closed ops (SL (listed.setIfInBounds i true)) := by
      intro j' o' e hj ho' he hb
      rcases (hS j').1 hj with h | h
      · exact (hS _).2 (.inl (hc j' o' e h ho' he hb))
      · subst h
        rw [ho] at ho'
        cases ho'
        exact (hS _).2 (.inl (hr e he hb))
    refine j.next hc ho ((unlisted hsz him).1 h1) hr hF hS fun ρ' a' w' j' => ih _ (by simpa using hsz) ?_ hc' ρ' a' w' j'
    have heq : (List.range ops.size).filter (fun k => !(listed.setIfInBounds i true).getD k true) = ((List.range ops.size).filter (fun k => !listed.getD k true)).filter (fun k => k ≠ i) := by
      rw [List.filter_filter]
      apply List.filter_congr
      intro k hk
      rw [List.mem_range] at hk
      by_cases hki : k = i
      · subst hki
        simp [Array.getD_eq_getD_getElem?, show k < listed.size by omega]
      · rw [getD_set_ne true (Ne.symm hki)]
        simp [hki]
    rw [heq]
    have hmem : i ∈ (List.range ops.size).filter (fun k => !listed.getD k true) := by
      rw [List.mem_filter]
      exact ⟨List.mem_range.2 him, by rw [h1]; rfl⟩
    have : (((List.range ops.size).filter (fun k => !listed.getD k true)).filter (fun k => k ≠ i)).length < ((List.range ops.size).filter (fun k => !listed.getD k true)).length :=
      List.length_filter_lt_length_iff_exists.2 ⟨i, hmem, by simp⟩
    omega

theorem keepwm (D : Data P nn wm rd ops) {x : Nat} (hx : x < wm) : ∀ k, k ≤ ops.size → (D.hs k).at x = (D.hs 0).at x := by
  intro k
  induction k with
  | zero => intro _; rfl
  | succ k ih =>
    intro hk
    rw [D.keep (by omega) ?_]
    · exact ih (by omega)
    · rintro (h | h)
      · have := D.wmM k x (by omega) h.1; omega
      · have h1 := D.n_mono 0 k (by omega) (by omega)
        have h2 := D.size0
        have h3 : D.n 0 = (D.hs 0).size := rfl
        omega

theorem J.start {ds : List Deferred} {ρ : Ren} {a : Act} {w : World} (hi : Inv ρ nn { fr := D.fs 0, ds := ds, h := D.hs 0 } a w) : D.J (SL (Array.replicate ops.size false)) ds ρ w ρ a w := by
  have hno : ∀ k, ¬ SL (Array.replicate ops.size false) k := by
    intro k
    unfold SL
    rw [Array.getD_eq_getD_getElem?, Array.getElem?_replicate]
    split <;> simp
  have e1 : ∀ x, D.hv (SL (Array.replicate ops.size false)) x = (D.hs 0).at x := fun x => last_none _ _ _ _ fun k _ _ => hno k
  have e2 : ∀ x, D.cv (SL (Array.replicate ops.size false)) x = D.n 0 := fun x => last_none _ _ _ _ fun k _ _ => hno k
  have e3 : ∀ x, D.tv (SL (Array.replicate ops.size false)) x = (D.fs 0).at x := fun x => last_none _ _ _ _ fun k _ _ => hno k
  have e4 : ∀ x, D.tt (SL (Array.replicate ops.size false)) x = D.n 0 := fun x => last_none _ _ _ _ fun k _ _ => hno k
  have hlt : ∀ x p, ρ x = some p → x < D.n 0 := hi.rel.lt
  have hle := Ren.le_cut hlt
  refine { dom := ?_, obj := ?_, tsz := hi.fr.size, tmp := ?_, ds := hi.ds.mono hle, inj := ?_, ext := Ren.le_refl _, dom0 := hlt, os := rfl, tape := rfl, output := rfl, wsize := Nat.le_refl _, frame := fun _ _ _ => rfl, newb := ?_ }
  · intro x b d e; exact ⟨(hi.rel.dom x b d e).2, .inl (hlt _ _ e)⟩
  · intro x b d e; rw [e1, e2]; exact (hi.rel.obj x b d e).mono hle
  · intro t; rw [e3, e4]; intro hany; exact (hi.fr.val t hany).mono hle
  · intro x y b d d' e e' h1 h2; rw [e1] at h1 h2; exact hi.rel.inj x y b d d' e e' h1 h2
  · intro i b d e e'; rw [e] at e'; cases e'

theorem J.finish {S : Nat → Prop} (hS : ∀ k, k < ops.size → S k) {ds : List Deferred} {ρ0 ρ : Ren} {w0 w : World} {a : Act} (j : D.J S ds ρ0 w0 ρ a w) :
    PostC wm nn ρ0 (D.hs 0) w0 .normal { fr := D.fs ops.size, ds := ds, h := D.hs ops.size } .normal a w := by
  have key : ∀ (tc : Nat → Prop) k, k < ops.size → tc k → (S k ↔ k < ops.size) := fun tc k hk _ => ⟨fun _ => hk, fun _ => hS k hk⟩
  have e1 : ∀ x, D.hv S x = (D.hs ops.size).at x := fun x => by
    unfold hv
    exact last_text _ _ _ _ (fun k => (D.hs k).at x) rfl (fun k _ _ => rfl) (fun k hk ht => D.keep hk ht) (Nat.le_refl _) (key _)
  have e3 : ∀ t, D.tv S t = (D.fs ops.size).at t := fun t => by
    have hfs : ∀ k, k < ops.size → (D.fs (k + 1)).at t = if dstOf (ops := ops) k = some t then D.vs k else (D.fs k).at t := by
      intro k hk
      obtain ⟨o', ho'⟩ := get hk
      obtain ⟨h1, _, _, _, e⟩ := D.step k o' ho'
      rw [e, setd_at]
      unfold dstOf
      rw [ho']
      rfl
    unfold tv
    exact last_text _ _ _ _ (fun k => (D.fs k).at t) rfl (fun k hk hd => by rw [hfs k hk, if_pos hd]) (fun k hk hd => by rw [hfs k hk, if_neg hd]) (Nat.le_refl _) (key _)
  refine ⟨ρ, .normal, ⟨⟨?_, ?_, ?_⟩, ⟨j.tsz, ?_⟩, j.ds.mono Ren.cut_self⟩, ⟨j.ext, D.n_mono 0 _ (by omega) (by omega), fun i hi => D.keepwm hi _ (by omega), fun i hi h => D.own0 hi _ (by omega) h, fun i hi h => D.live0 hi _ (by omega) h,
    j.os, j.tape, j.output, j.wsize, j.frame, j.newb⟩⟩
  · intro x b d e
    obtain ⟨q1, q2⟩ := j.dom x b d e
    refine ⟨?_, q1⟩
    rcases q2 with z | ⟨k, z1, z2, z3, z4⟩
    · exact Nat.lt_of_lt_of_le z (D.n_mono 0 _ (by omega) (by omega))
    · exact Nat.lt_of_lt_of_le z4 (D.n_mono (k + 1) _ (by omega) (by omega))
  · intro x b d e
    have := (j.obj x b d e).mono Ren.cut_self
    rwa [e1] at this
  · intro x y b d d' e e' h1 h2
    exact j.inj x y b d d' e e' (by rw [e1]; exact h1) (by rw [e1]; exact h2)
  · intro t
    intro hany
    have := (j.tmp t (by rw [e3]; exact hany)).mono Ren.cut_self
    rwa [e3] at this

theorem region (D : Data P nn wm rd ops) (hm : P.follows .mixedOrders = true) {ds : List Deferred} {ρ : Ren} {a : Act} {w : World} {F : Fence} (hi : Inv ρ nn { fr := D.fs 0, ds := ds, h := D.hs 0 } a w) (hF : FR' ρ rd F) (id : Nat) :
    (Code.region id ops true).wpIn F 0 P (PostC wm nn ρ (D.hs 0) w .normal { fr := D.fs ops.size, ds := ds, h := D.hs ops.size }) a w := by
  refine wpIn_region_any hm ?_
  have hi' : Inv ρ nn { fr := D.fs 0, ds := ds, h := D.hs 0 } a { w with drawn := w.drawn + 1 } := ⟨⟨hi.rel.dom, fun i b d e => (hi.rel.obj i b d e).world rfl, hi.rel.inj⟩, hi.fr, hi.ds⟩
  refine J.any (D := D) (ds := ds) (ρ0 := ρ) (w0 := { w with drawn := w.drawn + 1 }) hF (fun S ρ' a' w' hS j => ?_) ops.size _ (by simp) (Nat.le_trans (List.length_filter_le _ _) (by simp)) ?_ ρ a _ (J.start hi')
  · obtain ⟨ρ2, q1, q2, q3⟩ := j.finish hS
    exact ⟨ρ2, q1, q2, ⟨q3.ext, q3.size, q3.keep, q3.own, q3.live, q3.os, q3.tape, q3.output, q3.wsize, q3.frame, q3.newb⟩⟩
  · intro k o e hk
    exfalso
    unfold SL at hk
    rw [Array.getD_eq_getD_getElem?, Array.getElem?_replicate] at hk
    split at hk <;> simp at hk
end Data
end Go.Abs
