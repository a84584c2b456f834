/- WeighSums returns true, whatever the world and the name. No condition. -/
import Derived.WalkKit
import Derived.OpenShut
import Derived.Carry
import Derived.Test.YtekpjgmhkkjhgaaSa12
section
namespace Go.Proofs.Ytekpjgmhkkjhgaa
open Go.ChangeShapes Go.WideShapes Go.ChangeAt Go.RowKit Go.Abs Go.Lf
theorem noOwn_nil : NoOwn ⟨.nil, 0⟩ := fun i => by
  have : (⟨.nil, 0⟩ : H).at i = .dead := H.at_ge (Nat.zero_le _)
  rw [this]; rfl
theorem rel_noRen (w : World) : Rel noRen ⟨.nil, 0⟩ w := ⟨fun _ _ _ e => (by cases e), fun _ _ _ e => (by cases e), fun _ _ _ _ _ e => (by cases e)⟩
set_option maxRecDepth 100000 in
theorem sums_calls (H : Type) (enc : TypeId × Value → H) (W : World) {v0 v1 : Value} {d0 d1 : DataW H} {p0 p1 : List MemPlace}
    (hv : ∃ cs, v0 = .agg cs) (hi : ∃ n, v1 = .int .i64 n)
    (h0 : DataW.Trod enc Try.prog W 0 (fun _ => true) true 26 v0 d0 p0) (h1 : DataW.Trod enc Try.prog W 0 (fun _ => true) true 3 v1 d1 p1) :
    Calls Try.prog 5 #[v0, v1] W fun e W' => e = .returned (.bool true) ∧ Below W.heap.size W W' := by
  obtain ⟨f0, h0⟩ := h0
  obtain ⟨cs, rfl⟩ := hv
  obtain ⟨n, rfl⟩ := hi
  obtain ⟨ρ1, g1, a1, r1, r2, r3, r4, r5, r6⟩ := emb f0 26 _ d0 p0 9 (by kernel_rfl) h0 noRen ⟨.nil, 0⟩ (rel_noRen W) noOwn_nil
  obtain ⟨⟨⟨sa, sc⟩, ⟨sa', sc'⟩, sa'', sc''⟩, w, rfl, hF⟩ := read26.2 r6
  obtain ⟨s1, s2, s3⟩ := hF g1.size
  have hj : JobOK XX _ _ := f5_ok (F := 1000) (r := true) s1 s2 s3 (WeighSums_law w n) g1.size
  have hc := callsIn_wide.1 (hj ρ1 #[.agg cs, .int .i64 n] W (Nat.le_refl _) r3 ⟨rfl, fun i v v' e1 e2 => by
    match i with
    | 0 =>
      simp at e1 e2
      subst e1 e2
      have := VR.of_LR_agg r5
      rw [Array.toArray_toList] at this
      exact this
    | 1 =>
      simp at e1 e2
      subst e1 e2
      exact .int _ _
    | i + 2 => simp at e1⟩)
  refine hc.mono fun e w' ⟨ρ', he, _, st⟩ => ⟨?_, st.below fun i b d _ _ ho => by rw [r4 i] at ho; cases ho⟩
  cases he with
  | ret hv => cases hv; rfl
theorem sums_laid : laidOutB Try.prog = true := by kernel_rfl
theorem sums_own : ownKnob Try.prog.godebug = none := by kernel_rfl
set_option maxRecDepth 100000 in
theorem sums_lifted (os : Os) (started : os.Started) (H : Type) (enc : TypeId × Value → H) :
    ReturnsInHanded {} Try.checked os 5 .any (Rows.weighSumsSpec.pre6 enc Try.prog Try.f5 Rows.weighSumsRow.domain false) (Rows.weighSumsSpec.post enc Try.prog Try.f5 false true false false) := by
  refine returnsInHanded_of_change (C := Try.checked) sums_own started (by kernel_rfl) Try.func5
    (ChangeSpec.witness6 (enc := enc) (C := Try.checked) false ⟨#[], #[.agg #[.slice none 0 0, .slice none 0 0, .int .i64 0, .slice none 0 0], .int .i64 0], []⟩ 8 (by kernel_rfl) (by kernel_rfl) (by kernel_rfl) (by kernel_rfl)) ?_
  intro W base args ds gs before hval0 hW hcnd _
  have hval : ∀ (j : Nat) t v, Try.f5.params[j]? = some t → args[j]? = some v → Value.okWide Try.prog W .any base t v := hval0
  have hW' := hW
  obtain ⟨p, q, hA0, hV, rfl, hfz, hnd⟩ := hW
  have hA : DataW.TrodAll enc Try.prog W 0 (fun _ => true) true Try.f5.params.toList args.toList ds p := hA0
  rw [Try.params5] at hA hval
  obtain ⟨v0, v1, d0, d1, p0, p1, rfl, rfl, rfl, t0, t1⟩ := trodAll_two hA
  obtain ⟨rfl, rfl⟩ := trodVars_none hV
  clear hA0 hval0
  simp only [List.append_nil] at hW'
  have k0 := hval 0 26 v0 rfl rfl
  have k1 := hval 1 3 v1 rfl rfl
  obtain ⟨cs, hcs, _⟩ := okWide_struct Try.underlying26 k0
  have hint : ∃ n, v1 = .int .i64 n := by
    obtain ⟨n, hn⟩ := okWide_int Try.underlying3 k1
    exact ⟨n, by first | exact hn.1 | exact hn⟩
  have hlt : ∀ x ∈ p0 ++ p1, x.block < W.heap.size := fun x hx => hW'.lt x hx
  refine (sums_calls H enc W ⟨cs, hcs⟩ hint t0 t1).mono fun e W' ⟨he, hg⟩ => ?_
  subst he
  exact ⟨_, rfl, post_of_below (pa := p0 ++ p1) (pv := []) hW' (fun _ _ _ => (trodAll_cons_mk (shut_bool Try.underlying4 _) trodAll_mk0))
    (fun sp hsp => trodAll_mk2 (WideElems.Trod_stays sums_laid (by kernel_rfl) (of_decide_eq_true (by kernel_rfl)) t0 (fun x hx => hg.same (hlt x (List.mem_append_left _ hx))) (fun x hx => hsp x (List.mem_append_left _ hx)))
      (WideElems.Trod_stays sums_laid (by kernel_rfl) (of_decide_eq_true (by kernel_rfl)) t1 (fun x hx => hg.same (hlt x (List.mem_append_right _ hx))) (fun x hx => hsp x (List.mem_append_right _ hx)))) (fun _ _ => rfl) (by simp)
    hg (ok_one (by kernel_rfl) rfl (okWide_bool_mk Try.underlying4 _))⟩
theorem sums_over : Rows.weighSumsRow.holds Try.pinned (OpenSpec.ofChange Rows.weighSumsSpec) :=
  OpenClaim.holds_of_wide 5 Try.f5 rfl rfl rfl rfl rfl rfl rfl ⟨rfl, rfl, rfl, rfl, rfl⟩ rfl rfl rfl rfl rfl (by kernel_rfl) Try.func5 (by kernel_rfl)
    (of_decide_eq_true (by kernel_rfl)) (by unfold Func.isWrapper; first | (rw [if_pos (by decide +kernel)]; kernel_rfl) | (rw [if_neg (by decide +kernel)]; exact ⟨rfl, rfl⟩))
    (fun os started H enc _ => sums_lifted os started H enc)
theorem sums_holds : Rows.WeighSumsSaid := sums_over
#print axioms sums_holds
end Go.Proofs.Ytekpjgmhkkjhgaa
end
