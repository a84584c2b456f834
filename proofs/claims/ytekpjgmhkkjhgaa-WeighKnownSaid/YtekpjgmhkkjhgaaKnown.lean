/- WeighKnown returns true: the examples of chapter 15, run by a verified interpreter inside the kernel. No condition. -/
import Derived.Test.YtekpjgmhkkjhgaaWorks
import Derived.WalkKit
import Derived.OpenShut
namespace Go.Proofs.Ytekpjgmhkkjhgaa
open Go.ChangeShapes Go.WideShapes Go.ChangeAt Go.RowKit Go.Abs

set_option maxRecDepth 100000 in
theorem known_1 : isSeg (segRun (ev (cfg XW fun _ => false) 3000) Try.f6.ntmps 6 (bodyOf Try.f6) (anyS Try.f6.ntmps)) = true := by kernel_rfl
set_option maxRecDepth 100000 in
theorem known_2 : isSeg (segRun (ev (cfg XW fun _ => false) 3000) Try.f6.ntmps 2 (tailC 6 (bodyOf Try.f6)) (anyS Try.f6.ntmps)) = true := by kernel_rfl
set_option maxRecDepth 100000 in
theorem known_3 : isSeg (segRun (ev (cfg XW fun _ => false) 3000) Try.f6.ntmps 2 (tailC 2 (tailC 6 (bodyOf Try.f6))) (anyS Try.f6.ntmps)) = true := by kernel_rfl
set_option maxRecDepth 100000 in
theorem known_4 : isSeg (segRun (ev (cfg XW fun _ => false) 3000) Try.f6.ntmps 2 (tailC 2 (tailC 2 (tailC 6 (bodyOf Try.f6)))) (anyS Try.f6.ntmps)) = true := by kernel_rfl
set_option maxRecDepth 100000 in
theorem known_5 : isTrue (cRes (fun e s => match xPM e with
      | some pm => ev (cfg XW fun _ => false) 3000 (.leave Try.f6 0 pm s)
      | none => none) (ev (cfg XW fun _ => false) 3000 (.code (tailC 2 (tailC 2 (tailC 2 (tailC 6 (bodyOf Try.f6))))) Try.f6.ntmps 0 none (anyS Try.f6.ntmps)))) = true := by kernel_rfl
theorem known_cuts : Cuts XW Try.f6 (bodyOf Try.f6) := .seg 6 known_1 (.seg 2 known_2 (.seg 2 known_3 (.seg 2 known_4 (.last known_5))))
theorem known_true (w : World) : Calls Try.prog 6 #[] w fun e w' => e = .returned (.bool true) ∧ Below w.heap.size w w' :=
  cuts_true XW rfl Try.func6 (by kernel_rfl) known_cuts w

theorem known_own : ownKnob Try.prog.godebug = none := by kernel_rfl

set_option maxRecDepth 100000 in
theorem known_lifted (os : Os) (started : os.Started) (H : Type) (enc : TypeId × Value → H) :
    ReturnsInHanded {} Try.checked os 6 .any (Rows.weighKnownSpec.pre6 enc Try.prog Try.f6 Rows.weighKnownRow.domain false) (Rows.weighKnownSpec.post enc Try.prog Try.f6 false true false false) := by
  refine returnsInHanded_of_change (C := Try.checked) known_own started (by kernel_rfl) Try.func6
    (ChangeSpec.witness6 (enc := enc) (C := Try.checked) false ⟨#[], #[], []⟩ 8 (by kernel_rfl) (by kernel_rfl) (by kernel_rfl) (by kernel_rfl)) ?_
  intro W base args ds gs before hval0 hW hcnd _
  have hval : ∀ (j : Nat) t v, Try.f6.params[j]? = some t → args[j]? = some v → Value.okWide Try.prog W .any base t v := hval0
  have hW' := hW
  obtain ⟨p, q, hA0, hV, rfl, hfz, hnd⟩ := hW
  have hA : DataW.TrodAll enc Try.prog W 0 (fun _ => true) true Try.f6.params.toList args.toList ds p := hA0
  rw [Try.params6] at hA hval
  obtain ⟨rfl, rfl, rfl⟩ := trodAll_none hA
  obtain ⟨rfl, rfl⟩ := trodVars_none hV
  clear hA0 hval0
  simp only [List.append_nil] at hW'
  refine (known_true W).mono fun e W' ⟨he, hg⟩ => ?_
  subst he
  exact ⟨_, rfl, post_of_below (pa := []) (pv := []) hW' (fun _ _ _ => (trodAll_cons_mk (shut_bool Try.underlying4 _) trodAll_mk0)) (fun sp _ => rfl) (fun _ _ => rfl) rfl
    hg (ok_one (by kernel_rfl) rfl (okWide_bool_mk Try.underlying4 _))⟩

theorem known_over : Rows.weighKnownRow.holds Try.pinned (OpenSpec.ofChange Rows.weighKnownSpec) :=
  OpenClaim.holds_of_wide 6 Try.f6 rfl rfl rfl rfl rfl rfl rfl ⟨rfl, rfl, rfl, rfl, rfl⟩ rfl rfl rfl rfl rfl (by kernel_rfl) Try.func6 (by kernel_rfl)
    (of_decide_eq_true (by kernel_rfl)) (by unfold Func.isWrapper; first | (rw [if_pos (by decide +kernel)]; kernel_rfl) | (rw [if_neg (by decide +kernel)]; exact ⟨rfl, rfl⟩))
    (fun os started H enc _ => known_lifted os started H enc)

/-- The statement. -/
theorem known_holds : Rows.WeighKnownSaid := known_over
#print axioms known_holds
end Go.Proofs.Ytekpjgmhkkjhgaa
