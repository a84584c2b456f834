/- TermNames returns true, whatever the arguments. No condition. -/
import Derived.WalkKit
import Derived.OpenShut
import Derived.Carry
import Derived.Test.YtbnepjakjmnadaaGreatNa15
set_option linter.all false
set_option maxHeartbeats 2000000
section
noncomputable section
namespace Go.Abs
open Go.Lf
variable {P : Program}
def ReadV (P : Program) {α : Type} (e : Rdr α) (V : α → Prop) (t : TypeId) : Prop := P.cellsOf t = e.sz ∧ ∀ {E : Type} {h : H} {cs : List Value} {d : DataW E}, AR P h t cs d → ∃ p x, cs = e.sh p x ∧ V x ∧ ∀ wm, e.F wm h p x
theorem ReadV.str {t : TypeId} (hu : P.underlying t = some .string) (hc : P.cellsOf t = 1) : ReadV P rStr (fun s => s.size ≤ maxLen) t := ⟨hc, fun a => by
  cases a with
  | string hu' hs => exact ⟨(), _, rfl, hs, fun _ => trivial⟩
  | bool hu' => rw [hu] at hu'; cases hu'
  | int hu' _ => rw [hu] at hu'; cases hu'
  | nil hu' => rw [hu] at hu'; cases hu'
  | empty hu' => rw [hu] at hu'; cases hu'
  | slice hu' => rw [hu] at hu'; cases hu'
  | struct hu' => rw [hu] at hu'; cases hu'⟩
theorem allV_choose {α : Type} {e : Rdr α} {V : α → Prop} {h : H} {β : Type} : ∀ (els : List (List Value × β)), (∀ x ∈ els, ∃ p y, x.1 = e.sh p y ∧ V y ∧ ∀ wm, e.F wm h p y) →
    ∃ ys : List α, ys.length = els.length ∧ (∀ y ∈ ys, V y) ∧ ∀ (k : Nat) (y : α), ys[k]? = some y → ∃ x p, els[k]? = some x ∧ x.1 = e.sh p y ∧ ∀ wm, e.F wm h p y
  | [], _ => ⟨[], rfl, by simp, fun k y hk => by simp at hk⟩
  | x :: els, hx => by
    obtain ⟨ys, h1, hv, h2⟩ := allV_choose els (fun z hz => hx z (by simp [hz]))
    obtain ⟨p, y, h3, hvy, h4⟩ := hx x (by simp)
    refine ⟨y :: ys, by simp [h1], fun z hz => ?_, fun k z hk => ?_⟩
    · rcases List.mem_cons.1 hz with q | q
      · rw [q]; exact hvy
      · exact hv z q
    · cases k with
      | zero => simp at hk; subst hk; exact ⟨x, p, rfl, h3, h4⟩
      | succ k =>
        obtain ⟨x', p', q1, q2⟩ := h2 k z (by simpa using hk)
        exact ⟨x', p', by simpa using q1, q2⟩
theorem flatV_part {α β : Type} {f : α → List β} {sz : Nat} (l : List α) (hl : ∀ x ∈ l, (f x).length = sz) {k : Nat} {x : α} (hk : l[k]? = some x) : ((l.flatMap f).drop (k * sz)).take sz = f x := by
  have hfx : (f x).length = sz := hl x (List.mem_of_getElem? hk)
  refine List.ext_getElem? fun j => ?_
  by_cases hj : j < sz
  · rw [List.getElem?_take_of_lt hj, List.getElem?_drop, flat_get l hl k j hj, hk]; rfl
  · rw [List.getElem?_eq_none (by rw [List.length_take]; omega), List.getElem?_eq_none (by omega)]
theorem ReadV.slice {α : Type} {e : Rdr α} {V : α → Prop} {t el : TypeId} (hu : P.underlying t = some (.slice el)) (hc : P.cellsOf t = 1) (he : ReadV P e V el) : ReadV P (rSl e) (fun l => ∀ x ∈ l, V x) t := ⟨hc, fun a => by
  cases a with
  | bool hu' => rw [hu] at hu'; cases hu'
  | int hu' _ => rw [hu] at hu'; cases hu'
  | string hu' _ => rw [hu] at hu'; cases hu'
  | nil hu' => exact ⟨(none, 0), [], rfl, by simp, fun _ => Sl.nil⟩
  | empty hu' => exact ⟨(some ⟨0, 0, some 0⟩, 0), [], rfl, by simp, fun _ => ⟨by simp, by simp, .inr (.inl ⟨rfl, rfl⟩), .inl rfl⟩⟩
  | @slice t' e' els rest i cap hu' hl hcap hat hsz hel =>
    rw [hu] at hu'; cases hu'
    obtain ⟨ys, h1, hv, h2⟩ := allV_choose (e := e) els (fun x hx => he.2 (hel x hx))
    have hsz' : ∀ x ∈ els, x.1.length = e.sz := fun x hx => (hsz x hx).trans he.1
    refine ⟨(some ⟨i, 0, none⟩, 2 * cap), ys, by show [Value.slice _ _ _] = [Value.slice _ _ _]; rw [h1], hv, fun wm => ⟨?_, ?_, .inr (.inr ⟨_, _, rfl⟩), .inr ⟨i, 0, _, false, 0, rfl, hat, .inr rfl, ?_, fun k y hk => ?_⟩⟩⟩
    · rw [h1]; exact Nat.le_trans (Nat.le_trans hl hcap) (by decide)
    · rw [h1]; omega
    · rw [h1, Nat.zero_add, flat_len els hsz']; exact Nat.le_refl _
    · obtain ⟨x, p, q1, q2, q3⟩ := h2 k y hk
      refine ⟨p, ?_, q3 wm⟩
      rw [Nat.zero_add, flatV_part els hsz' q1, q2]
  | struct hu' => rw [hu] at hu'; cases hu'⟩
theorem vr_one {ρ : Ren} {a v : Value} (h : LR ρ [a] [v]) : VR ρ a v := h.2 0 a v rfl rfl
def emptyRen : Ren := ⟨fun _ => none, fun _ => (0, 0)⟩
theorem noOwn_none : NoOwn ⟨.nil, 0⟩ := fun i => by
  have : (⟨.nil, 0⟩ : H).at i = .dead := H.at_ge (Nat.zero_le _)
  rw [this]; rfl
theorem rel_none (w : World) : Rel emptyRen ⟨.nil, 0⟩ w := ⟨fun _ _ _ e => (by cases e), fun _ _ _ e => (by cases e), fun _ _ _ _ _ e => (by cases e)⟩
theorem embArgs {E : Type} {W : World} (l : List (TypeId × List Value × DataW E)) (hl : ∀ x ∈ l, EmbOK P W x.1 x.2.1 x.2.2) :
    ∃ (ρ : Ren) (h : H) (els : List (List Value × DataW E)), Rel ρ h W ∧ NoOwn h ∧ els.length = l.length ∧
      ∀ (i : Nat) (x : List Value × DataW E) (y : TypeId × List Value × DataW E), els[i]? = some x → l[i]? = some y → LR ρ x.1 y.2.1 ∧ AR P h y.1 x.1 x.2 := by
  obtain ⟨ρ, h, els, q1, q2, q3, q4, q5, q6, q7⟩ := embList l hl emptyRen ⟨.nil, 0⟩ (rel_none W) noOwn_none
  exact ⟨ρ, h, els, q3, q4, q6, q7⟩
end Go.Abs
end
end
section
set_option linter.unusedVariables false
set_option maxRecDepth 100000
namespace Go.Proofs.YtbnepjakjmnadaaGreat
open Go.ChangeShapes Go.WideShapes Go.ChangeAt Go.RowKit Go.Abs Go.Lf
theorem rv9 : ReadV XX.P rStr (fun s => s.size ≤ maxLen) 9 := .str Tryz.underlying9 (by kernel_rfl)
theorem rv22 : ReadV XX.P (rSl rStr) (fun l => ∀ x ∈ l, (fun s => s.size ≤ maxLen) x) 22 := .slice Tryz.underlying22 (by kernel_rfl) rv9
theorem law_calls (H : Type) (enc : TypeId × Value → H) (W : World) {v0 v1 : Value} {d0 d1 : DataW H} {p0 p1 : List MemPlace}
    (hv0 : ∃ s, v0 = .string s)
    (h0 : DataW.Trod enc Tryz.prog W 0 (fun _ => true) true 9 v0 d0 p0)
    (hv1 : ∃ a len cap, v1 = .slice a len cap)
    (h1 : DataW.Trod enc Tryz.prog W 0 (fun _ => true) true 22 v1 d1 p1) :
    Calls Tryz.prog 3 #[v0, v1] W fun e W' => e = .returned (.bool true) ∧ Below W.heap.size W W' := by
  obtain ⟨g0, h0⟩ := h0
  obtain ⟨c0, rfl⟩ := hv0
  obtain ⟨g1, h1⟩ := h1
  obtain ⟨c1, l1, k1, rfl⟩ := hv1
  obtain ⟨ρ, hp, els, r1, r2, r3, r4⟩ := embArgs (P := Tryz.prog) (W := W) [(9, [Value.string c0], d0), (22, [Value.slice c1 l1 k1], d1)] (fun x hx => by
    simp only [List.mem_cons, List.not_mem_nil, or_false] at hx
    rcases hx with rfl | rfl
    · exact emb g0 9 _ d0 p0 9 (by kernel_rfl) h0
    · exact emb g1 22 _ d1 p1 9 (by kernel_rfl) h1)
  match els, r3, r4 with
  | [e0, e1], _, r4 =>
    obtain ⟨q0, a0⟩ := r4 0 e0 _ rfl rfl
    obtain ⟨m0, x0, z0, w0, F0⟩ := rv9.2 a0
    rw [z0] at q0
    obtain ⟨q1, a1⟩ := r4 1 e1 _ rfl rfl
    obtain ⟨m1, x1, z1, w1, F1⟩ := rv22.2 a1
    rw [z1] at q1
    have hj : JobOK XX _ _ := f3_ok (F := 1000000) (r := true) (F1 hp.size) (TermNames_law _ (by decide) x0 x1) hp.size
    have hc := callsIn_wide.1 (hj ρ #[.string c0, .slice c1 l1 k1] W (Nat.le_refl _) r1 ⟨rfl, fun i v v' e1 e2 => by
      match i with
      | 0 =>
        simp at e1 e2
        subst e1 e2
        exact vr_one q0
      | 1 =>
        simp at e1 e2
        subst e1 e2
        exact vr_one q1
      | i + 2 => simp at e1⟩)
    refine hc.mono fun e w' ⟨ρ', he, _, st⟩ => ⟨?_, st.below fun i b d _ _ ho => by rw [r2 i] at ho; cases ho⟩
    cases he with
    | ret hv => cases hv; rfl
theorem law_laid : laidOutB Tryz.prog = true := by kernel_rfl
theorem law_own : ownKnob Tryz.prog.godebug = none := by kernel_rfl
theorem law_lifted (os : Os) (started : os.Started) (H : Type) (enc : TypeId × Value → H) :
    ReturnsInHanded {} Tryz.checked os 3 .any (Rows.termNamesSpec.pre6 enc Tryz.prog Tryz.f3 Rows.termNamesRow.domain false) (Rows.termNamesSpec.post enc Tryz.prog Tryz.f3 false true false false) := by
  refine returnsInHanded_of_change (C := Tryz.checked) law_own started (by kernel_rfl) Tryz.func3
    (ChangeSpec.witness6 (enc := enc) (C := Tryz.checked) false ⟨#[], #[.string ⟨#[]⟩, .slice none 0 0], []⟩ 8 (by kernel_rfl) (by kernel_rfl) (by kernel_rfl) (by kernel_rfl)) ?_
  intro W base args ds gs before hval0 hW hcnd _
  have hval : ∀ (j : Nat) t v, Tryz.f3.params[j]? = some t → args[j]? = some v → Value.okWide Tryz.prog W .any base t v := hval0
  have hW' := hW
  obtain ⟨p, q, hA0, hV, rfl, hfz, hnd⟩ := hW
  have hA : DataW.TrodAll enc Tryz.prog W 0 (fun _ => true) true Tryz.f3.params.toList args.toList ds p := hA0
  rw [Tryz.params3] at hA hval
  obtain ⟨v0, v1, d0, d1, p0, p1, rfl, rfl, rfl, h0, h1⟩ := trodAll_two hA
  obtain ⟨rfl, rfl⟩ := trodVars_none hV
  clear hA0 hval0
  simp only [List.append_nil] at hW'
  have k0 := hval 0 9 v0 rfl rfl
  have o0 : ∃ s, v0 = .string s := by obtain ⟨n, hn⟩ := okWide_string Tryz.underlying9 k0; exact ⟨n, by first | exact hn.1 | exact hn⟩
  have k1 := hval 1 22 v1 rfl rfl
  have o1 : ∃ a len cap, v1 = .slice a len cap := okWide_slice Tryz.underlying22 k1
  have hlt : ∀ x ∈ p0 ++ p1, x.block < W.heap.size := fun x hx => hW'.lt x hx
  refine (law_calls H enc W o0 h0 o1 h1).mono fun e W' ⟨he, hg⟩ => ?_
  subst he
  exact ⟨_, rfl, post_of_below (pa := p0 ++ p1) (pv := []) hW' (fun _ _ _ => (trodAll_cons_mk (shut_bool Tryz.underlying4 _) trodAll_mk0))
    (fun sp hsp => trodAll_mk2 (WideElems.Trod_stays law_laid (by kernel_rfl) (of_decide_eq_true (by kernel_rfl)) h0 (fun x hx => hg.same (hlt x (List.mem_append_left _ hx))) (fun x hx => hsp x (List.mem_append_left _ hx)))
      (WideElems.Trod_stays law_laid (by kernel_rfl) (of_decide_eq_true (by kernel_rfl)) h1 (fun x hx => hg.same (hlt x (List.mem_append_right _ hx))) (fun x hx => hsp x (List.mem_append_right _ hx)))) (fun _ _ => rfl) (by simp)
    hg (ok_one (by kernel_rfl) rfl (okWide_bool_mk Tryz.underlying4 _))⟩
theorem law_over : Rows.termNamesRow.holds Tryz.pinned (OpenSpec.ofChange Rows.termNamesSpec) :=
  OpenClaim.holds_of_wide 3 Tryz.f3 rfl rfl rfl rfl rfl rfl rfl ⟨rfl, rfl, rfl, rfl, rfl⟩ rfl rfl rfl rfl rfl (by kernel_rfl) Tryz.func3 (by kernel_rfl)
    (of_decide_eq_true (by kernel_rfl)) (by unfold Func.isWrapper; first | (rw [if_pos (by decide +kernel)]; kernel_rfl) | (rw [if_neg (by decide +kernel)]; exact ⟨rfl, rfl⟩))
    (fun os started H enc _ => law_lifted os started H enc)
theorem law_holds : Rows.TermNamesSaid := law_over
#print axioms law_holds
end Go.Proofs.YtbnepjakjmnadaaGreat
end
