/- Firsts Part 11 of the proof. -/
import Derived.Test.YtbmbbcaaimehkaaGreatFa10
set_option linter.all false
set_option maxHeartbeats 2000000
section
noncomputable section
namespace Go.Proofs.YtbmbbcaaimehkaaGreat
open Go.Abs Go.Lf
theorem f14_ok {h : H} {r : Bool} (hL : f14L = some r) : Pure XX 14 #[] h (.bool r) := by
  cases hL
  intro wm
  have e : ev (cfg XW fun _ => false) 1 (.call 14 #[] wm h) = some (.fin (.ret (.bool true)) h) := rfl
  exact run_sound (X := XW) mixed 1 _ _ e
end Go.Proofs.YtbmbbcaaimehkaaGreat
end
end
section
set_option linter.unusedVariables false
set_option linter.unusedSimpArgs false
namespace Go.Proofs.YtbmbbcaaimehkaaGreat
open Go.Lf
def f3L (F : Nat) (p0 : Int) (p1 : (List Int)) : Option Bool :=
  (bif decide ((p1.length : Int) > 30) then (f14L).bind fun x1 => some x1 else (f15L F p0 p1).bind fun x2 => (f16L F p0 p1).bind fun x23 => (bif (!x23.2) then (gd (x2.2 == 2) (f17L F x2.1) default).bind fun x44 => (gd ((x2.2 == 2) && x44) (f14L) default).bind fun x45 => some (((x2.2 == 2) && x44) && x45) else (gd (x2.2 == 0) (f18L F x2.1 x23.1) default).bind fun x46 => (gd ((x2.2 == 0) && x46) (f14L) default).bind fun x47 => some (((x2.2 == 0) && x46) && x47)))
end Go.Proofs.YtbmbbcaaimehkaaGreat
end
section
set_option linter.unusedVariables false
set_option linter.unusedSimpArgs false
set_option maxRecDepth 20000
noncomputable section
namespace Go.Proofs.YtbmbbcaaimehkaaGreat
open Go.Abs Go.Lf
theorem f3_wf {F : Nat} {wm : Nat} {h : H} {p0 : Int} {p1 : (List Int)} {pa1_0 : Option Addr} {pc1_0 : Nat} {r : Bool} (hwm : wm ≤ h.size) (hsp1_0 : Sl (rInt .i64) wm h pa1_0 pc1_0 p1) (hL : f3L F p0 p1 = some r) :
    WR XX 3 #[.int .i64 p0, .slice pa1_0 p1.length pc1_0] wm h (CP (fun (v : Value) (Gb : List (Ast wm)) => v = .bool r ∧ Gb = []) [] h) := by
 refine bg Tryz.ntmps3 hwm Hold.nil ?_
 intro T hT hS
 unfold f3L at hL
 refine r12 ?_
 refine r1 ?_
 refine cn hL ?_ ?_
 · intro hc hL
   refine r2 ?_
   obtain ⟨x1, hx1, hL⟩ := bind_some hL
   refine WO.cp gN rfl (Ent.fn has14 evs_nil) (f14_ok hx1) ?_
   refine r4 ?_
   refine r1 ?_
   exact rt hL hT hS
 · intro hc hL
   refine r6 ?_
   obtain ⟨x2, hx2, hL⟩ := bind_some hL
   refine WO.cl gN rfl (Ent.fn has15 (evs_cons lk (evs_cons lk evs_nil))) hS .n (fun g' hz hf hO => f15_wf (by rw [hz]; exact hS.hw) ((hS.sl hsp1_0).mono hf) hx2) ?_
   rintro _ h18 _ ⟨a3, n4, c5, a6, n7, c8, psa6, a9, n10, c11, psa9, a12, n13, c14, psa12, a15, n16, c17, rfl, rfl⟩ hS
   obtain rfl := hS.on k0
   obtain rfl := hS.nlen k1
   obtain rfl := hS.nlen k2
   obtain rfl := hS.nlen k3
   obtain rfl := hS.on k4
   refine r4 ?_
   rintro _ h21 ⟨b20, eb20, rfl, hS⟩
   refine r1 ?_
   rintro h22 hS
   refine r6 ?_
   refine r1 ?_
   obtain ⟨x23, hx23, hL⟩ := bind_some hL
   refine WO.cl gN rfl (Ent.fn has16 (evs_cons lk (evs_cons lk evs_nil))) hS .n (fun g' hz hf hO => f16_wf (by rw [hz]; exact hS.hw) ((hS.sl hsp1_0).mono hf) hx23) ?_
   rintro _ h39 _ ⟨a24, n25, c26, a27, n28, c29, psa27, a30, n31, c32, psa30, a33, n34, c35, psa33, a36, n37, c38, rfl, rfl⟩ hS
   obtain rfl := hS.on k0
   obtain rfl := hS.nlen k1
   obtain rfl := hS.nlen k2
   obtain rfl := hS.nlen k3
   obtain rfl := hS.on k4
   refine r4 ?_
   rintro _ h42 ⟨b41, eb41, rfl, hS⟩
   refine r1 ?_
   rintro h43 hS
   refine r8 ?_
   refine r2 ?_
   refine cn hL ?_ ?_
   · intro hc hL
     refine r6 ?_
     obtain ⟨x44, hx44, hL⟩ := gd_some hL
     refine WO.gcp (GuardIs.yes rfl rfl rfl (fskip rfl fh)) rfl (fun hg => (Ent.fn has17 (evs_cons (evG fh rfl hg) evs_nil))) (fun hg => f17_ok (hS.ord k7) (hS.nrd k8 neSl_r) (hS.nrd k9 neSl_r) (hS.nrd k10 neSl_r) (hS.ord k11) (hx44 hg)) ?_
     refine r2 ?_
     obtain ⟨x45, hx45, hL⟩ := gd_some hL
     refine WO.gcp (GuardIs.yes rfl rfl rfl fh) rfl (fun hg => (Ent.fn has14 evs_nil)) (fun hg => f14_ok (hx45 hg)) ?_
     refine r6 ?_
     exact rt hL hT hS
   · intro hc hL
     refine r8 ?_
     refine r1 ?_
     obtain ⟨x46, hx46, hL⟩ := gd_some hL
     refine WO.gcp (GuardIs.yes rfl rfl rfl (fs2 rfl fh)) rfl (fun hg => (Ent.fn has18 (evs_cons (evG (fskip rfl fh) rfl hg) (evs_cons (evG fh rfl hg) evs_nil)))) (fun hg => f18_ok (hS.ord k7) (hS.nrd k8 neSl_r) (hS.nrd k9 neSl_r) (hS.nrd k10 neSl_r) (hS.ord k11) (hS.ord k1) (hS.nrd k2 neSl_r) (hS.nrd k3 neSl_r) (hS.nrd k4 neSl_r) (hS.ord k5) (hx46 hg)) ?_
     refine r2 ?_
     obtain ⟨x47, hx47, hL⟩ := gd_some hL
     refine WO.gcp (GuardIs.yes rfl rfl rfl fh) rfl (fun hg => (Ent.fn has14 evs_nil)) (fun hg => f14_ok (hx47 hg)) ?_
     refine r4 ?_
     refine r1 ?_
     exact rt hL hT hS
theorem f3_ok {F : Nat} {h : H} {p0 : Int} {p1 : (List Int)} {pa1_0 : Option Addr} {pc1_0 : Nat} {r : Bool} (hsp1_0 : Sl (rInt .i64) h.size h pa1_0 pc1_0 p1) (hL : f3L F p0 p1 = some r) : Pure XX 3 #[.int .i64 p0, .slice pa1_0 p1.length pc1_0] h (.bool r) :=
 WR.pureC rfl (f3_wf (Nat.le_refl _) hsp1_0 hL)
end Go.Proofs.YtbmbbcaaimehkaaGreat
end
end
section
set_option linter.unusedVariables false
set_option linter.unusedSimpArgs false
namespace Go.Proofs.YtbmbbcaaimehkaaGreat
open Go.Lf
end Go.Proofs.YtbmbbcaaimehkaaGreat
end
section
set_option linter.unusedVariables false
set_option linter.unusedSimpArgs false
namespace Go.Proofs.YtbmbbcaaimehkaaGreat
open Go.Lf
end Go.Proofs.YtbmbbcaaimehkaaGreat
end
section
set_option linter.unusedVariables false
set_option linter.unusedSimpArgs false
namespace Go.Proofs.YtbmbbcaaimehkaaGreat
open Go.Lf
end Go.Proofs.YtbmbbcaaimehkaaGreat
end
section
set_option linter.unusedVariables false
set_option linter.unusedSimpArgs false
namespace Go.Proofs.YtbmbbcaaimehkaaGreat
open Go.Lf
end Go.Proofs.YtbmbbcaaimehkaaGreat
end
section

end
section
namespace Go.Lf
theorem w64_succ {k : Nat} (h : k < 4611686018427387904) : w64 ((k : Int) + 1) = ((k + 1 : Nat) : Int) := by
  rw [w64_id (by omega) (by omega)]; rfl
theorem app_ok {α : Type} {by_ : Nat} {xs ys : List α} (h : xs.length + ys.length ≤ 1000000) (hb : by_ ≤ 1000) : app by_ xs ys = some (xs ++ ys) :=
  app_eq (Nat.le_trans (Nat.mul_le_mul (show 2 * (xs.length + ys.length) + 1000 ≤ 2001000 by omega) hb) (by decide))
def iter {α β σ : Type} (g : Nat → α → σ → (σ → Option β) → Option β) (d : σ → Option β) : Nat → List α → σ → Option β
  | _, [], s => d s
  | i, x :: l, s => g i x s (fun s' => iter g d (i + 1) l s')
end Go.Lf
end
section
set_option linter.unusedVariables false
set_option linter.unusedSimpArgs false
namespace Go.Proofs.YtbmbbcaaimehkaaGreat
open Go.Lf
section
variable {β γ : Type}
theorem loop_traj {body : γ → (γ → Option β) → Option β} {r : Option β} (S : Nat → γ) {n F : Nat} (hF : n < F) (hb : ∀ k, k < n → ∀ next, body (S k) next = next (S (k + 1))) (he : ∀ next, body (S n) next = r) : loop F body (S 0) = r := by
  have : ∀ j F, j ≤ n → n - j < F → loop F body (S j) = r := by
    intro j F hj hF
    obtain ⟨d, hd⟩ : ∃ d, d = n - j := ⟨_, rfl⟩
    induction d generalizing j F with
    | zero =>
      have : j = n := by omega
      subst this
      cases F with
      | zero => omega
      | succ F => rw [loop_succ]; exact he _
    | succ d ih =>
      cases F with
      | zero => omega
      | succ F => rw [loop_succ, hb j (by omega)]; exact ih (j + 1) F (by omega) (by omega) (by omega)
  exact this 0 F (Nat.zero_le _) (by omega)
theorem loop_any {body : γ → (γ → Option β) → Option β} {r1 r2 : Option β} (S : Nat → γ) (c : Nat → Bool) {n F : Nat} (hF : n < F) (hb : ∀ k, k < n → ∀ next, body (S k) next = bif c k then r1 else next (S (k + 1))) (he : ∀ next, body (S n) next = r2) : loop F body (S 0) = bif (List.range n).any c then r1 else r2 := by
  cases h : (List.range n).any c with
  | false =>
    rw [List.any_eq_false] at h
    refine loop_traj S hF (fun k hk next => ?_) he
    have := h k (List.mem_range.2 hk)
    rw [hb k hk, Bool.eq_false_iff.2 this]; rfl
  | true =>
    have hex : ∃ k, k < n ∧ c k = true := by
      obtain ⟨k, h1, h2⟩ := List.any_eq_true.1 h
      exact ⟨k, List.mem_range.1 h1, h2⟩
    have hm : ∃ m, (m < n ∧ c m = true) ∧ ∀ k, k < m → c k = false := by
      obtain ⟨k, hk⟩ := hex
      induction k using Nat.strongRecOn with
      | _ k ih =>
        by_cases hz : ∃ j, j < k ∧ c j = true
        · obtain ⟨j, h1, h2⟩ := hz
          exact ih j h1 ⟨by omega, h2⟩
        · exact ⟨k, hk, fun j hj => Bool.eq_false_iff.2 fun q => hz ⟨j, hj, q⟩⟩
    obtain ⟨m, ⟨h1, h2⟩, h3⟩ := hm
    refine loop_traj S (n := m) (by omega) (fun k hk next => ?_) (fun next => ?_)
    · rw [hb k (by omega), h3 k hk]; rfl
    · rw [hb m h1, h2]; rfl
end
theorem w64s {k : Nat} (h : k < 4611686018427387904) : w64 ((k : Int) + 1) = ((k + 1 : Nat) : Int) := w64_succ h
theorem lt_nat_t {k n : Nat} (h : k < n) : decide ((k : Int) < (n : Int)) = true := decide_eq_true (by omega)
theorem lt_nat_f (n : Nat) : decide ((n : Int) < (n : Int)) = false := decide_eq_false (by omega)
theorem geti_k {α : Type} {l : List α} {k : Nat} (h : k < l.length) : geti l (k : Int) = some l[k] := by rw [geti_nat, List.getElem?_eq_getElem h]
theorem app1 {α : Type} {b : Nat} {l : List α} {x : α} (h : l.length ≤ 900000) (hb : b ≤ 1000) : app b l [x] = some (l ++ [x]) := app_ok (by simp; omega) hb
theorem ne_refl {α : Type} [BEq α] [LawfulBEq α] (a : α) : (a != a) = false := by simp
end Go.Proofs.YtbmbbcaaimehkaaGreat
end
section
set_option linter.unusedVariables false
set_option linter.unusedSimpArgs false
namespace Go.Proofs.YtbmbbcaaimehkaaGreat
open Go.Lf
structure SmN (n : Nat) (w : FerryWorld) : Prop where
  in_ : w.in_.length < n
  boxes : w.boxes.length < n
  entries : w.entries.length < n
  held : w.held.length < n
  wire : w.wire.length < n
  box : ∀ l ∈ w.boxes, l.length < n
  row : ∀ l ∈ w.entries, l.length < n
  hel : ∀ l ∈ w.held, l.length < n
  let_ : ∀ x ∈ w.wire, x.places.length < n ∧ x.ages.length < n
theorem ints_refl {F : Nat} {a : List Int} (hF : a.length < F) (hM : F ≤ 1000000) : f27L F a a = some true := by
  unfold f27L
  rw [ne_refl, cond_false]
  refine loop_traj (fun k => (k : Int)) hF (fun k hk next => ?_) (fun next => ?_)
  · unfold f27_b0
    rw [lt_nat_t hk, cond_true, geti_k hk]
    simp only [Option.bind_some, ne_refl, cond_false]
    rw [w64s (by omega)]
  · unfold f27_b0
    rw [lt_nat_f]; rfl
theorem eqEntry_refl (x : FerryEntry) : eqFerryEntry x x = true := by simp [eqFerryEntry]
theorem eqMail_refl (x : FerryMail) : eqFerryMail x x = true := by simp [eqFerryMail]
theorem same_refl {n F : Nat} {w : FerryWorld} (h : SmN n w) (hF : n ≤ F) (hM : F ≤ 1000000) : f18L F w w = some true := by
  have h5 : loop F (f18_b5 F w w) 0 = some true := by
    refine loop_traj (fun k => (k : Int)) (n := w.wire.length) (Nat.lt_of_lt_of_le h.wire hF) (fun k hk next => ?_) (fun next => ?_)
    · unfold f18_b5
      have hx := h.let_ _ (List.getElem_mem hk)
      rw [lt_nat_t hk, cond_true, geti_k hk]
      simp only [Option.bind_some, ne_refl, eqMail_refl, Bool.not_true, Bool.or_false, Bool.not_false, gd_true, ints_refl (Nat.lt_of_lt_of_le hx.1 hF) hM, ints_refl (Nat.lt_of_lt_of_le hx.2 hF) hM, cond_false]
      rw [w64s (by have := h.wire; omega)]
    · unfold f18_b5
      rw [lt_nat_f]; rfl
  have h3 : loop F (f18_b3 F w w) 0 = some true := by
    refine loop_traj (fun k => (k : Int)) (n := w.held.length) (Nat.lt_of_lt_of_le h.held hF) (fun k hk next => ?_) (fun next => ?_)
    · unfold f18_b3
      have hx := h.hel _ (List.getElem_mem hk)
      rw [lt_nat_t hk, cond_true, geti_k hk]
      simp only [Option.bind_some, ne_refl, cond_false]
      refine loop_traj (fun j => (j : Int)) (n := w.held[k].length) (Nat.lt_of_lt_of_le hx hF) (fun j hj next => ?_) (fun next => ?_)
      · unfold f18_b4
        rw [lt_nat_t hj, cond_true, geti_k hk]
        simp only [Option.bind_some, geti_k hj, eqMail_refl, Bool.not_true, cond_false]
        rw [w64s (by omega)]
      · unfold f18_b4
        rw [lt_nat_f, cond_false, w64s (by have := h.held; omega)]
    · unfold f18_b3
      rw [lt_nat_f]; exact h5
  have h1 : loop F (f18_b1 F w w) 0 = some true := by
    refine loop_traj (fun k => (k : Int)) (n := w.entries.length) (Nat.lt_of_lt_of_le h.entries hF) (fun k hk next => ?_) (fun next => ?_)
    · unfold f18_b1
      have hx := h.row _ (List.getElem_mem hk)
      rw [lt_nat_t hk, cond_true, geti_k hk]
      simp only [Option.bind_some, ne_refl, cond_false]
      refine loop_traj (fun j => (j : Int)) (n := w.entries[k].length) (Nat.lt_of_lt_of_le hx hF) (fun j hj next => ?_) (fun next => ?_)
      · unfold f18_b2
        rw [lt_nat_t hj, cond_true, geti_k hk]
        simp only [Option.bind_some, geti_k hj, eqEntry_refl, Bool.not_true, cond_false]
        rw [w64s (by omega)]
      · unfold f18_b2
        rw [lt_nat_f, cond_false, w64s (by have := h.entries; omega)]
    · unfold f18_b1
      rw [lt_nat_f]; exact h3
  unfold f18L
  rw [ints_refl (Nat.lt_of_lt_of_le h.in_ hF) hM]
  simp only [Option.bind_some, Bool.not_true, ne_refl, Bool.or_false, cond_false]
  refine loop_traj (fun k => (k : Int)) (n := w.boxes.length) (Nat.lt_of_lt_of_le h.boxes hF) (fun k hk next => ?_) (fun next => ?_)
  · unfold f18_b0
    have hx := h.box _ (List.getElem_mem hk)
    rw [lt_nat_t hk, cond_true, geti_k hk]
    simp only [Option.bind_some, ints_refl (Nat.lt_of_lt_of_le hx hF) hM, Bool.not_true, cond_false]
    rw [w64s (by have := h.boxes; omega)]
  · unfold f18_b0
    rw [lt_nat_f]; exact h1
abbrev emptyW : FerryWorld := ⟨[], [], [], [], [], 0⟩
theorem emptyW_sm : SmN 1 emptyW := ⟨by simp, by simp, by simp, by simp, by simp, by simp, by simp, by simp, by simp⟩
def firstBad (m : Int) (l : List Int) : Bool := decide (m < 1) || decide (m > 5) || decide ((l.length : Int) < 1) || decide ((l.length : Int) > 8) || l.any fun h => decide (h < 0) || decide (h ≥ m)
def firstRow (l : List Int) (m : Nat) : List FerryEntry := l.map fun h => ⟨h == (m : Int), h, 0⟩
def firstW (m : Nat) (l : List Int) : FerryWorld := ⟨List.replicate l.length (-1), List.replicate l.length [], (List.range m).map (firstRow l), List.replicate m [], [], 0⟩
theorem rep_snoc {α : Type} (n : Nat) (x : α) : List.replicate n x ++ [x] = List.replicate (n + 1) x := by
  rw [List.replicate_succ']
theorem any_range_get {α : Type} (l : List α) (c : α → Bool) (d : α) : (List.range l.length).any (fun k => c (l.getD k d)) = l.any c := by
  rw [Bool.eq_iff_iff, List.any_eq_true, List.any_eq_true]
  constructor
  · rintro ⟨k, h1, h2⟩
    have hk := List.mem_range.1 h1
    rw [List.getD_eq_getElem?_getD, List.getElem?_eq_getElem hk] at h2
    exact ⟨_, List.getElem_mem hk, h2⟩
  · rintro ⟨x, h1, h2⟩
    obtain ⟨k, hk, rfl⟩ := List.getElem_of_mem h1
    exact ⟨k, List.mem_range.2 hk, by rw [List.getD_eq_getElem?_getD, List.getElem?_eq_getElem hk]; exact h2⟩
theorem first_prog {F : Nat} (hF : 1000 ≤ F) (hM : F ≤ 1000000) (p0 : Int) (p1 : List Int) : f15L F p0 p1 = some (bif firstBad p0 p1 then (emptyW, 2) else (firstW p0.toNat p1, 0)) := by
  unfold f15L firstBad
  cases hg : (decide (p0 < 1) || decide (p0 > 5) || decide ((p1.length : Int) < 1) || decide ((p1.length : Int) > 8)) with
  | true => rfl
  | false =>
    simp only [Bool.or_eq_false_iff, decide_eq_false_iff_not] at hg
    obtain ⟨⟨⟨g1, g2⟩, g3⟩, g4⟩ := hg
    rw [cond_false, Bool.false_or]
    obtain ⟨m, rfl⟩ : ∃ m : Nat, p0 = (m : Int) := ⟨p0.toNat, by omega⟩
    have h1 : loop F (f15_b1 F (m : Int) p1 (List.replicate p1.length (-1)) (List.replicate p1.length [])) (0, [], []) = some (firstW m p1, 0) := by
      refine loop_traj (fun k => ((k : Int), (List.range k).map (firstRow p1), List.replicate k [])) (n := m) (by omega) (fun k hk next => ?_) (fun next => ?_)
      · unfold f15_b1
        dsimp only
        rw [lt_nat_t hk, cond_true]
        refine loop_traj (fun j => ((firstRow p1 k).take j, (j : Int))) (n := p1.length) (by omega) (fun j hj next => ?_) (fun next => ?_)
        · unfold f15_b2
          dsimp only
          rw [lt_nat_t hj, cond_true, geti_k hj]
          simp only [Option.bind_some]
          rw [app1 (by simp; omega) (by omega)]
          simp only [Option.bind_some]
          rw [w64s (by omega), List.take_add_one]
          congr 2
          rw [List.getElem?_eq_getElem (by simp [firstRow]; exact hj)]
          simp [firstRow]
        · unfold f15_b2
          dsimp only
          rw [lt_nat_f, cond_false, List.take_of_length_le (by simp [firstRow]), app1 (by simp; omega) (by omega)]
          simp only [Option.bind_some]
          rw [app1 (by simp; omega) (by omega)]
          simp only [Option.bind_some]
          rw [w64s (by omega), rep_snoc, List.range_succ, List.map_append]; rfl
      · unfold f15_b1
        dsimp only
        rw [lt_nat_f]; rfl
    have := loop_any (body := f15_b0 F (m : Int) p1) (F := F) (n := p1.length) (r1 := some (emptyW, 2)) (r2 := some (firstW m p1, 0)) (fun k => ((k : Int), List.replicate k (-1), List.replicate k [])) (fun k => (fun h : Int => decide (h < 0) || decide (h ≥ (m : Int))) (p1.getD k 0)) (by omega) (fun k hk next => by
      unfold f15_b0
      dsimp only
      rw [lt_nat_t hk, cond_true, geti_k hk]
      simp only [Option.bind_some]
      rw [app1 (by simp; omega) (by omega), app1 (by simp; omega) (by omega)]
      simp only [Option.bind_some]
      rw [w64s (by omega), rep_snoc, rep_snoc, List.getD_eq_getElem?_getD, List.getElem?_eq_getElem hk]; rfl) (fun next => by
      unfold f15_b0
      dsimp only
      rw [lt_nat_f]; exact h1)
    rw [show ((0 : Int), ([] : List Int), ([] : List (List Int))) = (((0 : Nat) : Int), List.replicate 0 (-1), List.replicate 0 []) from rfl, this]; dsimp only; rw [any_range_get p1 (fun h => decide (h < 0) || decide (h ≥ (m : Int))) 0]
    cases p1.any fun h => decide (h < 0) || decide (h ≥ (m : Int)) <;> simp
theorem first_ref {F : Nat} (hF : 1000 ≤ F) (hM : F ≤ 1000000) (p0 : Int) (p1 : List Int) : f16L F p0 p1 = some (bif firstBad p0 p1 then (emptyW, false) else (firstW p0.toNat p1, true)) := by
  unfold f16L firstBad
  cases hg : (decide (p0 < 1) || decide (p0 > 5) || decide ((p1.length : Int) < 1) || decide ((p1.length : Int) > 8)) with
  | true => rfl
  | false =>
    simp only [Bool.or_eq_false_iff, decide_eq_false_iff_not] at hg
    obtain ⟨⟨⟨g1, g2⟩, g3⟩, g4⟩ := hg
    rw [cond_false, Bool.false_or]
    obtain ⟨m, rfl⟩ : ∃ m : Nat, p0 = (m : Int) := ⟨p0.toNat, by omega⟩
    have h1 : loop F (f16_b1 F (m : Int) p1 (List.replicate p1.length (-1)) (List.replicate p1.length [])) (0, [], []) = some (firstW m p1, true) := by
      refine loop_traj (fun k => ((k : Int), (List.range k).map (firstRow p1), List.replicate k [])) (n := m) (by omega) (fun k hk next => ?_) (fun next => ?_)
      · unfold f16_b1
        dsimp only
        rw [lt_nat_t hk, cond_true]
        refine loop_traj (fun j => ((firstRow p1 k).take j, (j : Int))) (n := p1.length) (by omega) (fun j hj next => ?_) (fun next => ?_)
        · unfold f16_b2
          dsimp only
          rw [lt_nat_t hj, cond_true, geti_k hj]
          simp only [Option.bind_some]
          rw [app1 (by simp; omega) (by omega)]
          simp only [Option.bind_some]
          rw [w64s (by omega), List.take_add_one]
          congr 2
          rw [List.getElem?_eq_getElem (by simp [firstRow]; exact hj)]
          simp [firstRow]
        · unfold f16_b2
          dsimp only
          rw [lt_nat_f, cond_false, List.take_of_length_le (by simp [firstRow]), app1 (by simp; omega) (by omega)]
          simp only [Option.bind_some]
          rw [app1 (by simp; omega) (by omega)]
          simp only [Option.bind_some]
          rw [w64s (by omega), rep_snoc, List.range_succ, List.map_append]; rfl
      · unfold f16_b1
        dsimp only
        rw [lt_nat_f]; rfl
    have := loop_any (body := f16_b0 F (m : Int) p1) (F := F) (n := p1.length) (r1 := some (emptyW, false)) (r2 := some (firstW m p1, true)) (fun k => ((k : Int), List.replicate k (-1), List.replicate k [])) (fun k => (fun h : Int => decide (h < 0) || decide (h ≥ (m : Int))) (p1.getD k 0)) (by omega) (fun k hk next => by
      unfold f16_b0
      dsimp only
      rw [lt_nat_t hk, cond_true, geti_k hk]
      simp only [Option.bind_some]
      rw [app1 (by simp; omega) (by omega), app1 (by simp; omega) (by omega)]
      simp only [Option.bind_some]
      rw [w64s (by omega), rep_snoc, rep_snoc, List.getD_eq_getElem?_getD, List.getElem?_eq_getElem hk]; rfl) (fun next => by
      unfold f16_b0
      dsimp only
      rw [lt_nat_f]; exact h1)
    rw [show ((0 : Int), ([] : List Int), ([] : List (List Int))) = (((0 : Nat) : Int), List.replicate 0 (-1), List.replicate 0 []) from rfl, this]; dsimp only; rw [any_range_get p1 (fun h => decide (h < 0) || decide (h ≥ (m : Int))) 0]
    cases p1.any fun h => decide (h < 0) || decide (h ≥ (m : Int)) <;> simp
theorem first_sm {m : Nat} {l : List Int} (hm : m ≤ 5) (hl : l.length ≤ 8) : SmN 10 (firstW m l) := by
  refine ⟨by simp [firstW]; omega, by simp [firstW]; omega, by simp [firstW]; omega, by simp [firstW]; omega, by simp [firstW], fun x h => ?_, fun x h => ?_, fun x h => ?_, fun x h => ?_⟩
  · rw [List.eq_of_mem_replicate h]; simp
  · obtain ⟨k, _, rfl⟩ := List.mem_map.1 h
    simp [firstRow]; omega
  · rw [List.eq_of_mem_replicate h]; simp
  · simp [firstW] at h
theorem FerryFirsts_law (F : Nat) (hF : 1000 ≤ F) (hM : F ≤ 1000000) (p0 : Int) (p1 : List Int) : f3L F p0 p1 = some true := by
  unfold f3L
  cases decide ((p1.length : Int) > 30) with
  | true => rfl
  | false =>
    rw [cond_false, first_prog hF hM, first_ref hF hM]
    simp only [Option.bind_some]
    cases hb : firstBad p0 p1 with
    | true =>
      have : f17L F emptyW = some true := by
        unfold f17L; rw [same_refl emptyW_sm (by omega) hM]; rfl
      simp only [cond_true, Bool.not_false]
      rw [show ((2 : Int) == 2) = true from rfl, gd_true, this]
      rfl
    | false =>
      have hb' := hb
      unfold firstBad at hb'
      simp only [Bool.or_eq_false_iff, decide_eq_false_iff_not] at hb'
      obtain ⟨⟨⟨⟨g1, g2⟩, g3⟩, g4⟩, _⟩ := hb'
      simp only [cond_false, Bool.not_true]
      rw [show ((0 : Int) == 0) = true from rfl, gd_true, same_refl (first_sm (by omega) (by omega)) (by omega) hM]
      rfl
end Go.Proofs.YtbmbbcaaimehkaaGreat
end
