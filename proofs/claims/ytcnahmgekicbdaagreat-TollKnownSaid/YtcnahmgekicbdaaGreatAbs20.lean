/- The abstract interpreter, 20: whatever order is drawn, the operations of a region do what they do in the text's order. -/
import Derived.Test.YtcnahmgekicbdaaGreatAbs19
noncomputable section
namespace Go.Abs

/-! ### The last that touched -/
section
variable {α : Type} (base : α) (val : Nat → α) (S : Nat → Prop) (tc : Nat → Prop)
open Classical in
def last : Nat → α
  | 0 => base
  | k + 1 => if S k ∧ tc k then val k else last k

theorem last_none {m : Nat} (h : ∀ k, k < m → tc k → ¬ S k) : last base val S tc m = base := by
  induction m with
  | zero => rfl
  | succ m ih => rw [last, if_neg (fun x => h m (by omega) x.2 x.1)]; exact ih fun k hk => h k (by omega)

theorem last_text {m : Nat} (g : Nat → α) (h0 : g 0 = base) (h1 : ∀ k, k < m → tc k → g (k + 1) = val k) (h2 : ∀ k, k < m → ¬ tc k → g (k + 1) = g k) {i : Nat} (hi : i ≤ m) (h : ∀ k, k < m → tc k → (S k ↔ k < i)) :
    last base val S tc m = g i := by
  induction m generalizing i with
  | zero =>
    have : i = 0 := by omega
    subst this; exact h0.symm
  | succ m ih =>
    rw [last]
    by_cases hx : S m ∧ tc m
    · rw [if_pos hx]
      have := (h m (by omega) hx.2).1 hx.1
      have e : i = m + 1 := by omega
      rw [e, h1 m (by omega) hx.2]
    · rw [if_neg hx]
      by_cases him : i = m + 1
      · subst him
        have hn : ¬ tc m := fun x => hx ⟨(h m (by omega) x).2 (by omega), x⟩
        rw [h2 m (by omega) hn]
        exact ih (fun k hk => h1 k (by omega)) (fun k hk => h2 k (by omega)) (Nat.le_refl m) fun k hk ht => ⟨fun _ => hk, fun _ => (h k (by omega) ht).2 (by omega)⟩
      · exact ih (fun k hk => h1 k (by omega)) (fun k hk => h2 k (by omega)) (by omega) fun k hk ht => h k (by omega) ht

variable {base val S tc} in
theorem last_upd_not {m i : Nat} {S' : Nat → Prop} (hS : ∀ k, S' k ↔ S k ∨ k = i) (hi : ¬ tc i) : last base val S' tc m = last base val S tc m := by
  induction m with
  | zero => rfl
  | succ m ih =>
    rw [last, last, ih]
    by_cases hm : m = i
    · subst hm; rw [if_neg (fun x => hi x.2), if_neg (fun x => hi x.2)]
    · by_cases hx : S m ∧ tc m
      · rw [if_pos hx, if_pos ⟨(hS m).2 (.inl hx.1), hx.2⟩]
      · rw [if_neg hx, if_neg fun x => hx ⟨((hS m).1 x.1).resolve_right hm, x.2⟩]
variable {base val S tc} in
theorem last_upd {m i : Nat} {S' : Nat → Prop} (hS : ∀ k, S' k ↔ S k ∨ k = i) (him : i < m) (hi : tc i) (hl : ∀ k, i < k → k < m → tc k → ¬ S k) : last base val S' tc m = val i := by
  induction m with
  | zero => omega
  | succ m ih =>
    rw [last]
    by_cases hm : m = i
    · subst hm; rw [if_pos ⟨(hS m).2 (.inr rfl), hi⟩]
    · rw [if_neg, ih (by omega) fun k h1 h2 => hl k h1 (by omega)]
      rintro ⟨h1, h2⟩
      exact hl m (by omega) (by omega) h2 (((hS m).1 h1).resolve_right hm)
theorem last_le {m : Nat} (n : Nat → Nat) (hn : ∀ j k, j ≤ k → k ≤ m → n j ≤ n k) {i : Nat} (hi : i ≤ m) (h : ∀ k, k < m → S k → tc k → k < i) : last (n 0) (fun k => n (k + 1)) S tc m ≤ n i := by
  have : ∀ j, j ≤ m → last (n 0) (fun k => n (k + 1)) S tc j ≤ n i := by
    intro j
    induction j with
    | zero => intro _; exact hn 0 i (by omega) hi
    | succ j ih =>
      intro hj
      rw [last]
      by_cases hx : S j ∧ tc j
      · rw [if_pos hx]; have := h j (by omega) hx.1 hx.2; exact hn (j + 1) i (by omega) hi
      · rw [if_neg hx]; exact ih (by omega)
  exact this m (Nat.le_refl m)
theorem last_ge {m : Nat} (n : Nat → Nat) (hn : ∀ j k, j ≤ k → k ≤ m → n j ≤ n k) : n 0 ≤ last (n 0) (fun k => n (k + 1)) S tc m := by
  have : ∀ j, j ≤ m → n 0 ≤ last (n 0) (fun k => n (k + 1)) S tc j := by
    intro j
    induction j with
    | zero => intro _; exact Nat.le_refl _
    | succ j ih =>
      intro hj
      rw [last]
      by_cases hx : S j ∧ tc j
      · rw [if_pos hx]; exact hn 0 (j + 1) (by omega) hj
      · rw [if_neg hx]; exact ih (by omega)
  exact this m (Nat.le_refl m)
end

/-! ### Renamings, cut -/
def Ren.cut (ρ : Ren) (c : Nat) : Ren := ⟨fun x => if x < c then ρ x else none, ρ.lim⟩
theorem Ren.cut_some {ρ : Ren} {c x : Nat} {p : Nat × Nat} : (ρ.cut c) x = some p ↔ x < c ∧ ρ x = some p := by
  unfold Ren.cut
  by_cases h : x < c
  · simp [h]
  · simp [h]
theorem Ren.cut_mono {ρ : Ren} {c c' : Nat} (h : c ≤ c') : (ρ.cut c).le (ρ.cut c') := fun x p e => by
  rw [Ren.cut_some] at e
  exact ⟨Ren.cut_some.2 ⟨by omega, e.2⟩, rfl⟩
theorem Ren.cut_le {ρ ρ' : Ren} (h : ρ.le ρ') (c : Nat) : (ρ.cut c).le (ρ'.cut c) := fun x p e => by
  rw [Ren.cut_some] at e
  obtain ⟨h1, h2⟩ := h _ _ e.2
  exact ⟨Ren.cut_some.2 ⟨e.1, h1⟩, h2⟩
theorem Ren.le_cut {ρ : Ren} {c : Nat} (h : ∀ x p, ρ x = some p → x < c) : ρ.le (ρ.cut c) := fun _ _ e => ⟨Ren.cut_some.2 ⟨h _ _ e, e⟩, rfl⟩
theorem Ren.cut_self {ρ : Ren} {c : Nat} : (ρ.cut c).le ρ := fun _ _ e => ⟨(Ren.cut_some.1 e).2, rfl⟩

/-! ### Masks -/
def mask (X : List Nat) (h : H) : H := X.foldl (fun g x => g.put x .dead) h
def unmask (X : List Nat) (h h' : H) : H := X.foldl (fun g x => bif Nat.blt x h.size then g.put x (h.at x) else g) h'

theorem mask_size (X : List Nat) (h : H) : (mask X h).size = h.size := by
  unfold mask
  induction X generalizing h with
  | nil => rfl
  | cons y X ih => rw [List.foldl_cons, ih, H.size_put]
theorem mask_at (X : List Nat) (h : H) (x : Nat) : (mask X h).at x = if x ∈ X then .dead else h.at x := by
  unfold mask
  induction X generalizing h with
  | nil => simp
  | cons y X ih =>
    rw [List.foldl_cons, ih]
    by_cases hx : x ∈ X
    · simp [hx]
    · rw [if_neg hx, H.at_put]
      by_cases hy : x = y
      · subst hy
        by_cases hl : x < h.size
        · simp [hl]
        · simp [hl, H.at_ge (Nat.le_of_not_lt hl)]
      · simp [hx, hy]
theorem unmask_size (X : List Nat) (h h' : H) : (unmask X h h').size = h'.size := by
  unfold unmask
  induction X generalizing h' with
  | nil => rfl
  | cons y X ih => rw [List.foldl_cons, ih]; cases Nat.blt y h.size <;> rfl
theorem unmask_at (X : List Nat) (h h' : H) (hs : h.size ≤ h'.size) (x : Nat) : (unmask X h h').at x = if x ∈ X ∧ x < h.size then h.at x else h'.at x := by
  unfold unmask
  induction X generalizing h' with
  | nil => simp
  | cons y X ih =>
    rw [List.foldl_cons]
    cases hb : Nat.blt y h.size with
    | true =>
      rw [Nat.blt_eq] at hb
      rw [cond_true, ih _ (by rw [H.size_put]; exact hs)]
      by_cases hx : x ∈ X ∧ x < h.size
      · rw [if_pos hx, if_pos ⟨List.mem_cons_of_mem _ hx.1, hx.2⟩]
      · rw [if_neg hx, H.at_put]
        by_cases hy : x = y
        · subst hy
          rw [if_pos ⟨rfl, by omega⟩, if_pos ⟨by simp, hb⟩]
        · rw [if_neg fun z => hy z.1, if_neg]
          rintro ⟨z1, z2⟩
          rcases List.mem_cons.1 z1 with z | z
          · exact hy z
          · exact hx ⟨z, z2⟩
    | false =>
      rw [cond_false, ih _ hs]
      have hy : ¬ y < h.size := fun z => by rw [← Nat.blt_eq] at z; rw [z] at hb; cases hb
      by_cases hx : x ∈ X ∧ x < h.size
      · rw [if_pos hx, if_pos ⟨List.mem_cons_of_mem _ hx.1, hx.2⟩]
      · rw [if_neg hx, if_neg]
        rintro ⟨z1, z2⟩
        rcases List.mem_cons.1 z1 with z | z
        · subst z; exact hy z2
        · exact hx ⟨z, z2⟩

theorem setd_at (fr : Fr) (d : Option Tmp) (v : Value) (t : Nat) : (setd fr d v).at t = if d = some t then v else fr.at t := by
  cases d with
  | none => simp [setd]
  | some d =>
    by_cases h : t = d
    · subst h; simp [setd, Fr.at, Tr.get_set]
    · have h' : ¬ d = t := fun e => h e.symm
      simp [setd, Fr.at, Tr.get_set, h, h']

/-! ### A region's run in the text's order, and what makes every other order do the same -/
structure Data (P : Program) (nn wm : Nat) (rd : Option Nat) (ops : Array Oper) where
  hs : Nat → H
  fs : Nat → Fr
  vs : Nat → Value
  ts : Nat → Option Nat
  Xs : Nat → List Nat
  fre : Nat → Bool
  /-- an operation that only looks, and may look at an object before or behind another one turns it -/
  soft : Nat → Option (Nat × Nat)
  /-- an operation that does not look at the heap -/
  hl : Nat → Bool
  Pb : Nat → Nat → Prop
  size0 : wm ≤ (hs 0).size
  step : ∀ (k : Nat) (o : Oper), ops[k]? = some o → ∃ h1, StepOK P wm rd ops o (MOf (fre k) wm (ts k)) (fs k) (mask (Xs k) (hs k)) (vs k) h1 ∧ KeepM (MOf (fre k) wm (ts k)) (mask (Xs k) (hs k)) h1 ∧
    hs (k + 1) = unmask (Xs k) (hs k) h1 ∧ fs (k + 1) = setd (fs k) o.dst (vs k)
  wmM : ∀ k x, k < ops.size → MOf (fre k) wm (ts k) x → wm ≤ x
  dst : ∀ (k : Nat) (o : Oper) (d : Tmp), ops[k]? = some o → o.dst = some d → d < nn
  pb_elim : ∀ (j k : Nat), Pb j k → ∃ (o : Oper) (e : Edge), ops[j]? = some o ∧ e ∈ o.after ∧ Region.binds .any e = true ∧ (k = e.on ∨ Pb e.on k)
  edges : ∀ (j : Nat) (o : Oper) (e : Edge), ops[j]? = some o → e ∈ o.after → Region.binds .any e = true → e.on < j
  inc : ∀ i j, i < ops.size → j < ops.size → i ≠ j → ¬ Pb i j → ¬ Pb j i → hl i = false → ∀ x, MOf (fre j) wm (ts j) x → x < (hs j).size → (x < (hs i).size ∧ (x ∈ Xs i ∨ soft i = some (x, j))) ∨ (hs (i + 1)).size ≤ x
  hlOK : ∀ (i : Nat) (o : Oper), ops[i]? = some o → hl i = true → (∀ y, ¬ MOf (fre i) wm (ts i) y) ∧ (hs (i + 1)).size = (hs i).size ∧ ∀ g : H, StepOK P wm rd ops o (fun _ => False) (fs i) g (vs i) g
  softOK : ∀ (i : Nat) (o : Oper) (x j : Nat), ops[i]? = some o → soft i = some (x, j) → i < j ∧ j < ops.size ∧ x < (hs i).size ∧ (∀ y, ¬ MOf (fre i) wm (ts i) y) ∧ (hs (i + 1)).size = (hs i).size ∧
    (∀ (ρ ρ' : Ren) (w : World) (b d : Nat) (l : Nat × Nat), ObjR ρ w b d l ((hs i).at x) → ObjR ρ' w b d l ((hs i).at x)) ∧
    (∀ (ρ ρ' : Ren) (w : World) (b d : Nat) (l : Nat × Nat), ObjR ρ w b d l ((hs (j + 1)).at x) → ObjR ρ' w b d l ((hs (j + 1)).at x)) ∧
    StepOK P wm rd ops o (fun _ => False) (fs i) (mask (Xs i) (hs i)) (vs i) (mask (Xs i) (hs i)) ∧
    StepOK P wm rd ops o (fun _ => False) (fs i) ((mask (Xs i) (hs i)).put x ((hs (j + 1)).at x)) (vs i) ((mask (Xs i) (hs i)).put x ((hs (j + 1)).at x))
  MX : ∀ i x, i < ops.size → MOf (fre i) wm (ts i) x → x < (hs i).size → x ∉ Xs i
  looks : ∀ (i : Nat) (o : Oper) (t : Tmp), ops[i]? = some o → t ∈ Abs.looks ops.toList o → ∀ (k : Nat) (o' : Oper), ops[k]? = some o' → o'.dst = some t → k = i ∨ Pb i k ∨ Pb k i
  dsts : ∀ (i j : Nat) (o o' : Oper) (t : Tmp), ops[i]? = some o → ops[j]? = some o' → o.dst = some t → o'.dst = some t → i = j

namespace Data
variable {P : Program} {nn wm : Nat} {rd : Option Nat} {ops : Array Oper} (D : Data P nn wm rd ops)
def n (k : Nat) : Nat := (D.hs k).size
def M (k x : Nat) : Prop := MOf (D.fre k) wm (D.ts k) x ∧ x < D.n k
def tch (k x : Nat) : Prop := D.M k x ∨ (D.n k ≤ x ∧ x < D.n (k + 1))
def dstOf (k : Nat) : Option Tmp := (ops[k]?).bind (·.dst)
def hv (S : Nat → Prop) (x : Nat) : AObj := last ((D.hs 0).at x) (fun k => (D.hs (k + 1)).at x) S (fun k => D.tch k x) ops.size
def cv (S : Nat → Prop) (x : Nat) : Nat := last (D.n 0) (fun k => D.n (k + 1)) S (fun k => D.tch k x) ops.size
def tv (S : Nat → Prop) (t : Nat) : Value := last ((D.fs 0).at t) D.vs S (fun k => dstOf (ops := ops) k = some t) ops.size
def tt (S : Nat → Prop) (t : Nat) : Nat := last (D.n 0) (fun k => D.n (k + 1)) S (fun k => dstOf (ops := ops) k = some t) ops.size

theorem get {k : Nat} (h : k < ops.size) : ∃ o, ops[k]? = some o := ⟨ops[k], by simp [h]⟩
theorem n_succ {k : Nat} (h : k < ops.size) : D.n k ≤ D.n (k + 1) := by
  obtain ⟨o, ho⟩ := get h
  obtain ⟨h1, _, km, e, _⟩ := D.step k o ho
  unfold n
  rw [e, unmask_size]
  have := km.size
  rwa [mask_size] at this
theorem n_mono : ∀ j k, j ≤ k → k ≤ ops.size → D.n j ≤ D.n k := by
  intro j k hjk
  induction hjk with
  | refl => intro _; exact Nat.le_refl _
  | step h ih => intro hk; exact Nat.le_trans (ih (by omega)) (D.n_succ (by omega))

theorem keep {k x : Nat} (hk : k < ops.size) (h : ¬ D.tch k x) : (D.hs (k + 1)).at x = (D.hs k).at x := by
  obtain ⟨o, ho⟩ := get hk
  obtain ⟨h1, _, km, e, _⟩ := D.step k o ho
  have hsz := km.size
  rw [mask_size] at hsz
  have hn : D.n (k + 1) = h1.size := by unfold n; rw [e, unmask_size]
  by_cases hx : x < (D.hs k).size
  · rw [e, unmask_at _ _ _ hsz]
    by_cases hX : x ∈ D.Xs k
    · rw [if_pos ⟨hX, hx⟩]
    · rw [if_neg fun z => hX z.1, km.keep x (by rw [mask_size]; exact hx) (fun z => h (.inl ⟨z, hx⟩)), mask_at, if_neg hX]
  · have : ¬ x < D.n (k + 1) := fun z => h (.inr ⟨Nat.le_of_not_lt hx, z⟩)
    rw [H.at_ge (Nat.le_of_not_lt hx), H.at_ge (Nat.le_of_not_lt this)]
theorem own {k x : Nat} (hk : k < ops.size) (hx : x < D.n k) (h : ((D.hs (k + 1)).at x).own = true) : ((D.hs k).at x).own = true := by
  obtain ⟨o, ho⟩ := get hk
  obtain ⟨h1, _, km, e, _⟩ := D.step k o ho
  have hsz := km.size
  rw [mask_size] at hsz
  rw [e, unmask_at _ _ _ hsz] at h
  by_cases hX : x ∈ D.Xs k ∧ x < (D.hs k).size
  · rwa [if_pos hX] at h
  · rw [if_neg hX] at h
    have := km.own x (by rw [mask_size]; exact hx) h
    rw [mask_at] at this
    split at this
    · cases this
    · exact this
theorem live {k x : Nat} (hk : k < ops.size) (hx : x < D.n k) (h : ((D.hs (k + 1)).at x).live = true) : ((D.hs k).at x).live = true := by
  obtain ⟨o, ho⟩ := get hk
  obtain ⟨h1, _, km, e, _⟩ := D.step k o ho
  have hsz := km.size
  rw [mask_size] at hsz
  rw [e, unmask_at _ _ _ hsz] at h
  by_cases hX : x ∈ D.Xs k ∧ x < (D.hs k).size
  · rwa [if_pos hX] at h
  · rw [if_neg hX] at h
    have := km.live x (by rw [mask_size]; exact hx) h
    rw [mask_at] at this
    split at this
    · cases this
    · exact this
theorem own0 {x : Nat} (hx : x < D.n 0) : ∀ k, k ≤ ops.size → ((D.hs k).at x).own = true → ((D.hs 0).at x).own = true := by
  intro k
  induction k with
  | zero => intro _ h; exact h
  | succ k ih => intro hk h; exact ih (by omega) (D.own (by omega) (Nat.lt_of_lt_of_le hx (D.n_mono 0 k (by omega) (by omega))) h)
theorem live0 {x : Nat} (hx : x < D.n 0) : ∀ k, k ≤ ops.size → ((D.hs k).at x).live = true → ((D.hs 0).at x).live = true := by
  intro k
  induction k with
  | zero => intro _ h; exact h
  | succ k ih => intro hk h; exact ih (by omega) (D.live (by omega) (Nat.lt_of_lt_of_le hx (D.n_mono 0 k (by omega) (by omega))) h)
theorem hv_is (S : Nat → Prop) (x : Nat) : ∃ k, k ≤ ops.size ∧ D.hv S x = (D.hs k).at x := by
  unfold hv
  have : ∀ m, m ≤ ops.size → ∃ k, k ≤ ops.size ∧ last ((D.hs 0).at x) (fun k => (D.hs (k + 1)).at x) S (fun k => D.tch k x) m = (D.hs k).at x := by
    intro m
    induction m with
    | zero => intro _; exact ⟨0, by omega, rfl⟩
    | succ m ih =>
      intro hm
      rw [last]
      by_cases h : S m ∧ D.tch m x
      · rw [if_pos h]; exact ⟨m + 1, hm, rfl⟩
      · rw [if_neg h]; exact ih (by omega)
  exact this _ (Nat.le_refl _)
theorem hv_own0 {S : Nat → Prop} {x : Nat} (hx : x < D.n 0) (h : (D.hv S x).own = true) : ((D.hs 0).at x).own = true := by
  obtain ⟨k, hk, e⟩ := D.hv_is S x
  rw [e] at h
  exact D.own0 hx k hk h

/-- Closed downwards. -/
def Closed (ops : Array Oper) (S : Nat → Prop) : Prop := ∀ j o e, S j → ops[j]? = some o → e ∈ o.after → Region.binds .any e = true → S e.on

theorem pb_lt : ∀ j k, D.Pb j k → k < j := by
  intro j
  induction j using Nat.strongRecOn with
  | ind j ih =>
    intro k h
    obtain ⟨o, e, ho, he, hb, hk⟩ := D.pb_elim j k h
    have := D.edges j o e ho he hb
    rcases hk with rfl | hk
    · exact this
    · have := ih e.on this k hk; omega
theorem closed_pb {S : Nat → Prop} (hc : Closed ops S) : ∀ j k, S j → D.Pb j k → S k := by
  intro j
  induction j using Nat.strongRecOn with
  | ind j ih =>
    intro k hj h
    obtain ⟨o, e, ho, he, hb, hk⟩ := D.pb_elim j k h
    have h1 := hc j o e hj ho he hb
    rcases hk with rfl | hk
    · exact h1
    · exact ih e.on (D.edges j o e ho he hb) k h1 hk
/-- Who is compared with an operation that is next, has been or will be as the text has it. -/
theorem comp_iff {S : Nat → Prop} (hc : Closed ops S) {i : Nat} {o : Oper} (ho : ops[i]? = some o) (hi : ¬ S i) (hr : ∀ e ∈ o.after, Region.binds .any e = true → S e.on) {k : Nat} (h : D.Pb i k ∨ D.Pb k i) : S k ↔ k < i := by
  rcases h with h | h
  · refine ⟨fun _ => D.pb_lt _ _ h, fun _ => ?_⟩
    obtain ⟨o', e, ho', he, hb, hk⟩ := D.pb_elim i k h
    rw [ho] at ho'
    cases ho'
    rcases hk with rfl | hk
    · exact hr e he hb
    · exact D.closed_pb hc e.on k (hr e he hb) hk
  · refine ⟨fun hs => absurd (D.closed_pb hc k i hs h) hi, fun hl => ?_⟩
    have := D.pb_lt _ _ h
    omega

/-- The state in which the operations of S have been done. -/
structure J (S : Nat → Prop) (ds : List Deferred) (ρ0 : Ren) (w0 : World) (ρ : Ren) (a : Act) (w : World) : Prop where
  dom : ∀ x b d, ρ x = some (b, d) → b < w.heap.size ∧ (x < D.n 0 ∨ ∃ k, k < ops.size ∧ S k ∧ D.n k ≤ x ∧ x < D.n (k + 1))
  obj : ∀ x b d, ρ x = some (b, d) → ObjR (ρ.cut (D.cv S x)) w b d (ρ.lim x) (D.hv S x)
  tsz : a.tmps.size = nn
  tmp : ∀ t, isAny (D.tv S t) = false → VR (ρ.cut (D.tt S t)) (D.tv S t) (a.tmps.getD t undef)
  ds : DsR (ρ.cut (D.n 0)) ds a.defers
  inj : ∀ x y b d d', ρ x = some (b, d) → ρ y = some (b, d') → (D.hv S x).own = true → (D.hv S y).live = true → x = y
  ext : ρ0.le ρ
  dom0 : ∀ x p, ρ0 x = some p → x < D.n 0
  os : w.os = w0.os
  tape : w.tape = w0.tape
  output : w.output = w0.output
  wsize : w0.heap.size ≤ w.heap.size
  frame : ∀ b, b < w0.heap.size → (∀ i d, wm ≤ i → ρ0 i = some (b, d) → ((D.hs 0).at i).own = true → False) → w.heap[b]? = w0.heap[b]?
  newb : ∀ i b d, ρ0 i = none → ρ i = some (b, d) → D.n 0 ≤ i ∧ (w0.heap.size ≤ b ∨ ∃ j d', wm ≤ j ∧ ρ0 j = some (b, d') ∧ ((D.hs 0).at j).own = true)

variable {D}
theorem J.at_text {S : Nat → Prop} {ds : List Deferred} {ρ0 ρ : Ren} {w0 w : World} {a : Act} (j : D.J S ds ρ0 w0 ρ a w) (hc : Closed ops S) {i : Nat} {o : Oper} (ho : ops[i]? = some o) (hi : ¬ S i)
    (hr : ∀ e ∈ o.after, Region.binds .any e = true → S e.on) {x b d : Nat} (hx : ρ x = some (b, d)) (hxn : x < D.n i) (hX : x ∉ D.Xs i) (hhl : D.hl i = false) (hsf : ∀ j, D.soft i ≠ some (x, j)) : D.hv S x = (D.hs i).at x ∧ D.cv S x ≤ D.n i := by
  have him : i < ops.size := (Array.getElem?_eq_some_iff.1 ho).1
  have key : ∀ k, k < ops.size → D.tch k x → (S k ↔ k < i) := by
    intro k hk ht
    rcases ht with ht | ⟨h1, h2⟩
    · by_cases hki : k = i
      · subst hki; exact ⟨fun z => absurd z hi, fun z => by omega⟩
      · by_cases hcmp : D.Pb i k ∨ D.Pb k i
        · exact D.comp_iff hc ho hi hr hcmp
        · rcases D.inc i k him hk (Ne.symm hki) (fun z => hcmp (.inl z)) (fun z => hcmp (.inr z)) hhl x ht.1 ht.2 with z | z
          · rcases z.2 with z | z
            · exact absurd z hX
            · exact absurd z (hsf k)
          · have := D.n_succ him; unfold n at this hxn; omega
    · have hki : k < i := by
        rcases Nat.lt_or_ge k i with z | z
        · exact z
        · have := D.n_mono i k z (by omega); omega
      refine ⟨fun _ => hki, fun _ => ?_⟩
      rcases (j.dom x b d hx).2 with z | ⟨k', q1, q2, q3, q4⟩
      · have := D.n_mono 0 k (by omega) (by omega); omega
      · have : k' = k := by
          rcases Nat.lt_trichotomy k' k with z | z | z
          · have := D.n_mono (k' + 1) k (by omega) (by omega); omega
          · exact z
          · have := D.n_mono (k + 1) k' (by omega) (by omega); omega
        subst this
        exact q2
  refine ⟨?_, ?_⟩
  · unfold hv
    exact last_text _ _ _ _ (fun k => (D.hs k).at x) rfl (fun k _ _ => rfl) (fun k hk ht => D.keep hk ht) (Nat.le_of_lt him) key
  · unfold cv
    exact last_le _ _ _ D.n_mono (Nat.le_of_lt him) fun k hk hs ht => (key k hk ht).1 hs

theorem J.tmp_text {S : Nat → Prop} (hc : Closed ops S) {i : Nat} {o : Oper} (ho : ops[i]? = some o) (hi : ¬ S i)
    (hr : ∀ e ∈ o.after, Region.binds .any e = true → S e.on) {t : Nat} (ht : t ∈ Abs.looks ops.toList o) : D.tv S t = (D.fs i).at t ∧ D.tt S t ≤ D.n i := by
  have him : i < ops.size := (Array.getElem?_eq_some_iff.1 ho).1
  have key : ∀ k, k < ops.size → dstOf (ops := ops) k = some t → (S k ↔ k < i) := by
    intro k hk hd
    obtain ⟨o', ho'⟩ := get hk
    have hd' : o'.dst = some t := by unfold dstOf at hd; rw [ho'] at hd; exact hd
    rcases D.looks i o t ho ht k o' ho' hd' with h | h
    · subst h; exact ⟨fun z => absurd z hi, fun z => by omega⟩
    · exact D.comp_iff hc ho hi hr h
  have hfs : ∀ k, k < ops.size → (D.fs (k + 1)).at t = if dstOf (ops := ops) k = some t then D.vs k else (D.fs k).at t := by
    intro k hk
    obtain ⟨o', ho'⟩ := get hk
    obtain ⟨h1, _, _, _, e⟩ := D.step k o' ho'
    rw [e, setd_at]
    unfold dstOf
    rw [ho']
    rfl
  refine ⟨?_, ?_⟩
  · unfold tv
    exact last_text _ _ _ _ (fun k => (D.fs k).at t) rfl (fun k hk hd => by rw [hfs k hk, if_pos hd]) (fun k hk hd => by rw [hfs k hk, if_neg hd]) (Nat.le_of_lt him) key
  · unfold tt
    exact last_le _ _ _ D.n_mono (Nat.le_of_lt him) fun k hk hs hd => (key k hk hd).1 hs

end Data
end Go.Abs
