/- Names Part 15 of the proof. -/
import GoSem.ClaimChange
import Derived.Test.YtbnepjakjmnadaaGreatNa14
set_option linter.all false
set_option maxHeartbeats 2000000
section
noncomputable section
namespace Go.Abs
variable {P : Program} {W : World} {E : Type}
theorem mapM_get {α β : Type} {f : α → Option β} : ∀ {l : List α} {xs : List β}, l.mapM f = some xs → xs.length = l.length ∧ ∀ (i : Nat) (a : α) (x : β), l[i]? = some a → xs[i]? = some x → f a = some x := by
  intro l
  induction l with
  | nil => intro xs h; simp at h; subst h; exact ⟨rfl, fun i a x e => by simp at e⟩
  | cons a l ih =>
    intro xs h
    rw [List.mapM_cons] at h
    cases e : f a with
    | none => rw [e] at h; simp at h
    | some b =>
      rw [e] at h
      cases e2 : l.mapM f with
      | none => rw [e2] at h; simp at h
      | some bs =>
        rw [e2] at h
        simp at h
        subst h
        obtain ⟨h1, h2⟩ := ih e2
        refine ⟨by simp [h1], fun i a' x q1 q2 => ?_⟩
        cases i with
        | zero => simp at q1 q2; rw [← q1, ← q2]; exact e
        | succ i => exact h2 i a' x (by simpa using q1) (by simpa using q2)
def contig (P : Program) : List Field → Nat → Nat → Bool
  | [], o, n => Nat.beq o n
  | f :: fs, o, n => Nat.beq f.offset o && contig P fs (o + P.cellsOf f.type) n
def goodTy (P : Program) : Nat → TypeId → Bool
  | 0, _ => false
  | k + 1, t => match P.underlying t with
    | some .bool => true
    | some (.int _) => true
    | some .string => true
    | some (.slice e) => goodTy P k e && Nat.ble 1 (P.cellsOf e)
    | some (.struct fs) => fs.toList.all (fun x => goodTy P k x.type) && contig P fs.toList 0 (P.cellsOf t)
    | _ => false
inductive AR (P : Program) {E : Type} (h : H) : TypeId → List Value → DataW E → Prop
  | bool {t : TypeId} {b : Bool} (hu : P.underlying t = some .bool) : AR P h t [.bool b] (.lit (.bool b))
  | int {t : TypeId} {k : IntKind} {n : Int} (hu : P.underlying t = some (.int k)) (wf : (Lit.int k n).wf = true) : AR P h t [.int k n] (.lit (.int k n))
  | string {t : TypeId} {s : ByteArray} (hu : P.underlying t = some .string) (hs : s.size ≤ maxLen) : AR P h t [.string s] (.lit (.string s.data.toList))
  | nil {t e : TypeId} (hu : P.underlying t = some (.slice e)) : AR P h t [.slice none 0 0] .nil
  | empty {t e : TypeId} (hu : P.underlying t = some (.slice e)) : AR P h t [.slice (some ⟨0, 0, some 0⟩) 0 0] (.slice [] [])
  | slice {t e : TypeId} {els : List (List Value × DataW E)} {rest : List (DataW E)} {i cap : Nat} (hu : P.underlying t = some (.slice e)) (hl : els.length ≤ cap) (hc : cap ≤ maxLen) (hat : h.at i = .row (els.flatMap (·.1)) false 0)
      (hsz : ∀ x ∈ els, x.1.length = P.cellsOf e) (hel : ∀ x ∈ els, AR P h e x.1 x.2) : AR P h t [.slice (some ⟨i, 0, none⟩) els.length (2 * cap)] (.slice (els.map (·.2)) rest)
  | struct {t : TypeId} {fs : Array Field} {els : List (List Value × DataW E)} (hu : P.underlying t = some (.struct fs)) (hl : els.length = fs.toList.length) (hsz : ∀ (i : Nat) (x : List Value × DataW E) (f : Field), els[i]? = some x → fs.toList[i]? = some f → x.1.length = P.cellsOf f.type)
      (hel : ∀ (i : Nat) (x : List Value × DataW E) (f : Field), els[i]? = some x → fs.toList[i]? = some f → AR P h f.type x.1 x.2) : AR P h t (els.flatMap (·.1)) (.agg (els.map (·.2)))
theorem AR.grow {h h' : H} (g : Grow h h') {t : TypeId} {cs : List Value} {d : DataW E} (a : AR P h t cs d) : AR P h' t cs d := by
  induction a with
  | bool hu => exact .bool hu
  | int hu wf => exact .int hu wf
  | string hu hs => exact .string hu hs
  | nil hu => exact .nil hu
  | empty hu => exact .empty hu
  | slice hu hl hc hat hsz _ ih => exact .slice hu hl hc (by rw [g.keep _ (live_lt hat rfl)]; exact hat) hsz ih
  | struct hu hl hsz _ ih => exact .struct hu hl hsz ih
def NoOwn (h : H) : Prop := ∀ i, (h.at i).own = false
def EmbOK (P : Program) (W : World) (t : TypeId) (cs : List Value) (d : DataW E) : Prop :=
  ∀ (ρ : Ren) (h : H), Rel ρ h W → NoOwn h → ∃ ρ' h' acs, ρ.le ρ' ∧ Grow h h' ∧ Rel ρ' h' W ∧ NoOwn h' ∧ LR ρ' acs cs ∧ AR P h' t acs d
theorem LR.mono' {ρ ρ' : Ren} (hr : ρ.le ρ') {xs ys : List Value} (h : LR ρ xs ys) : LR ρ' xs ys := ⟨h.1, fun i v v' a b => (h.2 i v v' a b).mono hr⟩
theorem embList : ∀ (l : List (TypeId × List Value × DataW E)), (∀ x ∈ l, EmbOK P W x.1 x.2.1 x.2.2) → ∀ (ρ : Ren) (h : H), Rel ρ h W → NoOwn h →
    ∃ (ρ' : Ren) (h' : H) (els : List (List Value × DataW E)), ρ.le ρ' ∧ Grow h h' ∧ Rel ρ' h' W ∧ NoOwn h' ∧ els.map (·.2) = l.map (·.2.2) ∧ els.length = l.length ∧
      ∀ (i : Nat) (x : List Value × DataW E) (y : TypeId × List Value × DataW E), els[i]? = some x → l[i]? = some y → LR ρ' x.1 y.2.1 ∧ AR P h' y.1 x.1 x.2 := by
  intro l
  induction l with
  | nil => intro _ ρ h hr hn; exact ⟨ρ, h, [], Ren.le_refl ρ, Grow.refl h, hr, hn, rfl, rfl, fun i x y e => by simp at e⟩
  | cons a l ih =>
    intro hl ρ h hr hn
    obtain ⟨ρ1, h1, acs, q1, q2, q3, q4, q5, q6⟩ := hl a (by simp) ρ h hr hn
    obtain ⟨ρ2, h2, els, p1, p2, p3, p4, p5, p6, p7⟩ := ih (fun x hx => hl x (by simp [hx])) ρ1 h1 q3 q4
    refine ⟨ρ2, h2, (acs, a.2.2) :: els, Ren.le_trans q1 p1, q2.trans p2, p3, p4, by simp [p5], by simp [p6], fun i x y e1 e2 => ?_⟩
    cases i with
    | zero => simp at e1 e2; subst e1 e2; exact ⟨q5.mono' p1, q6.grow p2⟩
    | succ i => exact p7 i x y (by simpa using e1) (by simpa using e2)
theorem flat_get {α β : Type} {f : α → List β} {sz : Nat} : ∀ (l : List α), (∀ x ∈ l, (f x).length = sz) → ∀ i j, j < sz → (l.flatMap f)[i * sz + j]? = (l[i]?).bind fun x => (f x)[j]? := by
  intro l
  induction l with
  | nil => intro _ i j _; simp
  | cons a l ih =>
    intro hl i j hj
    have ha := hl a (by simp)
    rw [List.flatMap_cons]
    cases i with
    | zero => rw [List.getElem?_append_left (by omega)]; simp
    | succ i =>
      rw [List.getElem?_append_right (by rw [ha, Nat.succ_mul]; omega)]
      have : (i + 1) * sz + j - (f a).length = i * sz + j := by rw [ha, Nat.succ_mul]; omega
      rw [this, ih (fun x hx => hl x (by simp [hx])) i j hj]
      simp
theorem flat_len {α β : Type} {f : α → List β} {sz : Nat} : ∀ (l : List α), (∀ x ∈ l, (f x).length = sz) → (l.flatMap f).length = l.length * sz := by
  intro l
  induction l with
  | nil => intro _; simp
  | cons a l ih =>
    intro hl
    rw [List.flatMap_cons, List.length_append, hl a (by simp), ih fun x hx => hl x (by simp [hx])]
    simp [Nat.succ_mul]; omega
theorem cells_get {w : World} {a : Addr} {n : Nat} {cs : List Value} (h : w.cells? 0 a n = some cs) (hn : 1 ≤ n) : cs.length = n ∧ a.spot = none ∧ ∃ c el fz, w.heap[a.block]? = some (.cells c el fz) ∧ ∀ k, k < n → ∃ v, c[a.off + k]? = some v ∧ cs[k]? = some v := by
  unfold World.cells? at h
  rw [if_pos (Nat.zero_le _)] at h
  obtain ⟨h1, h2⟩ := mapM_get h
  have hl : cs.length = n := by simpa using h1
  have key : ∀ k, k < n → ∃ v, cs[k]? = some v ∧ w.cell? (a.add k) = some v := by
    intro k hk
    have hk2 : k < cs.length := by omega
    exact ⟨cs[k], by simp [hk2], h2 k k cs[k] (by simp [hk]) (by simp [hk2])⟩
  obtain ⟨v0, e0, c0⟩ := key 0 (by omega)
  have ha0 : a.add 0 = a := by unfold Addr.add; simp
  rw [ha0] at c0
  unfold World.cell? at c0
  cases hb : w.heap[a.block]? with
  | none => rw [hb] at c0; cases c0
  | some o =>
    rw [hb] at c0
    cases o with
    | cells c el fz =>
      dsimp only at c0
      split at c0
      · cases c0
      · rename_i hsp
        refine ⟨hl, by simpa using hsp, c, el, fz, rfl, fun k hk => ?_⟩
        obtain ⟨v, e1, c1⟩ := key k hk
        refine ⟨v, ?_, e1⟩
        by_cases hk0 : k = 0
        · subst hk0; rw [e0] at e1; cases e1; rw [Nat.add_zero]; exact c0
        · unfold World.cell? Addr.add at c1
          rw [if_neg hk0] at c1
          dsimp only at c1
          rw [hb] at c1
          simpa using c1
    | _ => cases c0
theorem emb_plain {t : TypeId} {v : Value} {d : DataW E} (hp : scalar v = true) (ha : ∀ h, AR P h t [v] d) : EmbOK P W t [v] d := by
  intro ρ h hr hn
  refine ⟨ρ, h, [v], Ren.le_refl ρ, Grow.refl h, hr, hn, ⟨rfl, fun i a b e1 e2 => ?_⟩, ha h⟩
  rw [e1] at e2; cases e2
  cases i with
  | zero => simp at e1; subst e1; exact VR.scalar_refl hp
  | succ i => simp at e1
theorem rel_row {ρ : Ren} {h : H} {b d : Nat} {cs : List Value} {cc : Array Value} {el : TypeId} {fz : Nat × Nat} (r : Rel ρ h W) (hn : NoOwn h) (hb : W.heap[b]? = some (.cells cc el fz)) (hl : d + cs.length ≤ cc.size)
    (hv : ∀ (k : Nat) (v v' : Value), cs[k]? = some v → cc[d + k]? = some v' → VR ρ v v') :
    ρ.le (ρ.add h.size (b, d) (0, 0)) ∧ Grow h (h.push (.row cs false 0)) ∧ Rel (ρ.add h.size (b, d) (0, 0)) (h.push (.row cs false 0)) W ∧ NoOwn (h.push (.row cs false 0)) := by
  have hle := Ren.le_add (p := (b, d)) (l := (0, 0)) r.fresh
  have hbl : b < W.heap.size := (Array.getElem?_eq_some_iff.1 hb).1
  have hn' : NoOwn (h.push (.row cs false 0)) := fun i => by
    rw [H.at_push]
    split
    · rfl
    · exact hn i
  refine ⟨hle, (Grow.refl h).push _, ⟨fun i b' d' e => ?_, fun i b' d' e => ?_, fun i j b' d' d2 _ _ ho => by rw [hn' i] at ho; cases ho⟩, hn'⟩
  · rw [H.size_push]
    by_cases hi : i = h.size
    · subst hi; rw [Ren.add_same] at e; cases e; exact ⟨by omega, hbl⟩
    · rw [(Ren.add_old hi).1] at e
      have := r.dom i b' d' e
      exact ⟨by omega, this.2⟩
  · by_cases hi : i = h.size
    · subst hi
      rw [Ren.add_same] at e; cases e
      rw [H.at_push, if_pos rfl]
      exact ⟨cc, el, fz, hb, (fun z => by cases z), hl, fun k v v' e1 e2 => (hv k v v' e1 e2).mono hle⟩
    · rw [(Ren.add_old hi).1] at e
      rw [H.at_push, if_neg hi, (Ren.add_old hi).2]
      exact (r.obj i b' d' e).mono hle
theorem elem_cells {a : Addr} {sz len : Nat} {css : Nat → List Value} (hsz : 1 ≤ sz) (h0 : ∃ cs, W.cells? 0 a sz = some cs) (hc : ∀ i, i < len → W.cells? 0 (a.add (i * sz)) sz = some (css i)) :
    a.spot = none ∧ ∃ c el fz, W.heap[a.block]? = some (.cells c el fz) ∧ a.off + len * sz ≤ c.size ∧ ∀ i j, i < len → j < sz → ∃ v, c[a.off + (i * sz + j)]? = some v ∧ (css i)[j]? = some v := by
  obtain ⟨cs0, h0⟩ := h0
  obtain ⟨_, q1, c, el, fz, q2, q3⟩ := cells_get h0 hsz
  have key : ∀ i j, i < len → j < sz → ∃ v, c[a.off + (i * sz + j)]? = some v ∧ (css i)[j]? = some v := by
    intro i j hi hj
    obtain ⟨_, p1, c', el', fz', p2, p3⟩ := cells_get (hc i hi) hsz
    obtain ⟨v, e1, e2⟩ := p3 j hj
    have hblk : (a.add (i * sz)).block = a.block := by unfold Addr.add; split <;> rfl
    have hoff : (a.add (i * sz)).off = a.off + i * sz := by
      unfold Addr.add
      split
      · rename_i z; rw [z]; rfl
      · rfl
    rw [hblk, q2] at p2
    cases p2
    rw [hoff] at e1
    exact ⟨v, by rw [← Nat.add_assoc]; exact e1, e2⟩
  refine ⟨q1, c, el, fz, q2, ?_, key⟩
  cases len with
  | zero =>
    obtain ⟨v, e, _⟩ := q3 0 (by omega)
    have := (Array.getElem?_eq_some_iff.1 e).1
    simp at this ⊢; omega
  | succ len =>
    obtain ⟨v, e, _⟩ := key len (sz - 1) (by omega) (by omega)
    have := (Array.getElem?_eq_some_iff.1 e).1
    rw [Nat.succ_mul]; omega
theorem contig_get {P : Program} : ∀ (fs : List Field) (o n : Nat), contig P fs o n = true → o + (fs.map fun f => P.cellsOf f.type).sum = n ∧ ∀ i f, fs[i]? = some f → f.offset = o + ((fs.take i).map fun f => P.cellsOf f.type).sum := by
  intro fs
  induction fs with
  | nil => intro o n h; unfold contig at h; exact ⟨by simpa using Nat.eq_of_beq_eq_true h, fun i f e => by simp at e⟩
  | cons g fs ih =>
    intro o n h
    unfold contig at h
    rw [Bool.and_eq_true] at h
    obtain ⟨h1, h2⟩ := ih _ _ h.2
    have h0 := Nat.eq_of_beq_eq_true h.1
    refine ⟨by simp; omega, fun i f e => ?_⟩
    cases i with
    | zero => simp at e; subst e; simpa using h0
    | succ i => have := h2 i f (by simpa using e); simp only [List.take_succ_cons, List.map_cons, List.sum_cons]; omega
theorem flat_segs {P : Program} {cs : List Value} : ∀ (fs : List Field) (o : Nat), contig P fs o cs.length = true → cs.drop o = fs.flatMap fun (f : Field) => (cs.drop f.offset).take (P.cellsOf f.type) := by
  intro fs
  induction fs with
  | nil => intro o h; unfold contig at h; rw [Nat.eq_of_beq_eq_true h]; simp
  | cons g fs ih =>
    intro o h
    unfold contig at h
    rw [Bool.and_eq_true] at h
    have h0 := Nat.eq_of_beq_eq_true h.1
    rw [List.flatMap_cons, ← ih _ h.2, h0, ← List.drop_drop, List.take_append_drop]
theorem LR.app {ρ : Ren} {a b c d : List Value} (h : LR ρ a b) (g : LR ρ c d) : LR ρ (a ++ c) (b ++ d) := by
  refine ⟨by simp [h.1, g.1], fun i v v' e1 e2 => ?_⟩
  rcases Nat.lt_or_ge i a.length with q | q
  · rw [List.getElem?_append_left q] at e1
    rw [List.getElem?_append_left (by rw [← h.1]; exact q)] at e2
    exact h.2 i v v' e1 e2
  · rw [List.getElem?_append_right q] at e1
    rw [List.getElem?_append_right (by rw [← h.1]; exact q), ← h.1] at e2
    exact g.2 _ v v' e1 e2
theorem LR.flat {ρ : Ren} {α β : Type} {f : α → List Value} {g : β → List Value} : ∀ (xs : List α) (ys : List β), xs.length = ys.length → (∀ (i : Nat) (x : α) (y : β), xs[i]? = some x → ys[i]? = some y → LR ρ (f x) (g y)) → LR ρ (xs.flatMap f) (ys.flatMap g) := by
  intro xs
  induction xs with
  | nil => intro ys hl _; cases ys with
    | nil => exact ⟨rfl, fun i v v' e => by simp at e⟩
    | cons y ys => cases hl
  | cons x xs ih =>
    intro ys hl h
    cases ys with
    | nil => cases hl
    | cons y ys =>
      rw [List.flatMap_cons, List.flatMap_cons]
      exact (h 0 x y rfl rfl).app (ih ys (by simpa using hl) fun i a b e1 e2 => h (i + 1) a b (by simpa using e1) (by simpa using e2))
theorem LR.single {ρ : Ren} {v v' : Value} (h : VR ρ v v') : LR ρ [v] [v'] := ⟨rfl, fun i a b e1 e2 => by
  cases i with
  | zero => simp at e1 e2; subst e1 e2; exact h
  | succ i => simp at e1⟩
theorem emb {enc : TypeId × Value → E} : ∀ (fuel : Nat) (t : TypeId) (cs : List Value) (d : DataW E) (ps : List MemPlace) (gf : Nat), goodTy P gf t = true → DataW.trod enc P W 0 (fun _ => true) true fuel t cs = some (d, ps) → EmbOK P W t cs d := by
  intro fuel
  induction fuel with
  | zero => intro t cs d ps gf _ h; unfold DataW.trod at h; cases h
  | succ fuel ih =>
    intro t cs d ps gf hg h
    cases gf with
    | zero => unfold goodTy at hg; cases hg
    | succ gf =>
    unfold goodTy at hg
    unfold DataW.trod at h
    cases hu : P.underlying t with
    | none => rw [hu] at hg; cases hg
    | some u =>
      rw [hu] at hg h
      cases u with
      | bool =>
        split at h <;> try (first | (cases h; done) | (have hx := ‹some TypeDesc.bool = some _›; cases hx; done))
        cases h
        exact emb_plain rfl fun h => .bool hu
      | int k =>
        split at h <;> try (first | (cases h; done) | (have hx := ‹some (TypeDesc.int k) = some _›; cases hx; done))
        rename_i hk
        cases hk
        split at h
        · rename_i hw
          cases h
          obtain ⟨rfl, hw⟩ := hw
          exact emb_plain rfl fun h => .int hu hw
        · cases h
      | string =>
        split at h <;> try (first | (cases h; done) | (have hx := ‹some TypeDesc.string = some _›; cases hx; done))
        split at h
        · rename_i hw
          cases h
          exact emb_plain rfl fun h => .string hu hw
        · cases h
      | slice e =>
        rw [Bool.and_eq_true] at hg
        have hsz := Nat.le_of_ble_eq_true hg.2
        split at h <;> try (first | (cases h; done) | (have hx := ‹some (TypeDesc.slice e) = some _›; cases hx; done))
        · cases h
          exact emb_plain rfl fun h => .nil hu
        · rename_i e' a len cap he
          cases he
          dsimp only at h
          split at h
          · rename_i hc
            obtain ⟨-, hlc, hcm⟩ := hc
            rw [Option.bind_eq_some_iff] at h
            obtain ⟨elems, e1, h⟩ := h
            rw [if_pos rfl, Option.map_eq_some_iff] at h
            obtain ⟨rest, e2, h⟩ := h
            cases h
            obtain ⟨l1, g1⟩ := mapM_get e1
            obtain ⟨l2, g2⟩ := mapM_get e2
            rw [List.length_range] at l1 l2
            by_cases hcap : cap = 0
            · subst hcap
              have hlen : len = 0 := by omega
              subst hlen
              cases elems with
              | cons _ _ => simp at l1
              | nil =>
                cases rest with
                | cons _ _ => simp at l2
                | nil =>
                  intro ρ h hr hn
                  exact ⟨ρ, h, _, Ren.le_refl ρ, Grow.refl h, hr, hn, LR.single (.sliceD a), .empty hu⟩
            · have hel : ∀ i, i < len → ∃ cs x, W.cells? 0 (a.add (i * P.cellsOf e)) (P.cellsOf e) = some cs ∧ DataW.trod enc P W 0 (fun _ => true) true fuel e cs = some x ∧ elems[i]? = some x := by
                intro i hi
                have hx : i < elems.length := by omega
                have := g1 i i elems[i] (by simp [hi]) (by simp [hx])
                rw [Option.bind_eq_some_iff] at this
                obtain ⟨cs, q1, q2⟩ := this
                exact ⟨cs, _, q1, q2, by simp [hx]⟩
              have h0 : ∃ cs, W.cells? 0 a (P.cellsOf e) = some cs := by
                have ha : a.add (0 * P.cellsOf e) = a := by rw [Nat.zero_mul]; unfold Addr.add; rw [if_pos rfl]
                rcases Nat.eq_zero_or_pos len with hl | hl
                · subst hl
                  have hx : 0 < rest.length := by omega
                  have := g2 0 0 rest[0] (by rw [List.getElem?_range (by omega)]) (by simp [hx])
                  rw [Option.bind_eq_some_iff] at this
                  obtain ⟨cs, q1, q2⟩ := this
                  rw [Nat.add_zero, ha] at q1
                  exact ⟨cs, q1⟩
                · obtain ⟨cs, _, q, _⟩ := hel 0 hl
                  rw [ha] at q
                  exact ⟨cs, q⟩
              have hcs : ∀ i, i < len → W.cells? 0 (a.add (i * P.cellsOf e)) (P.cellsOf e) = some ((W.cells? 0 (a.add (i * P.cellsOf e)) (P.cellsOf e)).getD []) := by
                intro i hi
                obtain ⟨cs, _, q, _⟩ := hel i hi
                rw [q]; rfl
              generalize hcss : (fun i => (W.cells? 0 (a.add (i * P.cellsOf e)) (P.cellsOf e)).getD []) = css
              have hcs : ∀ i, i < len → W.cells? 0 (a.add (i * P.cellsOf e)) (P.cellsOf e) = some (css i) := fun i hi => by rw [← hcss]; exact hcs i hi
              obtain ⟨hsp, c, el, fz, hb, hlim, hcell⟩ := elem_cells hsz h0 hcs
              have hlg : ∀ i y, ((List.range len).map fun i => (e, css i, ((elems[i]?).map (·.1)).getD .nil))[i]? = some y → i < len ∧ y = (e, css i, ((elems[i]?).map (·.1)).getD .nil) := by
                intro i y hy
                rw [List.getElem?_map] at hy
                rcases Nat.lt_or_ge i len with q | q
                · rw [List.getElem?_range q] at hy
                  exact ⟨q, (Option.some.inj hy).symm⟩
                · rw [List.getElem?_eq_none (by simpa using q)] at hy; cases hy
              generalize hl : (List.range len).map (fun i => (e, css i, ((elems[i]?).map (·.1)).getD .nil)) = l at hlg
              have hll : l.length = len := by rw [← hl]; simp
              have hm : l.map (·.2.2) = elems.map (·.1) := by
                apply List.ext_getElem?
                intro i
                rw [← hl, List.map_map, List.getElem?_map, List.getElem?_map]
                rcases Nat.lt_or_ge i len with q | q
                · rw [List.getElem?_range q]
                  obtain ⟨_, x, _, _, q2⟩ := hel i q
                  simp [q2]
                · rw [List.getElem?_eq_none (by simpa using q), List.getElem?_eq_none (by omega)]; rfl
              have hlE : ∀ x ∈ l, EmbOK P W x.1 x.2.1 x.2.2 := by
                intro x hx
                obtain ⟨i, hi⟩ := List.getElem?_of_mem hx
                obtain ⟨hi2, rfl⟩ := hlg i x hi
                obtain ⟨cs, y, q1, q2, q3⟩ := hel i hi2
                rw [hcs i hi2] at q1
                cases q1
                rw [q3]
                exact ih e _ _ y.2 gf hg.1 q2
              intro ρ h hr hn
              obtain ⟨ρ1, h1, els, p1, p2, p3, p4, p5, p6, p7⟩ := embList l hlE ρ h hr hn
              have hec : ∀ (i : Nat) (x : List Value × DataW E), els[i]? = some x → i < len ∧ LR ρ1 x.1 (css i) ∧ x.1.length = P.cellsOf e ∧ AR P h1 e x.1 x.2 := by
                intro i x hx
                have hi : i < els.length := (List.getElem?_eq_some_iff.1 hx).1
                have hi2 : i < l.length := by omega
                obtain ⟨q, hy⟩ := hlg i l[i] (by simp [hi2])
                have := p7 i x l[i] hx (by simp [hi2])
                rw [hy] at this
                refine ⟨q, this.1, ?_, this.2⟩
                rw [this.1.1]
                exact (cells_get (hcs i q) hsz).1
              have hsize : ∀ x ∈ els, x.1.length = P.cellsOf e := fun x hx => by
                obtain ⟨i, hi⟩ := List.getElem?_of_mem hx
                exact (hec i x hi).2.2.1
              obtain ⟨r1, r2, r3, r4⟩ := rel_row (cs := els.flatMap (·.1)) p3 p4 hb (by rw [flat_len els hsize, p6, hll]; exact hlim) (by
                intro k v v' k1 k2
                have hk : k < els.length * P.cellsOf e := by
                  rw [← flat_len els hsize]; exact (List.getElem?_eq_some_iff.1 k1).1
                have hd : k / P.cellsOf e * P.cellsOf e + k % P.cellsOf e = k := by rw [Nat.mul_comm]; exact Nat.div_add_mod _ _
                have hj : k % P.cellsOf e < P.cellsOf e := Nat.mod_lt _ hsz
                rw [← hd, flat_get els hsize _ _ hj, Option.bind_eq_some_iff] at k1
                obtain ⟨x, x1, x2⟩ := k1
                obtain ⟨y1, y2, _, _⟩ := hec _ x x1
                obtain ⟨u, z1, z2⟩ := hcell _ _ y1 hj
                rw [hd, k2] at z1
                cases z1
                exact y2.2 _ _ _ x2 z2)
              refine ⟨_, _, [.slice (some ⟨h1.size, 0, none⟩) els.length (2 * cap)], Ren.le_trans p1 r1, p2.trans r2, r3, r4, LR.single ?_, ?_⟩
              · obtain ⟨blk, off, spot⟩ := a
                dsimp only at hsp
                subst hsp
                have hll2 : els.length = len := by omega
                rw [hll2]
                exact VR.slice 0 len (2 * cap) cap (Ren.add_same _ _ _ _) ⟨Nat.le_trans hcm (by decide), by rw [if_pos (by omega)]; omega⟩
              · rw [← hm, ← p5]
                exact .slice hu (by omega) hcm (by rw [H.at_push, if_pos rfl]) hsize fun x hx => by
                  obtain ⟨i, hi⟩ := List.getElem?_of_mem hx
                  exact ((hec i x hi).2.2.2).grow r2
          · cases h
      | struct fs =>
        rw [Bool.and_eq_true] at hg
        dsimp only at h
        split at h
        · rename_i hlen
          rw [Option.map_eq_some_iff] at h
          obtain ⟨xs, e1, h⟩ := h
          cases h
          obtain ⟨l1, g1⟩ := mapM_get e1
          have hlg : ∀ (i : Nat) (y : TypeId × List Value × DataW E), (List.zipWith (fun (f : Field) (x : DataW E × List MemPlace) => (f.type, (cs.drop f.offset).take (P.cellsOf f.type), x.1)) fs.toList xs)[i]? = some y →
              ∃ (f : Field) (x : DataW E × List MemPlace), fs.toList[i]? = some f ∧ xs[i]? = some x ∧ y = (f.type, (cs.drop f.offset).take (P.cellsOf f.type), x.1) := by
            intro i y hy
            rw [List.getElem?_zipWith] at hy
            split at hy
            · rename_i f x hf hx
              exact ⟨f, x, hf, hx, (Option.some.inj hy).symm⟩
            · cases hy
          generalize hl : List.zipWith (fun (f : Field) (x : DataW E × List MemPlace) => (f.type, (cs.drop f.offset).take (P.cellsOf f.type), x.1)) fs.toList xs = l at hlg
          have hll : l.length = fs.toList.length := by rw [← hl, List.length_zipWith, l1]; exact Nat.min_self _
          have hget : ∀ (i : Nat) (f : Field), fs.toList[i]? = some f → ∃ x, xs[i]? = some x ∧ l[i]? = some (f.type, (cs.drop f.offset).take (P.cellsOf f.type), x.1) ∧ DataW.trod enc P W 0 (fun _ => true) true fuel f.type ((cs.drop f.offset).take (P.cellsOf f.type)) = some x := by
            intro i f hf
            have hi : i < xs.length := by rw [l1]; exact (List.getElem?_eq_some_iff.1 hf).1
            have hx : xs[i]? = some xs[i] := by simp [hi]
            refine ⟨xs[i], hx, ?_, g1 i f _ hf hx⟩
            rw [← hl, List.getElem?_zipWith, hf, hx]
          have hm : l.map (·.2.2) = xs.map (·.1) := by
            apply List.ext_getElem?
            intro i
            rw [List.getElem?_map, List.getElem?_map]
            cases hf : fs.toList[i]? with
            | some f =>
              obtain ⟨x, q1, q2, _⟩ := hget i f hf
              rw [q1, q2]; rfl
            | none =>
              have := List.getElem?_eq_none_iff.1 hf
              rw [List.getElem?_eq_none (by omega), List.getElem?_eq_none (by omega)]; rfl
          have hlE : ∀ x ∈ l, EmbOK P W x.1 x.2.1 x.2.2 := by
            intro y hy
            obtain ⟨i, hi⟩ := List.getElem?_of_mem hy
            obtain ⟨f, x, hf, hx, rfl⟩ := hlg i y hi
            have hgf := (List.all_eq_true.1 hg.1) f (List.mem_of_getElem? hf)
            exact ih f.type _ _ x.2 gf hgf (g1 i f x hf hx)
          have hseg : cs = l.flatMap (·.2.1) := by
            have := flat_segs (P := P) (cs := cs) fs.toList 0 (by rw [hlen]; exact hg.2)
            rw [List.drop_zero] at this
            have h3 : l.map (·.2.1) = fs.toList.map fun (f : Field) => (cs.drop f.offset).take (P.cellsOf f.type) := by
              apply List.ext_getElem?
              intro i
              rw [List.getElem?_map, List.getElem?_map]
              cases hf : fs.toList[i]? with
              | some f =>
                obtain ⟨x, q1, q2, _⟩ := hget i f hf
                rw [q2]; rfl
              | none =>
                have := List.getElem?_eq_none_iff.1 hf
                rw [List.getElem?_eq_none (by omega)]; rfl
            rw [List.flatMap_def, h3, ← List.flatMap_def]
            exact this
          intro ρ h hr hn
          obtain ⟨ρ1, h1, els, p1, p2, p3, p4, p5, p6, p7⟩ := embList l hlE ρ h hr hn
          have hlr : LR ρ1 (els.flatMap (·.1)) cs := by
            rw [hseg]
            exact LR.flat els l p6 fun i x y e1 e2 => (p7 i x y e1 e2).1
          refine ⟨ρ1, h1, els.flatMap (·.1), p1, p2, p3, p4, hlr, ?_⟩
          rw [← hm, ← p5]
          refine .struct hu (by omega) (fun i x f hx hf => ?_) fun i x f hx hf => ?_
          · obtain ⟨y, q1, q2, _⟩ := hget i f hf
            rw [(p7 i x _ hx q2).1.1]
            have hmem : contig P fs.toList 0 cs.length = true := by rw [hlen]; exact hg.2
            obtain ⟨c1, c2⟩ := contig_get _ _ _ hmem
            have c3 := c2 i f hf
            have hi := (List.getElem?_eq_some_iff.1 hf).1
            have c4 : ((fs.toList.take i).map fun f => P.cellsOf f.type).sum + P.cellsOf f.type + ((fs.toList.drop (i + 1)).map fun f => P.cellsOf f.type).sum = (fs.toList.map fun f => P.cellsOf f.type).sum := by
              have : fs.toList = fs.toList.take i ++ f :: fs.toList.drop (i + 1) := by
                have h5 : fs.toList[i] = f := (List.getElem?_eq_some_iff.1 hf).2
                rw [← h5, List.getElem_cons_drop, List.take_append_drop]
              conv => rhs; rw [this]
              simp only [List.map_append, List.map_cons, List.sum_append, List.sum_cons]
              omega
            dsimp only
            rw [List.length_take, List.length_drop]
            omega
          · obtain ⟨y, q1, q2, _⟩ := hget i f hf
            exact (p7 i x _ hx q2).2
        · cases h
      | _ => cases hg
end Go.Abs
end
end
