/- The abstract interpreter, 4: new objects, stores, slices of slices. -/
import Derived.Test.YtcnahmgekicbdaaGreatAbs3
noncomputable section
namespace Go.Abs

/-! ### Lists of values -/
def LR (ρ : Ren) (xs ys : List Value) : Prop := xs.length = ys.length ∧ ∀ (i : Nat) (v v' : Value), xs[i]? = some v → ys[i]? = some v' → VR ρ v v'

theorem LR.mono {ρ ρ' : Ren} (hr : ρ.le ρ') {xs ys : List Value} (h : LR ρ xs ys) : LR ρ' xs ys := ⟨h.1, fun i v v' a b => (h.2 i v v' a b).mono hr⟩
theorem VRs.list {ρ : Ren} {xs ys : Array Value} (h : VRs ρ xs ys) : LR ρ xs.toList ys.toList := ⟨by simpa using h.1, fun i v v' a b => h.2 i v v' (by simpa using a) (by simpa using b)⟩
theorem LR.arr {ρ : Ren} {xs ys : List Value} (h : LR ρ xs ys) : VRs ρ xs.toArray ys.toArray := ⟨by simpa using h.1, fun i v v' a b => h.2 i v v' (by simpa using a) (by simpa using b)⟩
theorem LR.nil {ρ : Ren} : LR ρ [] [] := ⟨rfl, fun i v v' a => by simp at a⟩
theorem LR.append {ρ : Ren} {xs ys xs' ys' : List Value} (h : LR ρ xs xs') (k : LR ρ ys ys') : LR ρ (xs ++ ys) (xs' ++ ys') := by
  refine ⟨by simp [h.1, k.1], fun i v v' a b => ?_⟩
  rw [List.getElem?_append] at a b
  by_cases hi : i < xs.length
  · rw [if_pos hi] at a; rw [if_pos (by rw [← h.1]; exact hi)] at b; exact h.2 i v v' a b
  · rw [if_neg hi] at a; rw [if_neg (by rw [← h.1]; exact hi), ← h.1] at b; exact k.2 _ v v' a b
theorem LR.take {ρ : Ren} {xs xs' : List Value} (h : LR ρ xs xs') (n : Nat) : LR ρ (xs.take n) (xs'.take n) := by
  refine ⟨by simp [h.1], fun i v v' a b => ?_⟩
  rw [List.getElem?_take] at a b
  by_cases hi : i < n
  · rw [if_pos hi] at a b; exact h.2 i v v' a b
  · rw [if_neg hi] at a; cases a
theorem LR.drop {ρ : Ren} {xs xs' : List Value} (h : LR ρ xs xs') (n : Nat) : LR ρ (xs.drop n) (xs'.drop n) := by
  refine ⟨by simp [h.1], fun i v v' a b => ?_⟩
  rw [List.getElem?_drop] at a b
  exact h.2 _ v v' a b
theorem LR.cons {ρ : Ren} {x x' : Value} {xs xs' : List Value} (hx : VR ρ x x') (h : LR ρ xs xs') : LR ρ (x :: xs) (x' :: xs') := by
  refine ⟨by simp [h.1], fun i v v' a b => ?_⟩
  cases i with
  | zero => simp at a b; subst a b; exact hx
  | succ i => simp at a b; exact h.2 i v v' a b
theorem LR.scalar {ρ : Ren} {xs : List Value} (h : xs.all scalar = true) : LR ρ xs xs := by
  refine ⟨rfl, fun i v v' a b => ?_⟩
  rw [a] at b; cases b
  rw [List.all_eq_true] at h
  exact VR.scalar_refl (h v (List.mem_of_getElem? a))

/-- The places from o on written over. -/
def splice (cs : List Value) (o : Nat) (vs : List Value) : List Value := cs.take o ++ vs ++ cs.drop (o + vs.length)
theorem LR.splice {ρ : Ren} {cs cs' vs vs' : List Value} (h : LR ρ cs cs') (k : LR ρ vs vs') (o : Nat) : LR ρ (splice cs o vs) (splice cs' o vs') := by
  unfold Abs.splice; rw [k.1]; exact ((h.take o).append k).append (h.drop _)
theorem splice_length {cs vs : List Value} {o : Nat} (h : o + vs.length ≤ cs.length) : (splice cs o vs).length = cs.length := by
  simp [splice]; omega

/-! ### The effect 'a new row' -/
variable {P : Program} {ρ : Ren} {h : H} {w : World}

def freshPtr (h : H) : Value := .pointer (some ⟨h.size, 0, none⟩)

def World.push (w : World) (o : Obj) : World := { w with heap := w.heap.push o }
theorem same_push (o : Obj) : Same w (World.push w o) := ⟨rfl, rfl, rfl⟩
theorem push_at (o : Obj) : (World.push w o).heap[w.heap.size]? = some o := by
  show (w.heap.push o)[w.heap.size]? = some o
  rw [Array.getElem?_push, if_pos rfl]

/-- A real row may be longer than the abstract one. -/
theorem real_row (r : Rel ρ h w) {cs : List Value} {cs' : Array Value} {e : TypeId} {rest : List Value} (sz : Nat) (hv : LR ρ cs rest) (hc : ∃ t, cs'.toList = rest ++ t) :
    (Eff.new (.row cs true sz)).real ρ h w (ρ.add h.size (w.heap.size, 0) (cs'.size, sz)) (World.push w (.cells cs' e)) := by
  refine ⟨_, rfl, ⟨_, rfl⟩, cs', e, (0, 0), push_at _, fun _ => ⟨rfl, fun _ => rfl⟩, ?_, fun k v v' a b => ?_⟩
  · obtain ⟨t, ht⟩ := hc
    have : cs'.size = (rest ++ t).length := by rw [← ht]; simp
    rw [this]; simp [hv.1]
  · obtain ⟨t, ht⟩ := hc
    rw [← Array.getElem?_toList, ht, Nat.zero_add] at b
    have hlt : k < rest.length := by
      rw [← hv.1]
      rcases Nat.lt_or_ge k cs.length with hh | hh
      · exact hh
      · rw [List.getElem?_eq_none hh] at a; cases a
    rw [List.getElem?_append_left hlt] at b
    exact (hv.2 k v v' a b).mono (Ren.le_add r.fresh)

theorem fresh_ptr (w : World) (l : Nat × Nat) : VR (ρ.add h.size (w.heap.size, 0) l) (freshPtr h) (.pointer (some ⟨w.heap.size, 0, none⟩)) :=
  .ptr 0 (Ren.add_same ρ h.size _ _)

theorem box_sound (r : Rel ρ h w) {v v' : Value} (e : TypeId) (hv : VR ρ v v') :
    OpOK P ρ h w (do pure (.value (← Instr.box e v'))) (.val (freshPtr h)) (.new (.row v.cells.toList true 0)) :=
  ⟨_, World.push w (.cells v'.cells e), same_push _, real_row r 0 hv.cells.list ⟨[], by simp⟩, _, fresh_ptr w _, by simp [Instr.box, newVar, newRow]; rfl⟩

def zeroP (P : Program) (t : TypeId) : Option Value :=
  match (P.info? t).bind (·.zero) with
  | some z => bif z.cells.toList.all scalar && plain z then some z else none
  | none => none
theorem zeroP_spec {t : TypeId} {z : Value} (hz : zeroP P t = some z) : (∀ w, (zeroValue t).run P w = .ok z w) ∧ z.cells.toList.all scalar = true ∧ plain z = true := by
  unfold zeroP at hz
  cases e : P.info? t with
  | none => simp [e] at hz
  | some i =>
    cases e2 : i.zero with
    | none => simp [e, e2] at hz
    | some z0 =>
      simp only [e, e2, Option.bind_some] at hz
      cases hc : (z0.cells.toList.all scalar && plain z0) <;> rw [hc] at hz <;> simp at hz
      subst hz
      rw [Bool.and_eq_true] at hc
      exact ⟨fun w => by simp [zeroValue, typeInfo, e, e2], hc.1, hc.2⟩

theorem alloc_sound (r : Rel ρ h w) {t : TypeId} {z : Value} (hz : zeroP P t = some z) :
    OpOK P ρ h w (do pure (.value (← Instr.alloc t true (.tuple #[])))) (.val (freshPtr h)) (.new (.row z.cells.toList true 0)) := by
  obtain ⟨h1, h2, _⟩ := zeroP_spec hz
  refine ⟨_, World.push w (.cells z.cells t), same_push _, real_row r 0 (LR.scalar h2) ⟨[], by simp⟩, _, fresh_ptr w _, ?_⟩
  simp [Instr.alloc, newVar, newRow, h1]; rfl

/-! ### Built values -/
def afill (place : Nat → Option (Nat × Nat)) (cs : List Value) : List (Nat × Value) → Option (List Value)
  | [] => some cs
  | (i, v) :: rest =>
    match place i with
    | some (off, size) => bif Nat.beq v.cells.toList.length size && Nat.ble (off + v.cells.toList.length) cs.length then afill place (splice cs off v.cells.toList) rest else none
    | none => none

theorem foldl_set (off : Nat) : ∀ (vs : List Value) (k : Nat) (cs : Array Value), off + k + vs.length ≤ cs.size →
    ((vs.zipIdx k).foldl (fun (cs : Array Value) (x : Value × Nat) => cs.setIfInBounds (off + x.2) x.1) cs).toList = splice cs.toList (off + k) vs := by
  intro vs
  induction vs with
  | nil => intro k cs _; simp [splice]
  | cons v vs ih =>
    intro k cs hl
    simp only [List.length_cons] at hl
    rw [List.zipIdx_cons, List.foldl_cons, ih (k + 1) _ (by simp; omega)]
    apply List.ext_getElem?
    intro i
    simp only [splice, Array.toList_setIfInBounds, List.append_assoc, List.length_cons, List.getElem?_append, List.getElem?_take, List.length_take, List.length_set, Array.length_toList, List.getElem?_drop, List.getElem?_cons]
    by_cases h1 : i < off + k
    · have : i < min (off + (k + 1)) cs.size := by omega
      have h3 : i < min (off + k) cs.size := by omega
      have h4 : off + k ≠ i := by omega
      have h5 : i < off + (k + 1) := by omega
      simp [this, h3, h1, h4, h5]
    · by_cases h2 : i = off + k
      · subst h2
        have : off + k < min (off + (k + 1)) cs.size := by omega
        have h3 : ¬ off + k < min (off + k) cs.size := by omega
        have h5 : off + k < off + (k + 1) := by omega
        have h6 : off + k < cs.size := by omega
        have h7 : off + k - min (off + k) cs.size = 0 := by omega
        simp [this, h3, h5, h6, h7]
      · have h3 : ¬ i < min (off + (k + 1)) cs.size := by omega
        have h4 : ¬ i < min (off + k) cs.size := by omega
        have e1 : min (off + (k + 1)) cs.size = off + (k + 1) := by omega
        have e2 : min (off + k) cs.size = off + k := by omega
        have e3 : i - (off + k) = (i - (off + (k + 1))) + 1 := by omega
        rw [if_neg h3, if_neg h4, e1, e2, e3]
        by_cases h7 : i - (off + (k + 1)) < vs.length
        · have : i - (off + (k + 1)) + 1 < vs.length + 1 := by omega
          simp [h7]
        · simp only [h7, if_false]
          have h8 : ¬ (i - (off + (k + 1)) + 1 < vs.length + 1) := by omega
          simp only [h8, if_false]
          rw [List.getElem?_set_ne (by omega)]
          congr 1
          omega

theorem fill_sound (place : Nat → Option (Nat × Nat)) : ∀ (ps : List (Nat × Value)) (ps' : List (Nat × Value)) (cs : List Value) (cs' : Array Value) (out : List Value),
    ps.length = ps'.length → (∀ (i : Nat) p p', ps[i]? = some p → ps'[i]? = some p' → p'.1 = p.1 ∧ VR ρ p.2 p'.2) → LR ρ cs cs'.toList → afill place cs ps = some out →
    ∃ out', Instr.fill place cs' ps' = some out' ∧ LR ρ out out'.toList := by
  intro ps
  induction ps with
  | nil =>
    intro ps' cs cs' out hl _ hc ha
    cases ps' with
    | nil => simp only [afill, Option.some.injEq] at ha; subst ha; exact ⟨cs', rfl, hc⟩
    | cons p ps' => simp at hl
  | cons p ps ih =>
    intro ps' cs cs' out hl hp hc ha
    cases ps' with
    | nil => simp at hl
    | cons p' ps' =>
      obtain ⟨i, v⟩ := p
      obtain ⟨i', v'⟩ := p'
      obtain ⟨h1, h2⟩ := hp 0 _ _ rfl rfl
      simp only at h1 h2
      subst h1
      simp only [afill] at ha
      split at ha
      · rename_i off size hpl
        cases hb : (Nat.beq v.cells.toList.length size && Nat.ble (off + v.cells.toList.length) cs.length) <;> rw [hb] at ha <;> simp at ha
        rw [Bool.and_eq_true] at hb
        obtain ⟨hb1, hb2⟩ := hb
        have hb1 := Nat.eq_of_beq_eq_true hb1
        have hb2 := Nat.le_of_ble_eq_true hb2
        have hvc := h2.cells
        have hl1 : v.cells.toList.length = v'.cells.toList.length := by simpa using hvc.1
        have hl2 : cs.length = cs'.size := by simpa using hc.1
        have e := foldl_set off v'.cells.toList 0 cs' (by omega)
        have e' : (v'.cells.zipIdx.foldl (fun (cs : Array Value) (x : Value × Nat) => cs.setIfInBounds (off + x.2) x.1) cs').toList = splice cs'.toList off v'.cells.toList := by
          rw [← Array.foldl_toList, Array.toList_zipIdx]; exact e
        obtain ⟨out', o1, o2⟩ := ih ps' (splice cs off v.cells.toList) (v'.cells.zipIdx.foldl (fun (cs : Array Value) (x : Value × Nat) => cs.setIfInBounds (off + x.2) x.1) cs') out
          (by simpa using hl) (fun j q q' a b => hp (j + 1) q q' (by simpa using a) (by simpa using b)) (by rw [e']; exact hc.splice hvc.list off) (by simpa using ha)
        refine ⟨out', ?_, o2⟩
        have n1 : ¬ (v'.cells.size ≠ size) := by simp at hl1 hb1; omega
        have n2 : ¬ (off + v'.cells.size > cs'.size) := by simp at hl1 hb2; omega
        simp only [Instr.fill, hpl]
        rw [if_neg (by simp at n1 n2 ⊢; omega)]
        exact o1
      · cases ha

def placesP (P : Program) : List Field → Option (List (Nat × Nat))
  | [] => some []
  | f :: fs => match sizeP P f.type, placesP P fs with
    | some n, some r => some ((f.offset, n) :: r)
    | _, _ => none

theorem places_sound : ∀ (fs : List Field) (pl : List (Nat × Nat)), placesP P fs = some pl → (fs.mapM fun f => (do pure (f.offset, ← sizeOf f.type) : Sem (Nat × Nat))).run P w = .ok pl w := by
  intro fs
  induction fs with
  | nil => intro pl hp; simp only [placesP, Option.some.injEq] at hp; subst hp; rfl
  | cons f fs ih =>
    intro pl hp
    simp only [placesP] at hp
    split at hp
    · rename_i n r e1 e2
      simp only [Option.some.injEq] at hp
      subst hp
      have := ih r e2
      rw [List.mapM_cons]
      simp only [Sem.run_bind, run_sizeOf e1, Result.andThen_ok, this, Sem.run_pure]
    · cases hp

def abuild (P : Program) (t : TypeId) (ps : List (Nat × Value)) : Option Value :=
  match zeroP P t, P.underlying t with
  | some z, some (.struct fs) => match placesP P fs.toList with
    | some pl => (afill (fun i => pl[i]?) z.cells.toList ps).map fun cs => .agg cs.toArray
    | none => none
  | some z, some (.array _ e) => match sizeP P e with
    | some n => (afill (fun i => some (i * n, n)) z.cells.toList ps).map fun cs => .agg cs.toArray
    | none => none
  | _, _ => none

theorem build_sound {t : TypeId} {ps ps' : List (Nat × Value)} {x : Value} (hl : ps.length = ps'.length) (hp : ∀ (i : Nat) p p', ps[i]? = some p → ps'[i]? = some p' → p'.1 = p.1 ∧ VR ρ p.2 p'.2)
    (ha : abuild P t ps = some x) : ∃ x', VR ρ x x' ∧ (Instr.build t ps'.toArray).run P w = .ok x' w := by
  unfold abuild at ha
  split at ha
  · rename_i z fs hz hu
    obtain ⟨h1, h2, _⟩ := zeroP_spec hz
    split at ha
    · rename_i pl hpl
      cases hf : afill (fun i => pl[i]?) z.cells.toList ps with
      | none => rw [hf] at ha; simp at ha
      | some out =>
        rw [hf] at ha; simp only [Option.map_some, Option.some.injEq] at ha
        subst ha
        obtain ⟨out', o1, o2⟩ := fill_sound (fun i => pl[i]?) ps ps' z.cells.toList z.cells out hl hp (LR.scalar h2) hf
        refine ⟨.agg out', ?_, ?_⟩
        · have := o2.arr; exact .agg _ _ (by simpa using this.1) (by simpa using this.2)
        · have hm := places_sound (w := w) fs.toList pl hpl
          have e : (fun i => pl.toArray[i]?) = fun i : Nat => pl[i]? := by funext i; simp
          simp only [Instr.build, Sem.run_bind, h1, Result.andThen_ok, run_underlying hu]
          rw [Array.mapM_eq_mapM_toList]
          simp only [Sem.run_map, hm, Result.andThen_ok]
          rw [e, o1]
          simp
    · cases ha
  · rename_i z k e hz hu
    obtain ⟨h1, h2, _⟩ := zeroP_spec hz
    split at ha
    · rename_i n hn
      cases hf : afill (fun i => some (i * n, n)) z.cells.toList ps with
      | none => rw [hf] at ha; simp at ha
      | some out =>
        rw [hf] at ha; simp only [Option.map_some, Option.some.injEq] at ha
        subst ha
        obtain ⟨out', o1, o2⟩ := fill_sound (fun i => some (i * n, n)) ps ps' z.cells.toList z.cells out hl hp (LR.scalar h2) hf
        refine ⟨.agg out', ?_, ?_⟩
        · have := o2.arr; exact .agg _ _ (by simpa using this.1) (by simpa using this.2)
        · simp only [Instr.build, Sem.run_bind, h1, Result.andThen_ok, run_underlying hu, run_sizeOf hn]
          rw [o1]
          simp
    · cases ha
  · cases ha

end Go.Abs
