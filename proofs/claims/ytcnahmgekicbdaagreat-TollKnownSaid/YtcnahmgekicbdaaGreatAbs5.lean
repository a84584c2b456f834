/- The abstract interpreter, 5: stores; slices: reslicing, append, copy, clear, len, make, literals. -/
import Derived.Test.YtcnahmgekicbdaaGreatAbs4
noncomputable section
namespace Go.Abs
variable {P : Program} {ρ : Ren} {h : H} {w : World}

theorem VR.oneCell {v v' : Value} (hv : VR ρ v v') (h : v.oneCell' = true) : v'.oneCell' = true := by cases hv <;> simp_all [Value.oneCell']

theorem LR.oneCell {xs ys : List Value} (hv : LR ρ xs ys) (h : xs.all Value.oneCell' = true) : ∀ v ∈ ys, v.oneCell' = true := by
  intro v hm
  obtain ⟨i, hi⟩ := List.mem_iff_getElem?.1 hm
  have hlt : i < xs.length := by
    rw [hv.1]
    rcases Nat.lt_or_ge i ys.length with hh | hh
    · exact hh
    · rw [List.getElem?_eq_none hh] at hi; cases hi
  rw [List.all_eq_true] at h
  exact (hv.2 i _ v (List.getElem?_eq_getElem hlt) hi).oneCell (h _ (List.getElem_mem hlt))

theorem setRow_other (w : World) (g : Nat) (cs : Array Value) (k : Nat) (hk : k ≠ g) : (w.setRow g cs).heap[k]? = w.heap[k]? := by
  unfold World.setRow
  simp only [Array.getElem?_modify]
  rw [if_neg (fun e => hk e.symm)]
theorem setRow_size (w : World) (g : Nat) (cs : Array Value) : (w.setRow g cs).heap.size = w.heap.size := by simp [World.setRow]
theorem same_setRow (w : World) (g : Nat) (cs : Array Value) : Same w (w.setRow g cs) := ⟨rfl, rfl, rfl⟩
theorem Same.trans {a b c : World} (x : Same a b) (y : Same b c) : Same a c := ⟨y.os.trans x.os, y.tape.trans x.tape, y.output.trans x.output⟩

/-- Cells of an own row written over. -/
theorem write_row {i b d o sz : Nat} {cs vs vs' : List Value} (hi : ρ i = some (b, d)) (hr : ObjR ρ w b d (ρ.lim i) (.row cs true sz)) (hv : LR ρ vs vs')
    (h1 : vs.all Value.oneCell' = true) (hl : o + vs.length ≤ cs.length) :
    ∃ w', (storeCells ⟨b, d + o, none⟩ vs').run P w = .ok () w' ∧ Same w w' ∧ (Eff.upd i (.row (splice cs o vs) true sz)).real ρ h w ρ w' := by
  obtain ⟨cc, el, fz, hw, hfz, hlen, hc⟩ := hr
  obtain ⟨rfl, hlim⟩ := hfz rfl
  have hl' := hv.1
  refine ⟨_, run_storeCells_at (P := P) b (d + o) el vs' 0 cc w hw (by omega) (hv.oneCell h1), same_setRow _ _ _, rfl, b, d, hi, setRow_size _ _ _, fun k hk => setRow_other _ _ _ _ hk, ?_⟩
  have hspl : (cc.toList.take (d + o + 0) ++ vs' ++ cc.toList.drop (d + o + 0 + vs'.length)).toArray.toList = splice cc.toList (d + o) vs' := by simp [splice]
  refine ⟨_, el, (0, 0), setRow_heap w b cc _ el (0, 0) hw, fun _ => ⟨rfl, fun hz => ?_⟩, ?_, fun k v v' a a' => ?_⟩
  · rw [hlim hz]
    congr 1
    rw [← Array.length_toList, ← Array.length_toList, hspl, splice_length (by simp; omega)]
  · have l2 : (splice cc.toList (d + o) vs').length = cc.toList.length := splice_length (by simp; omega)
    rw [splice_length hl, ← Array.length_toList, hspl, l2]; simpa using hlen
  · rw [← Array.getElem?_toList, hspl] at a'
    have hcl : LR ρ cs ((cc.toList.drop d).take cs.length) := by
      refine ⟨by simp; omega, fun k v v' x y => ?_⟩
      rw [List.getElem?_take] at y
      split at y
      · rw [List.getElem?_drop] at y; exact hc k v v' x (by simpa using y)
      · cases y
    have := (hcl.splice hv o).2 k v v' a
    refine this ?_
    have hk : k < cs.length := by
      rw [← splice_length hl]
      rcases Nat.lt_or_ge k (splice cs o vs).length with hh | hh
      · exact hh
      · rw [List.getElem?_eq_none hh] at a; cases a
    rw [← a']
    simp only [splice, List.append_assoc, List.getElem?_append, List.getElem?_take, List.length_take, List.getElem?_drop, List.length_drop, Array.length_toList]
    have e1 : min o (min cs.length (cc.size - d)) = o := by omega
    have e2 : min (d + o) cc.size = d + o := by omega
    rw [e1, e2]
    by_cases k1 : k < o
    · have a1 : d + k < d + o := by omega
      simp [k1, hk, a1]
    · have a1 : ¬ d + k < d + o := by omega
      have e3 : d + k - (d + o) = k - o := by omega
      by_cases k2 : k - o < vs'.length
      · simp [k1, a1, e3, k2]
      · have a2 : k < cs.length := hk
        have e4 : d + (o + vs'.length + (k - o - vs'.length)) = d + o + vs'.length + (k - o - vs'.length) := by omega
        have a3 : o + vs'.length + (k - o - vs'.length) < cs.length := by omega
        simp [k1, a1, e3, k2, a3, e4]

def astore (P : Program) (h : H) (t : TypeId) (a x : Value) : Option Eff :=
  match a, sizeP P t with
  | .pointer (some ⟨i, o, none⟩), some n =>
    match h.at i with
    | .row cs true sz =>
      let vs := x.cells.toList
      bif Nat.beq vs.length n && Nat.ble (o + n) cs.length && vs.all Value.oneCell' then some (.upd i (.row (splice cs o vs) true sz)) else none
    | _ => none
  | _, _ => none

theorem store_sound {t : TypeId} {a a' x x' : Value} {E : Eff} (r : Rel ρ h w) (ha : VR ρ a a') (hx : VR ρ x x') (hs : astore P h t a x = some E) :
    OpOK P ρ h w (do Instr.storeAt t a' x'; pure .skip) .skip E := by
  unfold astore at hs
  split at hs
  · rename_i i o n hn
    cases ha with
    | ptr o hi =>
      rename_i b d
      have ho := r.obj _ _ _ hi
      split at hs
      · rename_i cs sz hat
        rw [hat] at ho
        dsimp only at hs
        cases hc : (Nat.beq x.cells.toList.length n && Nat.ble (o + n) cs.length && x.cells.toList.all Value.oneCell') <;> rw [hc] at hs <;> simp at hs
        subst hs
        rw [Bool.and_eq_true, Bool.and_eq_true] at hc
        obtain ⟨⟨h1, h2⟩, h3⟩ := hc
        have h1 := Nat.eq_of_beq_eq_true h1
        have h2 := Nat.le_of_ble_eq_true h2
        obtain ⟨w', e1, e2, e3⟩ := write_row (P := P) (h := h) (vs := x.cells.toList) (vs' := x'.cells.toList) (o := o) hi ho hx.cells.list h3 (by omega)
        refine ⟨ρ, w', e2, e3, ?_⟩
        have hsz : ¬ (x'.cells.size ≠ n) := by
          have := hx.cells.1
          simp at h1; omega
        show (do Instr.storeAt t (.pointer (some ⟨b, d + o, none⟩)) x'; pure .skip : Sem Next).run P w = .ok .skip w'
        simp only [Instr.storeAt, Instr.sureAddr, storeVar, Sem.run_bind, Sem.run_pure, Result.andThen_ok, run_sizeOf hn]
        rw [if_neg hsz]
        simp [e1]
      · cases hs
  · cases hs

/-! ### Reslicing -/
def natOf : Value → Option Nat
  | .int _ (.ofNat k) => some k
  | _ => none
theorem natOf_spec {v v' : Value} {k : Nat} (hv : VR ρ v v') (h : natOf v = some k) : ∃ q, v' = .int q (k : Int) := by
  unfold natOf at h
  split at h
  · cases h; cases hv; exact ⟨_, rfl⟩
  · cases h

theorem run_sliceBound {q : IntKind} {k y : Nat} {c : BoundsCode} (h : k ≤ y) : (Instr.sliceBound (.int q (k : Int)) y c).run P w = .ok k w := by
  have : (0 : Int) ≤ (k : Int) ∧ (k : Int) ≤ (y : Int) := ⟨Int.natCast_nonneg k, by omega⟩
  simp only [Instr.sliceBound, asIntOf, Sem.run_bind, Sem.run_pure, Result.andThen_ok]
  rw [if_pos this]
  simp

def obN (x : Option Value) (d : Nat) : Option Nat :=
  match x with
  | none => some d
  | some v => natOf v

/-- An operand that may be left out. -/
def OptR (ρ : Ren) : Option Value → Option Value → Prop
  | none, none => True
  | some v, some v' => VR ρ v v'
  | _, _ => False

theorem bounds2 {n c l k : Nat} {lo hi lo' hi' : Option Value} (hl : OptR ρ lo lo') (hh : OptR ρ hi hi') (e1 : obN lo 0 = some l) (e2 : obN hi n = some k) (h1 : l ≤ k) (h2 : k ≤ c) (b : Bool) :
    (Instr.sliceBounds b n c lo' hi' none).run P w = .ok (l, k, c) w := by
  unfold Instr.sliceBounds
  cases hi with
  | none =>
    cases hi' with
    | some _ => exact hh.elim
    | none =>
      simp only [obN, Option.some.injEq] at e2
      subst e2
      cases lo with
      | none =>
        cases lo' with
        | some _ => exact hl.elim
        | none => simp only [obN, Option.some.injEq] at e1; subst e1; rfl
      | some v =>
        cases lo' with
        | none => exact hl.elim
        | some v' =>
          obtain ⟨q, rfl⟩ := natOf_spec hl e1
          simp [run_sliceBound h1]
  | some u =>
    cases hi' with
    | none => exact hh.elim
    | some u' =>
      obtain ⟨q, rfl⟩ := natOf_spec hh e2
      cases lo with
      | none =>
        cases lo' with
        | some _ => exact hl.elim
        | none => simp only [obN, Option.some.injEq] at e1; subst e1; simp [run_sliceBound h2]
      | some v =>
        cases lo' with
        | none => exact hl.elim
        | some v' =>
          obtain ⟨q, rfl⟩ := natOf_spec hl e1
          simp [run_sliceBound h1, run_sliceBound h2]

theorem bounds3 {n c l k m : Nat} {lo hi mx lo' hi' mx' : Option Value} (hl : OptR ρ lo lo') (hh : OptR ρ hi hi') (hm : OptR ρ mx mx') (hs : hi.isSome = true) (hs' : mx.isSome = true) (e1 : obN lo 0 = some l) (e2 : obN hi n = some k) (e3 : obN mx 0 = some m)
    (h1 : l ≤ k) (h2 : k ≤ m) (h3 : m ≤ c) (b : Bool) : (Instr.sliceBounds b n c lo' hi' mx').run P w = .ok (l, k, m) w := by
  unfold Instr.sliceBounds
  cases mx with
  | none => simp at hs'
  | some x =>
    cases mx' with
    | none => exact hm.elim
    | some x' =>
      obtain ⟨q, rfl⟩ := natOf_spec hm e3
      cases hi with
      | none => simp at hs
      | some u =>
        cases hi' with
        | none => exact hh.elim
        | some u' =>
          obtain ⟨q, rfl⟩ := natOf_spec hh e2
          cases lo with
          | none =>
            cases lo' with
            | some _ => exact hl.elim
            | none => simp only [obN, Option.some.injEq] at e1; subst e1; simp [run_sliceBound h2, run_sliceBound h3]
          | some v =>
            cases lo' with
            | none => exact hl.elim
            | some v' =>
              obtain ⟨q, rfl⟩ := natOf_spec hl e1
              simp [run_sliceBound h1, run_sliceBound h2, run_sliceBound h3]

def aslice (P : Program) (h : H) (t : TypeId) (x : Value) (lo hi mx : Option Value) : Option Value :=
  match P.underlying t, x with
  | some (.slice e), .slice none 0 0 =>
    match sizeP P e, obN lo 0, obN hi 0, mx with
    | some _, some 0, some 0, none => some (.slice none 0 0)
    | some _, some 0, some 0, some m => match natOf m with
      | some 0 => bif hi.isSome then some (.slice none 0 0) else none
      | _ => none
    | _, _, _, _ => none
  | some (.slice e), .slice (some ⟨0, 0, some 0⟩) 0 0 =>
    match sizeP P e, obN lo 0, obN hi 0, mx with
    | some _, some 0, some 0, none => some (.slice (some ⟨0, 0, some 0⟩) 0 0)
    | some _, some 0, some 0, some m => match natOf m with
      | some 0 => bif hi.isSome then some (.slice (some ⟨0, 0, some 0⟩) 0 0) else none
      | _ => none
    | _, _, _, _ => none
  | some (.slice e), .slice (some ⟨i, o, none⟩) n c =>
    match sizeP P e, obN lo 0, obN hi n, mx with
    | some sz, some l, some k, none =>
      bif Nat.ble l k && Nat.ble k (c / 2) then
        bif Nat.beq (c % 2) 0 then some (.slice (some ⟨i, bif Nat.beq (c / 2) l then o else o + l * sz, none⟩) (k - l) (2 * (c / 2 - l)))
        else bif Nat.beq l 0 then some (.slice (some ⟨i, o, none⟩) k c)
        else match h.at i with
          | .row _ true s => bif Nat.beq s sz && Nat.ble 1 sz then some (.slice (some ⟨i, o + l * sz, none⟩) (k - l) (2 * (c / 2 - l) + 1)) else none
          | _ => none
      else none
    | some sz, some l, some k, some m => match natOf m with
      | some m => bif Nat.ble l k && Nat.ble k m && Nat.ble m (c / 2) && hi.isSome then
          some (.slice (some ⟨i, bif Nat.beq m l then o else o + l * sz, none⟩) (k - l) (2 * (m - l)))
        else none
      | none => none
    | _, _, _, _ => none
  | some (.array n e), .pointer (some ⟨i, o, none⟩) =>
    match sizeP P e, obN lo 0, obN hi n, mx with
    | some sz, some l, some k, none =>
      bif Nat.ble l k && Nat.ble k n then some (.slice (some ⟨i, bif Nat.beq n l then o else o + l * sz, none⟩) (k - l) (2 * (n - l))) else none
    | _, _, _, _ => none
  | _, _ => none

theorem capR_even (x y : Nat) (l : Nat × Nat) (k : Nat) : CapR (2 * k) k x l ∧ (y = y) := by
  refine ⟨?_, rfl⟩
  unfold CapR
  rw [if_pos (by omega)]
  omega

theorem slice_sound {t : TypeId} {x x' v : Value} {lo hi mx lo' hi' mx' : Option Value} (r : Rel ρ h w) (hx : VR ρ x x') (hl : OptR ρ lo lo') (hh : OptR ρ hi hi') (hm : OptR ρ mx mx')
    (ha : aslice P h t x lo hi mx = some v) : ∃ v', VR ρ v v' ∧ (Instr.sliceAt t x' lo' hi' mx').run P w = .ok v' w := by
  unfold aslice at ha
  split at ha
  · rename_i e hu
    cases hx
    split at ha
    · rename_i sz hsz e1 e2
      cases ha
      cases mx' with
      | some _ => exact hm.elim
      | none =>
        refine ⟨_, .slice0, ?_⟩
        have hb := bounds2 (P := P) (w := w) (n := 0) (c := 0) hl hh e1 e2 (Nat.le_refl _) (Nat.le_refl _) true
        simp [Instr.sliceAt, run_underlying hu, Instr.slice, hb, run_sizeOf hsz]
    · rename_i sz m hsz e1 e2
      split at ha
      · rename_i e3
        cases hs : hi.isSome <;> rw [hs] at ha <;> simp at ha
        subst ha
        refine ⟨_, .slice0, ?_⟩
        have hb := bounds3 (P := P) (w := w) (n := 0) (c := 0) hl hh hm hs rfl e1 e2 e3 (Nat.le_refl _) (Nat.le_refl _) (Nat.le_refl _) true
        simp [Instr.sliceAt, run_underlying hu, Instr.slice, hb, run_sizeOf hsz]
      · cases ha
    · cases ha
  · rename_i e hu
    cases hx with
    | sliceD a =>
    split at ha
    · rename_i sz hsz e1 e2
      cases ha
      cases mx' with
      | some _ => exact hm.elim
      | none =>
        refine ⟨_, .sliceD a, ?_⟩
        have hb := bounds2 (P := P) (w := w) (n := 0) (c := 0) hl hh e1 e2 (Nat.le_refl _) (Nat.le_refl _) true
        simp [Instr.sliceAt, run_underlying hu, Instr.slice, hb, run_sizeOf hsz]
    · rename_i sz m hsz e1 e2
      split at ha
      · rename_i e3
        cases hs : hi.isSome <;> rw [hs] at ha <;> simp at ha
        subst ha
        refine ⟨_, .sliceD a, ?_⟩
        have hb := bounds3 (P := P) (w := w) (n := 0) (c := 0) hl hh hm hs rfl e1 e2 e3 (Nat.le_refl _) (Nat.le_refl _) (Nat.le_refl _) true
        simp [Instr.sliceAt, run_underlying hu, Instr.slice, hb, run_sizeOf hsz]
      · cases ha
    · cases ha
  · rename_i e i o n c hu
    split at ha
    · rename_i sz l k hsz e1 e2
      cases mx' with
      | some _ => exact hm.elim
      | none =>
        cases hc : (Nat.ble l k && Nat.ble k (c / 2)) <;> rw [hc] at ha <;> simp at ha
        rw [Bool.and_eq_true] at hc
        have h1 := Nat.le_of_ble_eq_true hc.1
        have h2 := Nat.le_of_ble_eq_true hc.2
        have run : ∀ (a : Addr) (c' : Nat), k ≤ c' → (Instr.sliceAt t (.slice (some a) n c') lo' hi' none).run P w = .ok (.slice (some (if c' = l then a else a.add (l * sz))) (k - l) (c' - l)) w := fun a c' hk => by
          have hb := bounds2 (P := P) (w := w) (n := n) (c := c') hl hh e1 e2 h1 hk true
          simp [Instr.sliceAt, run_underlying hu, Instr.slice, hb, run_sizeOf hsz]; split <;> rfl
        cases hx with
        | sliceE _ o' _ hi hc1 =>
          rename_i b d
          have hk0 : k = 0 := by omega
          have hl0 : l = 0 := by omega
          subst hk0; subst hl0
          have hc0 : c / 2 = 0 := by omega
          refine ⟨_, ?_, run ⟨b, o', none⟩ 0 (Nat.le_refl _)⟩
          rw [if_pos rfl]
          cases hev : Nat.beq (c % 2) 0 <;> rw [hev] at ha <;> simp [hc0] at ha <;> subst ha
          · exact .sliceE _ _ _ hi hc1
          · exact .sliceE _ _ _ hi (by omega)
        | slice _ _ _ c' hi hcap =>
          rename_i b d
          cases hev : Nat.beq (c % 2) 0 <;> rw [hev] at ha <;> simp at ha
          · have hodd : ¬ c % 2 = 0 := fun e => by rw [e] at hev; cases hev
            have hcap' := hcap
            unfold CapR at hcap'
            rw [if_neg hodd] at hcap'
            cases hl0 : Nat.beq l 0 <;> rw [hl0] at ha <;> simp at ha
            · split at ha
              · rename_i cs s hat
                cases hs : (Nat.beq s sz && Nat.ble 1 sz) <;> rw [hs] at ha <;> simp at ha
                subst ha
                rw [Bool.and_eq_true] at hs
                have hs1 := Nat.eq_of_beq_eq_true hs.1
                have hs2 := Nat.le_of_ble_eq_true hs.2
                subst hs1
                have ho := r.obj _ _ _ hi
                rw [hat] at ho
                obtain ⟨cc, el, fz, hw, hfz, hlen, _⟩ := ho
                have hlim := (hfz rfl).2 (by omega)
                refine ⟨_, ?_, run ⟨b, d + o, none⟩ c' (by omega)⟩
                by_cases hcl : c' = l
                · have hkl : k = l := by omega
                  subst hkl
                  subst hcl
                  have hc2 : c / 2 = c' := by omega
                  rw [if_pos rfl, hc2, Nat.sub_self]
                  exact .sliceE _ _ _ hi (by omega)
                · rw [if_neg hcl, addr_add, Nat.add_assoc]
                  refine .slice _ _ _ _ hi ?_
                  unfold CapR
                  rw [if_neg (by omega), hlim]
                  rw [hlim] at hcap'
                  refine ⟨by omega, ?_⟩
                  have hmul : l * s + (c' - l) * s = c' * s := by rw [← Nat.add_mul]; congr 1; omega
                  have := hcap'.2
                  simp only at this ⊢
                  omega
              · cases ha
            · have hl00 : l = 0 := Nat.eq_of_beq_eq_true hl0
              subst hl00
              subst ha
              refine ⟨_, ?_, run ⟨b, d + o, none⟩ c' (by omega)⟩
              have e : (if c' = 0 then (⟨b, d + o, none⟩ : Addr) else (⟨b, d + o, none⟩ : Addr).add (0 * sz)) = ⟨b, d + o, none⟩ := by split <;> simp [addr_add]
              rw [e]
              exact .slice _ _ _ _ hi hcap
          · subst ha
            have hev := Nat.eq_of_beq_eq_true hev
            have hcap' := hcap
            unfold CapR at hcap'
            rw [if_pos hev] at hcap'
            subst hcap'
            refine ⟨_, ?_, run ⟨b, d + o, none⟩ (c / 2) (by omega)⟩
            cases hcl : Nat.beq (c / 2) l
            · rw [if_neg (fun e => by rw [e, Nat.beq_refl] at hcl; cases hcl), addr_add, Nat.add_assoc]
              exact .slice _ _ _ _ hi (capR_even _ 0 _ _).1
            · rw [if_pos (Nat.eq_of_beq_eq_true hcl)]
              exact .slice _ _ _ _ hi (capR_even _ 0 _ _).1
    · rename_i sz l k m hsz e1 e2
      cases mx' with
      | none => exact hm.elim
      | some m' =>
        split at ha
        · rename_i m0 e3
          cases hc : (Nat.ble l k && Nat.ble k m0 && Nat.ble m0 (c / 2) && hi.isSome) <;> rw [hc] at ha <;> simp at ha
          rw [Bool.and_eq_true, Bool.and_eq_true, Bool.and_eq_true] at hc
          obtain ⟨⟨⟨h1, h2⟩, h3⟩, h4⟩ := hc
          have h1 := Nat.le_of_ble_eq_true h1
          have h2 := Nat.le_of_ble_eq_true h2
          have h3 := Nat.le_of_ble_eq_true h3
          have run : ∀ (a : Addr) (c' : Nat), m0 ≤ c' → (Instr.sliceAt t (.slice (some a) n c') lo' hi' (some m')).run P w = .ok (.slice (some (if m0 = l then a else a.add (l * sz))) (k - l) (m0 - l)) w := fun a c' hk => by
            have hb := bounds3 (P := P) (w := w) (n := n) (c := c') (mx := some m) (mx' := some m') hl hh hm h4 rfl e1 e2 e3 h1 h2 hk true
            simp [Instr.sliceAt, run_underlying hu, Instr.slice, hb, run_sizeOf hsz]; split <;> rfl
          subst ha
          cases hx with
          | sliceE _ o' _ hi hc1 =>
            rename_i b d
            have hm0 : m0 = 0 := by omega
            have hk0 : k = 0 := by omega
            have hl0 : l = 0 := by omega
            subst hm0; subst hk0; subst hl0
            refine ⟨_, ?_, run ⟨b, o', none⟩ 0 (Nat.le_refl _)⟩
            exact .sliceE _ _ _ hi (by omega)
          | slice _ _ _ c' hi hcap =>
            rename_i b d
            have hcc : m0 ≤ c' := by
              unfold CapR at hcap
              split at hcap <;> omega
            refine ⟨_, ?_, run ⟨b, d + o, none⟩ c' hcc⟩
            cases hcl : Nat.beq m0 l
            · rw [if_neg (fun e => by rw [e, Nat.beq_refl] at hcl; cases hcl), addr_add, Nat.add_assoc]
              exact .slice _ _ _ _ hi (capR_even _ 0 _ _).1
            · rw [if_pos (Nat.eq_of_beq_eq_true hcl)]
              exact .slice _ _ _ _ hi (capR_even _ 0 _ _).1
        · cases ha
    · cases ha
  · rename_i n e i o hu
    split at ha
    · rename_i sz l k hsz e1 e2
      cases mx' with
      | some _ => exact hm.elim
      | none =>
        cases hc : (Nat.ble l k && Nat.ble k n) <;> rw [hc] at ha <;> simp at ha
        rw [Bool.and_eq_true] at hc
        have h1 := Nat.le_of_ble_eq_true hc.1
        have h2 := Nat.le_of_ble_eq_true hc.2
        subst ha
        cases hx with
        | ptr _ hi =>
          rename_i b d
          have hb := bounds2 (P := P) (w := w) (n := n) (c := n) hl hh e1 e2 h1 h2 false
          have run : (Instr.sliceAt t (.pointer (some ⟨b, d + o, none⟩)) lo' hi' none).run P w = .ok (.slice (some (if n = l then ⟨b, d + o, none⟩ else (⟨b, d + o, none⟩ : Addr).add (l * sz))) (k - l) (n - l)) w := by
            simp [Instr.sliceAt, run_underlying hu, Instr.sureAddr, hb, run_sizeOf hsz]
          refine ⟨_, ?_, run⟩
          cases hcl : Nat.beq n l
          · rw [if_neg (fun e => by rw [e, Nat.beq_refl] at hcl; cases hcl), addr_add, Nat.add_assoc]
            exact .slice _ _ _ _ hi (capR_even _ 0 _ _).1
          · rw [if_pos (Nat.eq_of_beq_eq_true hcl)]
            exact .slice _ _ _ _ hi (capR_even _ 0 _ _).1
    · cases ha
  · cases ha

end Go.Abs
