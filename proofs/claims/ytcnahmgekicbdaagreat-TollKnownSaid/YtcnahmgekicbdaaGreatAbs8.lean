/- The abstract interpreter, 8: the other builtins, literals, assertions, calls. -/
import Derived.Test.YtcnahmgekicbdaaGreatAbs7
noncomputable section
namespace Go.Abs
variable {P : Program} {ρ : Ren} {h : H} {w : World}

/-! ### len -/
def alen (P : Program) (h : H) (t : TypeId) (x : Value) : Option Value :=
  match P.underlying t, x with
  | some .string, .string s => some (.int .i64 s.size)
  | some (.slice _), .slice _ n _ => some (.int .i64 n)
  | some (.array n _), _ => some (.int .i64 n)
  | some (.map _ _), m => match amap h m with
    | some (es, _) => some (.int .i64 es.length)
    | none => none
  | _, _ => none

theorem len_sound {t ty : TypeId} {ts : Array TypeId} {x x' v : Value} (ht : ts[0]? = some t) (r : Rel ρ h w) (hx : VR ρ x x') (ha : alen P h t x = some v) :
    ∃ v', VR ρ v v' ∧ (Builtin.len_ ts ty #[x']).run P w = .ok v' w := by
  unfold alen at ha
  split at ha
  · rename_i hu; cases ha; cases hx; exact ⟨_, .int _ _, by simp [Builtin.len_, ht, run_underlying hu, goInt]⟩
  · rename_i hu; cases ha; cases hx <;> exact ⟨_, .int _ _, by simp [Builtin.len_, ht, run_underlying hu, goInt]⟩
  · rename_i hu; cases ha; exact ⟨_, .int _ _, by simp [Builtin.len_, ht, run_underlying hu, goInt]⟩
  · rename_i hu
    split at ha
    · rename_i es c hmap
      cases ha
      rcases amap_sound r hx hmap with ⟨rfl, rfl, rfl⟩ | ⟨i, b, es', rfl, rfl, hi, hat, hb, hes⟩
      · exact ⟨_, .int _ _, by simp [Builtin.len_, ht, run_underlying hu, goInt]⟩
      · have := hes.length
        rw [Array.length_toList] at this
        exact ⟨_, .int _ _, by simp [Builtin.len_, ht, run_underlying hu, run_getObj_map hb, goInt, this]⟩
    · cases ha
  · cases ha

/-! ### copy, clear -/
def acopy (P : Program) (h : H) (t : TypeId) (dst src : Value) : Option (Value × Eff) :=
  match P.underlying t, dst, src with
  | some (.slice e), .slice base n _, .slice b2 m c2 =>
    match sizeP P e with
    | some sz =>
      let k := Nat.min m n
      match reads h (.slice b2 k (bif Nat.beq k 0 then (match b2 with | none => 0 | some _ => c2) else c2)) sz with
      | some vs =>
        bif Nat.beq k 0 then some (.int .i64 0, .none)
        else match base with
        | some ⟨i, o, none⟩ => match h.at i with
          | .row cs true s => bif Nat.ble (o + vs.length) cs.length && vs.all Value.oneCell' then some (.int .i64 k, .upd i (.row (splice cs o vs) true s)) else none
          | _ => none
        | _ => none
      | none => none
    | none => none
  | _, _, _ => none

theorem trunc {b2 : Option Addr} {m c2 k : Nat} {x' : Value} (hx : VR ρ (.slice b2 m c2) x') (hk : k ≤ m) : ∃ a' c', x' = .slice a' m c' ∧ (0 < k → VR ρ (.slice b2 k c2) (.slice a' k c')) := by
  cases hx with
  | slice0 => exact ⟨_, _, rfl, fun h => by omega⟩
  | sliceD a => exact ⟨_, _, rfl, fun h => by omega⟩
  | slice o n c c' hi hcap => exact ⟨_, _, rfl, fun _ => .slice o k _ _ hi hcap⟩
  | sliceE o o' c hi hc => exact ⟨_, _, rfl, fun h => by omega⟩

theorem copy_sound {t ty : TypeId} {ts : Array TypeId} {d d' s s' v : Value} {E : Eff} (ht : ts[0]? = some t) (r : Rel ρ h w) (hd : VR ρ d d') (hs : VR ρ s s') (ha : acopy P h t d s = some (v, E)) :
    OpOK P ρ h w (do pure (.value (← Builtin.copy_ ts ty #[d', s']))) (.val v) E := by
  unfold acopy at ha
  split at ha
  · rename_i e base n c b2 m c2 hu
    split at ha
    · rename_i sz hsz
      dsimp only at ha
      split at ha
      · rename_i vs hvs
        obtain ⟨a', c', rfl, htr⟩ := trunc hs (Nat.min_le_left m n)
        cases hk : Nat.beq (Nat.min m n) 0 <;> rw [hk] at ha <;> simp at ha
        · have hk0 : 0 < Nat.min m n := by
            rcases Nat.eq_zero_or_pos (Nat.min m n) with hh | hh
            · rw [hh] at hk; cases hk
            · exact hh
          rw [hk] at hvs
          simp only [cond_false] at hvs
          obtain ⟨vs', n1, n2, n3, n4⟩ := reads_sound (P := P) r (htr hk0) hvs
          split at ha
          · rename_i i o
            split at ha
            · rename_i cs k hat
              cases hb : (Nat.ble (o + vs.length) cs.length && vs.all Value.oneCell') <;> rw [hb] at ha <;> simp at ha
              obtain ⟨rfl, rfl⟩ := ha
              rw [Bool.and_eq_true] at hb
              have hlen := Nat.le_of_ble_eq_true hb.1
              cases hd with
              | sliceE _ o' _ hi' hc1 => simp at hk0
              | slice _ _ _ cc hi' hcap =>
                rename_i b dd
                have ho := r.obj _ _ _ hi'
                rw [hat] at ho
                obtain ⟨w', g1, g2, g3⟩ := write_row (P := P) (h := h) hi' ho n1 hb.2 hlen
                refine ⟨ρ, w', g2, g3, .int .i64 (Nat.min m n), .int _ _, ?_⟩
                have hf : (Builtin.firstCells sz (Nat.min m n) (.slice a' m c')).run P w = .ok vs'.toArray w := by cases a' <;> exact n3 w.drawn
                simp [Builtin.copy_, ht, run_underlying hu, Builtin.lenOf, run_sizeOf hsz, hf, g1, goInt]
            · cases ha
          · cases ha
        · obtain ⟨rfl, rfl⟩ := ha
          have hk0 := Nat.eq_of_beq_eq_true hk
          have hdd : ∃ q qc, d' = .slice q n qc := by cases hd <;> exact ⟨_, _, rfl⟩
          obtain ⟨q, qc, rfl⟩ := hdd
          refine OpOK.val_bind (.int .i64 0) ?_
          have hf : (Builtin.firstCells sz 0 (.slice a' m c')).run P w = .ok #[] w := by
            cases a' <;> simp [Builtin.firstCells, loadCells, loadCellsFrom]
          cases q <;> simp [Builtin.copy_, ht, run_underlying hu, Builtin.lenOf, run_sizeOf hsz, hk0, hf, storeCells, goInt]
      · cases ha
    · cases ha
  · cases ha

/-- n times the cells of a zero value. -/
def zrep (z : List Value) (n : Nat) : List Value := (List.range (n * z.length)).map fun i => z.getD (i % z.length) undef

theorem zrep_scalar {z : List Value} (hz : z.all scalar = true) (n : Nat) : (zrep z n).all scalar = true := by
  rw [List.all_eq_true] at hz ⊢
  intro v hv
  simp only [zrep, List.mem_map, List.mem_range] at hv
  obtain ⟨i, hi, rfl⟩ := hv
  have hpos : 0 < z.length := by
    rcases Nat.eq_zero_or_pos z.length with hh | hh
    · rw [hh] at hi; omega
    · exact hh
  have hm : i % z.length < z.length := Nat.mod_lt _ hpos
  rw [List.getD_eq_getElem?_getD, List.getElem?_eq_getElem hm]
  exact hz _ (List.getElem_mem hm)
theorem scalar_oneCell {v : Value} (h : scalar v = true) : v.oneCell' = true := by cases v <;> simp_all [scalar, Value.oneCell']
theorem zrep_length (z : List Value) (n : Nat) : (zrep z n).length = n * z.length := by simp [zrep]
theorem zrep_real (z : Array Value) (n : Nat) : ((Array.range (n * z.size)).map (z[· % z.size]!)).toList = zrep z.toList n := by
  simp only [zrep, Array.toList_map, Array.toList_range, Array.length_toList]
  apply List.map_congr_left
  intro i hi
  rw [List.mem_range] at hi
  have hpos : 0 < z.size := by
    rcases Nat.eq_zero_or_pos z.size with hh | hh
    · rw [hh] at hi; omega
    · exact hh
  have hm : i % z.size < z.size := Nat.mod_lt _ hpos
  simp [hm, List.getD_eq_getElem?_getD]

def aclear (P : Program) (h : H) (t : TypeId) (x : Value) : Option Eff :=
  match P.underlying t, x with
  | some (.slice e), .slice base n _ =>
    bif Nat.beq n 0 then some .none else
    match zeroP P e, base with
    | some z, some ⟨i, o, none⟩ => match h.at i with
      | .row cs true s => bif Nat.ble (o + n * z.cells.toList.length) cs.length then some (.upd i (.row (splice cs o (zrep z.cells.toList n)) true s)) else none
      | _ => none
    | _, _ => none
  | some (.map _ _), .map none => some .none
  | some (.map _ _), .map (some i) => match h.at i with
    | .map _ c => some (.upd i (.map [] c))
    | _ => none
  | _, _ => none

theorem clear_sound {t ty : TypeId} {ts : Array TypeId} {x x' : Value} {E : Eff} (ht : ts[0]? = some t) (r : Rel ρ h w) (hx : VR ρ x x') (ha : aclear P h t x = some E) :
    OpOK P ρ h w (do pure (.value (← Builtin.clear_ ts ty #[x']))) (.val (.tuple #[])) E := by
  unfold aclear at ha
  split at ha
  · rename_i e base n c hu
    cases hn : Nat.beq n 0 <;> rw [hn] at ha <;> simp at ha
    · split at ha
      · rename_i z i o hz
        obtain ⟨z1, z2, z3⟩ := zeroP_spec hz
        split at ha
        · rename_i cs s hat
          cases hc : Nat.ble (o + n * z.cells.toList.length) cs.length <;> rw [show z.cells.toList.length = z.cells.size from Array.length_toList] at hc <;> rw [hc] at ha <;> simp at ha
          subst ha
          have hlen := Nat.le_of_ble_eq_true hc
          cases hx with
          | sliceE _ o' _ hi' hc1 => cases hn
          | slice _ _ _ cc hi' hcap =>
            rename_i b dd
            have ho := r.obj _ _ _ hi'
            rw [hat] at ho
            have hz4 := zrep_scalar z2 n
            obtain ⟨w', g1, g2, g3⟩ := write_row (P := P) (h := h) (vs := zrep z.cells.toList n) (vs' := zrep z.cells.toList n) (o := o) hi' ho (LR.scalar hz4)
              (by rw [List.all_eq_true] at hz4 ⊢; exact fun v hv => scalar_oneCell (hz4 v hv)) (by rw [zrep_length, Array.length_toList]; omega)
            refine ⟨ρ, w', g2, g3, .tuple #[], VR.plain_refl (by rfl), ?_⟩
            have hzz : (Builtin.zeroCells z.cells n).toList = zrep z.cells.toList n := zrep_real z.cells n
            cases n with
            | zero => cases hn
            | succ n => simp [Builtin.clear_, ht, run_underlying hu, z1, hzz, g1]
        · cases ha
      · cases ha
    · subst ha
      have hn0 := Nat.eq_of_beq_eq_true hn
      subst hn0
      refine OpOK.val_bind (VR.plain_refl (by rfl)) ?_
      cases hx <;> simp [Builtin.clear_, ht, run_underlying hu]
  · rename_i hu; cases ha; cases hx; exact OpOK.val_bind (VR.plain_refl (by rfl)) (by simp [Builtin.clear_, ht, run_underlying hu])
  · rename_i k e i hu
    split at ha
    · rename_i es c hat
      cases ha
      cases hx with
      | map hi =>
        rename_i b
        have ho := r.obj _ _ _ hi
        rw [hat] at ho
        obtain ⟨_, es', hb, hes⟩ := ho
        obtain ⟨p1, p2⟩ := real_map (h := h) (c' := c) (es := []) (es' := #[]) hi hb .nil
        refine ⟨ρ, _, p1, p2, .tuple #[], VR.plain_refl (by rfl), ?_⟩
        simp [Builtin.clear_, ht, run_underlying hu, run_getObj_map hb, run_setObj_map hb]
    · cases ha
  · cases ha

/-! ### make, literals -/
def aslit (P : Program) (h : H) (t : TypeId) (n : Nat) (ps : List (Nat × Value)) : Option (Value × Eff) :=
  match P.underlying t with
  | some (.slice e) => match sizeP P e, zeroP P e with
    | some sz, some z =>
      bif Nat.ble 1 sz && Nat.ble (n * sz) 10000 && Nat.beq z.cells.toList.length sz then
        match afill (fun i => some (i * sz, sz)) (zrep z.cells.toList n) ps with
        | some cs => some (.slice (some ⟨h.size, 0, none⟩) n (2 * n), .new (.row cs true sz))
        | none => none
      else none
    | _, _ => none
  | _ => none

theorem slit_sound {t : TypeId} {n : Nat} {ps ps' : List (Nat × Value)} {v : Value} {E : Eff} (r : Rel ρ h w) (hl : ps.length = ps'.length)
    (hp : ∀ (i : Nat) p p', ps[i]? = some p → ps'[i]? = some p' → p'.1 = p.1 ∧ VR ρ p.2 p'.2) (ha : aslit P h t n ps = some (v, E)) :
    OpOK P ρ h w (do pure (.value (← Instr.buildSlice t n ps'.toArray))) (.val v) E := by
  unfold aslit at ha
  split at ha
  · rename_i e hu
    split at ha
    · rename_i sz z hsz hz
      cases hb : (Nat.ble 1 sz && Nat.ble (n * sz) 10000 && Nat.beq z.cells.toList.length sz) <;> rw [hb] at ha
      · simp at ha
      · simp only [cond_true] at ha
        rw [Bool.and_eq_true, Bool.and_eq_true] at hb
        obtain ⟨⟨b1, b2⟩, b3⟩ := hb
        have b1 := Nat.le_of_ble_eq_true b1
        have b2 := Nat.le_of_ble_eq_true b2
        have b3 := Nat.eq_of_beq_eq_true b3
        obtain ⟨z1, z2, z3⟩ := zeroP_spec hz
        split at ha
        · rename_i cs hf
          cases ha
          have hzl : ((Array.range (n * sz)).map (z.cells[· % z.cells.size]!)).toList = zrep z.cells.toList n := by
            rw [← zrep_real z.cells n, show z.cells.size = sz by rw [← b3]; simp]
          obtain ⟨out', o1, o2⟩ := fill_sound (fun i => some (i * sz, sz)) ps ps' _ ((Array.range (n * sz)).map (z.cells[· % z.cells.size]!)) cs hl hp (by rw [hzl]; exact LR.scalar (zrep_scalar z2 n)) hf
          refine ⟨_, World.push w (.cells out' e), same_push _, real_row r sz o2 ⟨[], by simp⟩, .slice (some ⟨w.heap.size, 0, none⟩) n n, ?_, ?_⟩
          · have := VR.slice (ρ := ρ.add h.size (w.heap.size, 0) (out'.size, sz)) 0 n (2 * n) n (Ren.add_same ρ h.size _ _) (capR_even _ 0 _ _).1
            simpa using this
          · have hbig : ¬ (16777216 < n * sz) := by omega
            by_cases h0 : n * sz = 0
            · have hn0 : n = 0 := by
                rcases Nat.eq_zero_or_pos n with hh | hh
                · exact hh
                · have := Nat.mul_pos hh b1; omega
              subst hn0
              have e0 : Array.range 0 = #[] := rfl
              have o1' : Instr.fill (fun i => some (i * sz, sz)) #[] ps' = some out' := by rw [Nat.zero_mul, e0] at o1; simpa using o1
              simp [Instr.buildSlice, run_underlying hu, run_sizeOf hsz, e0, o1', newRow]; rfl
            · simp [Instr.buildSlice, run_underlying hu, run_sizeOf hsz, hbig, h0, z1, o1, newRow]; rfl
        · cases ha
    · cases ha
  · cases ha

def amake (P : Program) (h : H) (t : TypeId) (l c : Value) : Option (Value × Eff) :=
  match P.underlying t, natOf l, natOf c with
  | some (.slice e), some l, some c => match sizeP P e, bytesP P e, zeroP P e with
    | some sz, some by_, some z =>
      bif Nat.ble 1 sz && Nat.ble 1 by_ && Nat.ble l c && Nat.ble (by_ * c) 100000 && Nat.beq z.cells.toList.length sz then
        some (.slice (some ⟨h.size, 0, none⟩) l (2 * c), .new (.row (zrep z.cells.toList c) true sz))
      else none
    | _, _, _ => none
  | _, _, _ => none

theorem wrap_nat {k : Nat} (hk : k ≤ 100000) : IntKind.i64.wrap (k : Int) = k := by rw [IntKind.wrap_i64]; omega

theorem make_sound {t : TypeId} {l l' c c' v : Value} {E : Eff} (r : Rel ρ h w) (hl : VR ρ l l') (hc : VR ρ c c') (ha : amake P h t l c = some (v, E)) :
    OpOK P ρ h w (do pure (.value (← Instr.makeSlice t l' c'))) (.val v) E := by
  unfold amake at ha
  split at ha
  · rename_i e l c hu e1 e2
    obtain ⟨q1, rfl⟩ := natOf_spec hl e1
    obtain ⟨q2, rfl⟩ := natOf_spec hc e2
    split at ha
    · rename_i sz by_ z hsz hby hz
      cases hb : (Nat.ble 1 sz && Nat.ble 1 by_ && Nat.ble l c && Nat.ble (by_ * c) 100000 && Nat.beq z.cells.toList.length sz) <;> rw [hb] at ha
      · simp at ha
      · simp only [cond_true] at ha
        cases ha
        rw [Bool.and_eq_true, Bool.and_eq_true, Bool.and_eq_true, Bool.and_eq_true] at hb
        obtain ⟨⟨⟨⟨b1, b2⟩, b3⟩, b4⟩, b5⟩ := hb
        have b1 := Nat.le_of_ble_eq_true b1
        have b2 := Nat.le_of_ble_eq_true b2
        have b3 := Nat.le_of_ble_eq_true b3
        have b4 := Nat.le_of_ble_eq_true b4
        have b5 := Nat.eq_of_beq_eq_true b5
        have hcb : c ≤ by_ * c := Nat.le_mul_of_pos_left c b2
        obtain ⟨z1, z2, z3⟩ := zeroP_spec hz
        unfold bytesP at hby
        cases ei : P.info? e with
        | none => rw [ei] at hby; cases hby
        | some inf =>
          rw [ei] at hby
          simp only [Option.map_some, Option.some.injEq] at hby
          have hti : (typeInfo e).run P w = .ok inf w := by simp [typeInfo, ei]
          have hzl : ((Array.range (c * sz)).map (z.cells[· % z.cells.size]!)).toList = zrep z.cells.toList c := by
            rw [← zrep_real z.cells c, show z.cells.size = sz by rw [← b5]; simp]
          refine ⟨_, World.push w (.cells ((Array.range (c * sz)).map (z.cells[· % z.cells.size]!)) e), same_push _, real_row r (rest := zrep z.cells.toList c) sz (LR.scalar (zrep_scalar z2 c)) ⟨[], by rw [hzl, List.append_nil]⟩, .slice (some ⟨w.heap.size, 0, none⟩) l c, ?_, ?_⟩
          · have := VR.slice (ρ := ρ.add h.size (w.heap.size, 0) (((Array.range (c * sz)).map (z.cells[· % z.cells.size]!)).size, sz)) 0 l (2 * c) c (Ren.add_same ρ h.size _ _) (capR_even _ 0 _ _).1
            simpa using this
          · have w1 := wrap_nat (k := l) (by omega)
            have w2 := wrap_nat (k := c) (by omega)
            have n1 : ¬ (281474976710656 < (inf.bytes : Int) * (c : Int)) := by
              rw [hby]
              have : ((by_ * c : Nat) : Int) ≤ 100000 := by omega
              push_cast at this
              omega
            have n5 : ¬ (((c : Int) < 0 ∨ (l : Int) < 0) ∨ c < l) := by omega
            by_cases hc0 : c * sz = 0
            · have e0 : Array.range 0 = #[] := rfl
              simp [Instr.makeSlice, asInt, asIntOf, run_underlying hu, run_sizeOf hsz, hti, w1, w2, n1, hc0, e0, newRow]
              rw [if_neg n5]; rfl
            · simp [Instr.makeSlice, asInt, asIntOf, run_underlying hu, run_sizeOf hsz, hti, w1, w2, n1, hc0, z1, newRow]
              rw [if_neg n5]; rfl
    · cases ha
  · cases ha

end Go.Abs
