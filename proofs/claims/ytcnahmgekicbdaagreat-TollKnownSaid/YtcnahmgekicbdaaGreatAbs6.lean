/- The abstract interpreter, 6: append, copy, clear, len, cap; make of slices and maps; literals of slices. -/
import Derived.Test.YtcnahmgekicbdaaGreatAbs5
noncomputable section
namespace Go.Abs
variable {P : Program} {ρ : Ren} {h : H} {w : World}

theorem Rel.drawn (r : Rel ρ h w) (k : Nat) : Rel ρ h { w with drawn := k } := ⟨r.dom, r.obj, r.inj⟩

/-- The cells of a slice's elements. -/
def reads (h : H) (x : Value) (sz : Nat) : Option (List Value) :=
  match x with
  | .slice none 0 0 => some []
  | .slice (some ⟨0, 0, some 0⟩) 0 0 => some []
  | .slice (some ⟨i, o, none⟩) m _ =>
    bif Nat.beq m 0 then some [] else
    match h.at i with
    | .row cs _ _ => bif Nat.ble (o + m * sz) cs.length then some ((cs.drop o).take (m * sz)) else none
    | _ => none
  | _ => none

def lenS : Value → Nat
  | .slice _ n _ => n
  | _ => 0

theorem reads_sound {x x' : Value} {sz : Nat} {vs : List Value} (r : Rel ρ h w) (hx : VR ρ x x') (hr : reads h x sz = some vs) :
    ∃ vs', LR ρ vs vs' ∧ vs.length = lenS x * sz ∧ (∀ k, (Builtin.firstCells sz (lenS x) x').run P { w with drawn := k } = .ok vs'.toArray { w with drawn := k }) ∧ (Builtin.lenOf x').run P w = .ok (lenS x) w := by
  unfold reads at hr
  split at hr
  · cases hr; cases hx; exact ⟨[], LR.nil, by simp [lenS], fun k => by simp [Builtin.firstCells], by simp [Builtin.lenOf, lenS]⟩
  · cases hr; cases hx; exact ⟨[], LR.nil, by simp [lenS], fun k => by simp [Builtin.firstCells, loadCells, loadCellsFrom, lenS], by simp [Builtin.lenOf, lenS]⟩
  · rename_i i o m c
    cases hm : Nat.beq m 0 <;> rw [hm] at hr <;> simp at hr
    · split at hr
      · rename_i cs own k hat
        cases hc : Nat.ble (o + m * sz) cs.length <;> rw [hc] at hr <;> simp at hr
        subst hr
        have hle := Nat.le_of_ble_eq_true hc
        cases hx with
        | sliceE _ o' _ hi hc1 => cases hm
        | slice _ _ _ c' hi hcap =>
          rename_i b d
          have ho := r.obj _ _ _ hi
          rw [hat] at ho
          obtain ⟨vs', hl, hcell, hvs⟩ := row_cells (o := o) (n := m * sz) ho hle
          refine ⟨vs', by simpa using hvs.list, by simp [lenS]; omega, fun q => ?_, by simp [Builtin.lenOf, lenS]⟩
          have hlc := run_loadCellsFrom (P := P) (w := { w with drawn := q }) ⟨b, d + o, none⟩ (fun j => vs'.getD j undef) (m * sz) 0 #[] (fun j hj => by rw [addr_add]; have := hcell j hj; rw [Nat.zero_add]; exact this)
          have e : (List.range (m * sz)).map (fun j => vs'.getD (0 + j) undef) = vs' := by
            apply List.ext_getElem (by simp [hl])
            intro j h1 h2
            simp [h2]
          rw [e] at hlc
          simp [Builtin.firstCells, loadCells, lenS, hlc]
      · cases hr
    · subst hr
      have hm0 := Nat.eq_of_beq_eq_true hm
      subst hm0
      cases hx <;> exact ⟨[], LR.nil, by simp [lenS], fun k => by simp [Builtin.firstCells, loadCells, loadCellsFrom, lenS], by simp [Builtin.lenOf, lenS]⟩
  · cases hr

def bytesP (P : Program) (t : TypeId) : Option Nat := (P.info? t).map (·.bytes)

theorem growBy_le (need : Nat) : ∀ (r c : Nat), c ≤ 2 * need + 1000 → Builtin.growBy need r c ≤ 2 * need + 1000 := by
  intro r
  induction r with
  | zero => intro c hc; exact hc
  | succ r ih =>
    intro c hc
    unfold Builtin.growBy
    split
    · exact hc
    · exact ih _ (by omega)
theorem nextslicecap_le {need k : Nat} (hk : k < need) : Builtin.nextslicecap need k ≤ 2 * need + 1000 := by
  unfold Builtin.nextslicecap
  split
  · omega
  · split
    · omega
    · exact growBy_le _ _ _ (by omega)

/-- What an append reads of its types: the elements' cells, bytes, zero value. -/
def appInfo (P : Program) (ts : Array TypeId) : Option (TypeId × Nat × Nat × Value) :=
  match ts.toList with
  | st :: xt :: _ =>
    match P.underlying st, P.underlying xt with
    | some (.slice e), some (.slice _) =>
      match sizeP P e, bytesP P e, zeroP P e with
      | some sz, some by_, some z => bif Nat.ble 1 sz && Nat.ble 1 by_ && Nat.beq z.cells.toList.length sz then some (e, sz, by_, z) else none
      | _, _, _ => none
    | _, _ => none
  | _ => none

def isSl : Value → Bool
  | .slice _ _ _ => true
  | _ => false

def aappend (P : Program) (h : H) (ts : Array TypeId) (s x : Value) : Option (Value × Eff) :=
  match appInfo P ts, s with
  | some (_, sz, by_, _), .slice base n c =>
    match reads h x sz with
    | some new =>
      let m := lenS x
      bif Nat.ble (n + m) (c / 2) then
        bif Nat.beq m 0 then some (s, .none)
        else match base with
        | some ⟨i, o, none⟩ => match h.at i with
          | .row cs true k => bif Nat.ble (o + n * sz + new.length) cs.length && new.all Value.oneCell' then some (.slice base (n + m) c, .upd i (.row (splice cs (o + n * sz) new) true k)) else none
          | _ => none
        | _ => none
      else bif Nat.ble ((2 * (n + m) + 1000) * by_) (2 ^ 47) && new.all Value.oneCell' then
        match reads h s sz with
        | some old =>
          bif Nat.beq (c % 2) 0 then some (.slice (some ⟨h.size, 0, none⟩) (n + m) (2 * (n + m) + 1), .new (.row (old ++ new) true sz))
          else match base with
          | some ⟨i, _, none⟩ => match h.at i with
            | .row _ true k => bif Nat.beq k sz then some (.slice (some ⟨h.size, 0, none⟩) (n + m) (2 * (n + m) + 1), .grow i (.row (old ++ new) true sz)) else none
            | _ => none
          | _ => none
        | none => none
      else none
    | none => none
  | _, _ => none

/-- The two ways of an append, as the model runs them. -/
theorem append_room {ts : Array TypeId} {ty : TypeId} {e : TypeId} {sz by_ : Nat} {z : Value} {base : Option Addr} {n c m : Nat} {x : Value} {new : List Value} (hi : appInfo P ts = some (e, sz, by_, z))
    (hl : (Builtin.lenOf x).run P w = .ok m w) (hf : (Builtin.firstCells sz m x).run P w = .ok new.toArray w) (hroom : n + m ≤ c) :
    (Builtin.append_ ts ty #[.slice base n c, x]).run P w =
      match base with
      | some a => ((storeCells (a.add (n * sz)) new).run P w).andThen fun _ w' => .ok (.slice base (n + m) c) w'
      | none => .ok (.slice none (n + m) c) w := by
  unfold appInfo at hi
  split at hi
  · rename_i st xt rest hts
    split at hi
    · rename_i e0 xe h1 h2
      split at hi
      · rename_i sz0 by0 z0 s1 s2 s3
        cases hc : (Nat.ble 1 sz0 && Nat.ble 1 by0 && Nat.beq z0.cells.toList.length sz0) <;> rw [hc] at hi <;> simp at hi
        obtain ⟨rfl, rfl, rfl, rfl⟩ := hi
        have t0 : ts[0]? = some st := by rw [← Array.getElem?_toList, hts]; rfl
        have t1 : ts[1]? = some xt := by rw [← Array.getElem?_toList, hts]; rfl
        unfold Builtin.append_
        cases base <;> simp [t0, t1, run_underlying h1, run_underlying h2, run_sizeOf s1, hl, hroom, hf]
      · cases hi
    · cases hi
  · cases hi

theorem append_fresh {ts : Array TypeId} {ty : TypeId} {e : TypeId} {sz by_ : Nat} {z : Value} {base : Option Addr} {n c m : Nat} {x : Value} {old new : List Value} (hi : appInfo P ts = some (e, sz, by_, z))
    (hl : (Builtin.lenOf x).run P w = .ok m w) (hroom : c < n + m) (hb : (2 * (n + m) + 1000) * by_ ≤ 2 ^ 47)
    (ho : ∀ k, (Builtin.firstCells sz n (.slice base n c)).run P { w with drawn := k } = .ok old.toArray { w with drawn := k })
    (hf : ∀ k, (Builtin.firstCells sz m x).run P { w with drawn := k } = .ok new.toArray { w with drawn := k }) :
    ∃ (cap : Nat) (rest : List Value), n + m ≤ cap ∧ rest.length = (cap - (n + m)) * sz ∧ (Builtin.append_ ts ty #[.slice base n c, x]).run P w =
      .ok (.slice (some ⟨w.heap.size, 0, none⟩) (n + m) cap) (World.push { w with drawn := w.drawn + 1 } (.cells (old ++ new ++ rest).toArray e)) := by
  unfold appInfo at hi
  split at hi
  · rename_i st xt rest hts
    split at hi
    · rename_i e0 xe h1 h2
      split at hi
      · rename_i sz0 by0 z0 s1 s2 s3
        cases hc : (Nat.ble 1 sz0 && Nat.ble 1 by0 && Nat.beq z0.cells.toList.length sz0) <;> rw [hc] at hi <;> simp at hi
        obtain ⟨rfl, rfl, rfl, rfl⟩ := hi
        rw [Bool.and_eq_true, Bool.and_eq_true] at hc
        obtain ⟨⟨c1, c2⟩, c3⟩ := hc
        have c1 := Nat.le_of_ble_eq_true c1
        have c2 := Nat.le_of_ble_eq_true c2
        have c3 := Nat.eq_of_beq_eq_true c3
        have t0 : ts[0]? = some st := by rw [← Array.getElem?_toList, hts]; rfl
        have t1 : ts[1]? = some xt := by rw [← Array.getElem?_toList, hts]; rfl
        obtain ⟨z1, z2, z3⟩ := zeroP_spec s3
        have hn : ¬ n + m ≤ c := by omega
        unfold bytesP at s2
        cases ei : P.info? e0 with
        | none => rw [ei] at s2; cases s2
        | some inf =>
          rw [ei] at s2
          simp only [Option.map_some, Option.some.injEq] at s2
          have hti : ∀ w', (typeInfo e0).run P w' = .ok inf w' := fun w' => by simp [typeInfo, ei]
          have hcapb : ¬ (Builtin.nextslicecap (n + m) c * inf.bytes > 2 ^ 48) := by
            have h5 := nextslicecap_le hroom
            have h6 := Nat.mul_le_mul_right inf.bytes h5
            rw [s2] at h6 ⊢
            omega
          have hbz : ¬ (inf.bytes = 0) := by omega
          refine ⟨(n + m) + w.tape w.drawn (.appendCap (n + m) c e0) % (2 ^ 63 - (n + m)), (Builtin.zeroCells z0.cells (w.tape w.drawn (.appendCap (n + m) c e0) % (2 ^ 63 - (n + m)))).toList, by omega, ?_, ?_⟩
          · simp [Builtin.zeroCells]
            rw [← c3]; simp
          · unfold Builtin.append_
            have ho' : (Builtin.firstCells sz0 n (.slice base n c)).run P w.drew = .ok old.toArray w.drew := ho (w.drawn + 1)
            have hf' : (Builtin.firstCells sz0 m x).run P w.drew = .ok new.toArray w.drew := hf (w.drawn + 1)
            simp [t0, t1, run_underlying h1, run_underlying h2, run_sizeOf s1, hl, hn, hti, hcapb, hbz, Question.forced, Question.cut, ho', hf', z1, newRow, World.push]
            unfold World.alloc World.drew
            simp
            congr 2
            apply Array.toList_inj.1
            simp
      · cases hi
    · cases hi
  · cases hi

theorem LR.len {xs ys : List Value} (hv : LR ρ xs ys) : ys.length = xs.length := hv.1.symm

theorem reads_cells {i b d o n c sz : Nat} {vs : List Value} (r : Rel ρ h w) (hi : ρ i = some (b, d)) (hr : reads h (.slice (some ⟨i, o, none⟩) n c) sz = some vs) :
    ∃ vs', LR ρ vs vs' ∧ ∀ j, j < n * sz → w.cell? ⟨b, d + o + j, none⟩ = some (vs'.getD j undef) := by
  simp only [reads] at hr
  cases hm : Nat.beq n 0 <;> rw [hm] at hr <;> simp at hr
  · split at hr
    · rename_i cs own k hat
      cases hc : Nat.ble (o + n * sz) cs.length <;> rw [hc] at hr <;> simp at hr
      subst hr
      have ho := r.obj _ _ _ hi
      rw [hat] at ho
      obtain ⟨vs', hl, hcell, hvs⟩ := row_cells (o := o) (n := n * sz) ho (Nat.le_of_ble_eq_true hc)
      exact ⟨vs', by simpa using hvs.list, hcell⟩
    · cases hr
  · subst hr
    have hm0 := Nat.eq_of_beq_eq_true hm
    subst hm0
    exact ⟨[], LR.nil, fun j hj => by omega⟩

/-- An own row that is carried on in the room behind it. -/
theorem grow_row {i b d o n m sz : Nat} {c' : Nat} {cs old new old' new' : List Value} (r : Rel ρ h w) (hi : ρ i = some (b, d)) (hat : h.at i = .row cs true sz) (hsz : 1 ≤ sz)
    (ho : LR ρ old old') (hn : LR ρ new new') (lo : old.length = n * sz) (ln : new.length = m * sz) (h1 : new.all Value.oneCell' = true)
    (hold : ∀ j, j < n * sz → w.cell? ⟨b, d + o + j, none⟩ = some (old'.getD j undef)) (hcap : d + o + c' * (ρ.lim i).2 ≤ (ρ.lim i).1) (hroom : n + m ≤ c') :
    ∃ w', (storeCells ⟨b, d + o + n * sz, none⟩ new').run P w = .ok () w' ∧ Same w w' ∧ (Eff.grow i (.row (old ++ new) true sz)).real ρ h w (ρ.add h.size (b, d + o) (ρ.lim i)) w' := by
  have hob := r.obj _ _ _ hi
  rw [hat] at hob
  obtain ⟨cc, el, fz, hw, hfz, hlen, hc⟩ := hob
  obtain ⟨rfl, hlim⟩ := hfz rfl
  have hlim := hlim (by omega)
  rw [hlim] at hcap
  simp only at hcap
  have hmul : n * sz + m * sz ≤ c' * sz := by rw [← Nat.add_mul]; exact Nat.mul_le_mul_right _ hroom
  have ln' := hn.1
  have lo' := ho.1
  have hcl : cc.toList.length = cc.size := Array.length_toList
  refine ⟨_, run_storeCells_at (P := P) b (d + o + n * sz) el new' 0 cc w hw (by omega) (hn.oneCell h1), same_setRow _ _ _, b, d, hi, .inl ⟨d + o, _, rfl, setRow_size _ _ _, fun k hk => setRow_other _ _ _ _ hk, ?_⟩⟩
  have hspl : (cc.toList.take (d + o + n * sz + 0) ++ new' ++ cc.toList.drop (d + o + n * sz + 0 + new'.length)).toArray.toList = splice cc.toList (d + o + n * sz) new' := by simp [splice]
  have l2 : (splice cc.toList (d + o + n * sz) new').length = cc.toList.length := splice_length (by omega)
  refine ⟨_, el, (0, 0), setRow_heap w b cc _ el (0, 0) hw, fun _ => ⟨rfl, fun _ => ?_⟩, ?_, fun k v v' a a' => ?_⟩
  · rw [hlim]
    congr 1
    rw [← Array.length_toList, ← Array.length_toList, hspl, l2]
  · rw [← Array.length_toList, hspl, l2, List.length_append]; omega
  · rw [← Array.getElem?_toList, hspl] at a'
    have hle := Ren.le_add (p := (b, d + o)) (l := ρ.lim i) r.fresh
    refine ((ho.append hn).2 k v v' a ?_).mono hle
    rw [← a']
    have hk : k < old.length + new.length := by
      rw [← List.length_append]
      rcases Nat.lt_or_ge k (old ++ new).length with hh | hh
      · exact hh
      · rw [List.getElem?_eq_none hh] at a; cases a
    simp only [splice, List.append_assoc, List.getElem?_append, List.getElem?_take, List.length_take, Array.length_toList]
    have e2 : min (d + o + n * sz) cc.size = d + o + n * sz := by omega
    rw [e2]
    by_cases k1 : k < n * sz
    · have a1 : k < old'.length := by omega
      have a2 : d + o + k < d + o + n * sz := by omega
      have hcell := hold k k1
      have a3 : d + o + k < cc.size := by omega
      simp [World.cell?, hw, a3] at hcell
      simp [a1, a2, a3, hcell]
    · have a1 : ¬ k < old'.length := by omega
      have a2 : ¬ d + o + k < d + o + n * sz := by omega
      have e3 : d + o + k - (d + o + n * sz) = k - old'.length := by omega
      have a4 : k - old'.length < new'.length := by omega
      simp [a1, a2, e3, a4]

theorem append_sound {ts : Array TypeId} {ty : TypeId} {s s' x x' v : Value} {E : Eff} (r : Rel ρ h w) (hs : VR ρ s s') (hx : VR ρ x x') (ha : aappend P h ts s x = some (v, E)) :
    OpOK P ρ h w (do pure (.value (← Builtin.append_ ts ty #[s', x']))) (.val v) E := by
  unfold aappend at ha
  split at ha
  · rename_i e sz by_ z base n c hi
    split at ha
    · rename_i new hnew
      obtain ⟨new', n1, n2, n3, n4⟩ := reads_sound (P := P) r hx hnew
      dsimp only at ha
      have hsz : 1 ≤ sz := by
        unfold appInfo at hi
        split at hi
        · split at hi
          · split at hi
            · rename_i sz0 by0 z0 s1 s2 s3
              cases hc : (Nat.ble 1 sz0 && Nat.ble 1 by0 && Nat.beq z0.cells.toList.length sz0) <;> rw [hc] at hi <;> simp at hi
              obtain ⟨rfl, rfl, rfl, rfl⟩ := hi
              rw [Bool.and_eq_true, Bool.and_eq_true] at hc
              exact Nat.le_of_ble_eq_true hc.1.1
            · cases hi
          · cases hi
        · cases hi
      cases hroom : Nat.ble (n + lenS x) (c / 2) <;> rw [hroom] at ha <;> simp at ha
      · -- a new row, or the room behind a row whose capacity is not known
        have hlt : c / 2 < n + lenS x := by
          rcases Nat.lt_or_ge (c / 2) (n + lenS x) with hh | hh
          · exact hh
          · rw [Nat.ble_eq_true_of_le hh] at hroom; cases hroom
        cases hb : (Nat.ble ((2 * (n + lenS x) + 1000) * by_) 140737488355328 && new.all Value.oneCell') <;> rw [hb] at ha <;> simp at ha
        rw [Bool.and_eq_true] at hb
        have hbound := Nat.le_of_ble_eq_true hb.1
        split at ha
        · rename_i old hold
          obtain ⟨old', o1, o2, o3, o4⟩ := reads_sound (P := P) r hs hold
          -- the new row, whatever the real capacity was
          have fresh : ∀ base' c', s' = .slice base' n c' → c' < n + lenS x → ∃ w' v' l, (Builtin.append_ ts ty #[s', x']).run P w = .ok v' w' ∧ Same w w' ∧ (∃ ob, w'.heap = w.heap.push ob) ∧
              VR (ρ.add h.size (w.heap.size, 0) l) (.slice (some ⟨h.size, 0, none⟩) (n + lenS x) (2 * (n + lenS x) + 1)) v' ∧
              ObjR (ρ.add h.size (w.heap.size, 0) l) w' w.heap.size 0 l (.row (old ++ new) true sz) := by
            intro base' c' hs' hc'
            subst hs'
            have o3' : ∀ k, (Builtin.firstCells sz n (.slice base' n c')).run P { w with drawn := k } = .ok old'.toArray { w with drawn := k } := o3
            obtain ⟨cap, rest, q1, q2, q3⟩ := append_fresh (P := P) (w := w) (ty := ty) hi n4 hc' (by simpa using hbound) o3' n3
            refine ⟨_, _, ((old' ++ new' ++ rest).length, sz), q3, ⟨rfl, rfl, rfl⟩, ⟨_, rfl⟩, ?_, ?_⟩
            · have := VR.slice (ρ := ρ.add h.size (w.heap.size, 0) ((old' ++ new' ++ rest).length, sz)) 0 (n + lenS x) (2 * (n + lenS x) + 1) cap (Ren.add_same ρ h.size _ _) (by
                unfold CapR
                rw [if_neg (by omega), Ren.add_lim]
                refine ⟨by omega, ?_⟩
                have e1 : old.length = n * sz := o2
                have e2 := o1.1
                have e3 := n1.1
                have hm : n * sz + lenS x * sz + (cap - (n + lenS x)) * sz = cap * sz := by
                  rw [← Nat.add_mul, ← Nat.add_mul]; congr 1; omega
                simp only [List.length_append]
                omega)
              simpa using this
            · have := real_row (r.drawn (w.drawn + 1)) (cs := old ++ new) (cs' := (old' ++ new' ++ rest).toArray) (e := e) (rest := old' ++ new') sz (o1.append n1) ⟨rest, by simp⟩
              obtain ⟨l, e1, _, e2⟩ := this
              have hl : l = ((old' ++ new' ++ rest).toArray.size, sz) := by
                have h1 := congrArg (fun ρ : Ren => ρ.lim h.size) e1
                simp only [Ren.add_lim] at h1
                exact h1.symm
              subst hl
              simpa using e2
          cases hev : Nat.beq (c % 2) 0 <;> rw [hev] at ha <;> simp at ha
          · split at ha
            · rename_i i o
              split at ha
              · rename_i cs k hat
                cases hk : Nat.beq k sz <;> rw [hk] at ha <;> simp at ha
                obtain ⟨rfl, rfl⟩ := ha
                have hk := Nat.eq_of_beq_eq_true hk
                subst hk
                have hodd : ¬ c % 2 = 0 := fun e => by rw [e] at hev; cases hev
                cases hs with
                | sliceE _ o' _ hi' hc1 =>
                  rename_i b d
                  obtain ⟨w', v', l, f1, f2, f3, f4, f5⟩ := fresh (some ⟨b, o', none⟩) 0 rfl (by omega)
                  exact ⟨_, w', f2, ⟨b, d, hi', .inr ⟨l, rfl, f3, f5⟩⟩, v', f4, by simp [f1]⟩
                | slice _ _ _ c' hi' hcap =>
                  rename_i b d
                  by_cases hc' : c' < n + lenS x
                  · obtain ⟨w', v', l, f1, f2, f3, f4, f5⟩ := fresh (some ⟨b, d + o, none⟩) c' rfl hc'
                    exact ⟨_, w', f2, ⟨b, d, hi', .inr ⟨l, rfl, f3, f5⟩⟩, v', f4, by simp [f1]⟩
                  · have hcap' := hcap
                    unfold CapR at hcap'
                    rw [if_neg hodd] at hcap'
                    obtain ⟨old2, p1, hcells⟩ := reads_cells r hi' hold
                    obtain ⟨w', g1, g2, g3⟩ := grow_row (P := P) (o := o) (n := n) (m := lenS x) (c' := c') r hi' hat hsz p1 n1 o2 n2 hb.2 hcells hcap'.2 (by omega)
                    refine ⟨_, w', g2, g3, .slice (some ⟨b, d + o, none⟩) (n + lenS x) c', ?_, ?_⟩
                    · have := VR.slice (ρ := ρ.add h.size (b, d + o) (ρ.lim i)) 0 (n + lenS x) (2 * (n + lenS x) + 1) c' (Ren.add_same ρ h.size _ _) (by
                        unfold CapR
                        rw [if_neg (by omega), Ren.add_lim]
                        exact ⟨by omega, by simpa using hcap'.2⟩)
                      simpa using this
                    · have := append_room (P := P) (w := w) (ty := ty) (base := some ⟨b, d + o, none⟩) (n := n) (c := c') hi n4 (n3 w.drawn) (by omega)
                      dsimp only at this
                      rw [addr_add] at this
                      simp [this, g1]
              · cases ha
            · cases ha
          · obtain ⟨rfl, rfl⟩ := ha
            have hev := Nat.eq_of_beq_eq_true hev
            cases hs with
            | slice0 =>
              obtain ⟨w', v', l, f1, f2, f3, f4, f5⟩ := fresh none 0 rfl (by omega)
              exact ⟨_, w', f2, ⟨l, rfl, f3, f5⟩, v', f4, by simp [f1]⟩
            | sliceD a =>
              obtain ⟨w', v', l, f1, f2, f3, f4, f5⟩ := fresh (some a) 0 rfl (by omega)
              exact ⟨_, w', f2, ⟨l, rfl, f3, f5⟩, v', f4, by simp [f1]⟩
            | sliceE _ o' _ hi' hc1 =>
              obtain ⟨w', v', l, f1, f2, f3, f4, f5⟩ := fresh _ 0 rfl (by omega)
              exact ⟨_, w', f2, ⟨l, rfl, f3, f5⟩, v', f4, by simp [f1]⟩
            | slice _ _ _ c' hi' hcap =>
              have hcap' := hcap
              unfold CapR at hcap'
              rw [if_pos hev] at hcap'
              obtain ⟨w', v', l, f1, f2, f3, f4, f5⟩ := fresh _ c' rfl (by omega)
              exact ⟨_, w', f2, ⟨l, rfl, f3, f5⟩, v', f4, by simp [f1]⟩
        · cases ha
      · -- room that is known
        have hle := Nat.le_of_ble_eq_true hroom
        have room : ∀ c', c' = c / 2 ∨ c / 2 ≤ c' → n + lenS x ≤ c' := fun c' hc' => by omega
        cases hm : Nat.beq (lenS x) 0 <;> rw [hm] at ha <;> simp at ha
        · split at ha
          · rename_i i o
            split at ha
            · rename_i cs k hat
              cases hb : (Nat.ble (o + n * sz + new.length) cs.length && new.all Value.oneCell') <;> rw [hb] at ha <;> simp at ha
              obtain ⟨rfl, rfl⟩ := ha
              rw [Bool.and_eq_true] at hb
              have hlen := Nat.le_of_ble_eq_true hb.1
              cases hs with
              | sliceE _ o' _ hi' hc1 =>
                exfalso
                have : lenS x = 0 := by omega
                rw [this] at hm; cases hm
              | slice _ _ _ c' hi' hcap =>
                rename_i b d
                have ho := r.obj _ _ _ hi'
                rw [hat] at ho
                have hc' : c / 2 ≤ c' := by
                  unfold CapR at hcap
                  split at hcap <;> omega
                obtain ⟨w', g1, g2, g3⟩ := write_row (P := P) (h := h) (o := o + n * sz) hi' ho n1 hb.2 hlen
                refine ⟨ρ, w', g2, g3, .slice (some ⟨b, d + o, none⟩) (n + lenS x) c', .slice _ _ _ _ hi' hcap, ?_⟩
                have := append_room (P := P) (w := w) (ty := ty) (base := some ⟨b, d + o, none⟩) (n := n) (c := c') hi n4 (n3 w.drawn) (by omega)
                dsimp only at this
                rw [addr_add, Nat.add_assoc] at this
                simp [this, g1]
            · cases ha
          · cases ha
        · obtain ⟨rfl, rfl⟩ := ha
          have hm0 := Nat.eq_of_beq_eq_true hm
          have hnew0 : new = [] := List.eq_nil_of_length_eq_zero (by rw [n2, hm0, Nat.zero_mul])
          have hnew1 : new' = [] := List.eq_nil_of_length_eq_zero (by rw [← n1.1, hnew0]; rfl)
          subst hnew1
          have fin : ∀ base' c', s' = .slice base' n c' → n + lenS x ≤ c' → (Builtin.append_ ts ty #[s', x']).run P w = .ok s' w := fun base' c' hs' hc' => by
            subst hs'
            have := append_room (P := P) (w := w) (ty := ty) (base := base') (n := n) (c := c') hi n4 (n3 w.drawn) hc'
            rw [this, hm0]
            cases base' <;> simp [storeCells]
          refine OpOK.val_bind hs ?_
          cases hs with
          | slice0 => exact fin none 0 rfl (by omega)
          | sliceD a => exact fin (some a) 0 rfl (by omega)
          | sliceE _ o' _ hi' hc1 => exact fin _ 0 rfl (by omega)
          | slice _ _ _ c' hi' hcap =>
            refine fin _ c' rfl ?_
            unfold CapR at hcap
            split at hcap <;> omega
    · cases ha
  · cases ha

end Go.Abs
