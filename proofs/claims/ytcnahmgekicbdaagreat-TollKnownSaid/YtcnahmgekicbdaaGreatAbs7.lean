/- The abstract interpreter, 7: maps. -/
import Derived.Test.YtcnahmgekicbdaaGreatAbs6
noncomputable section
namespace Go.Abs
variable {P : Program} {ρ : Ren} {h : H} {w : World}

theorem EL.length {es es' : List MapEntry} (e : EL ρ es es') : es'.length = es.length := by
  induction e with
  | nil => rfl
  | cons _ _ _ _ _ ih => simp [ih]

theorem EL.get {es es' : List MapEntry} (e : EL ρ es es') : ∀ {i : Nat} {x : MapEntry}, es[i]? = some x → ∃ x', es'[i]? = some x' ∧ x'.key = x.key ∧ plain x.key = true ∧ x'.born = x.born ∧ VR ρ x.val x'.val := by
  induction e with
  | nil => intro i x hx; simp at hx
  | cons hk hp hb hv _ ih =>
    intro i x hx
    cases i with
    | zero => simp at hx; subst hx; exact ⟨_, rfl, hk, hp, hb, hv⟩
    | succ i => simp at hx; simpa using ih hx

theorem EL.modify {es es' : List MapEntry} (e : EL ρ es es') {f f' : MapEntry → MapEntry} (hf : ∀ x x', x'.key = x.key → plain x.key = true → x'.born = x.born → VR ρ x.val x'.val →
    (f' x').key = (f x).key ∧ plain (f x).key = true ∧ (f' x').born = (f x).born ∧ VR ρ (f x).val (f' x').val) : ∀ (i : Nat), EL ρ (es.modify i f) (es'.modify i f') := by
  induction e with
  | nil => intro i; cases i <;> exact .nil
  | cons hk hp hb hv t ih =>
    intro i
    cases i with
    | zero =>
      obtain ⟨a, b, c, d⟩ := hf _ _ hk hp hb hv
      exact .cons a b c d t
    | succ i => exact .cons hk hp hb hv (ih i)

theorem EL.snoc {es es' : List MapEntry} (e : EL ρ es es') {x x' : MapEntry} (hk : x'.key = x.key) (hp : plain x.key = true) (hb : x'.born = x.born) (hv : VR ρ x.val x'.val) : EL ρ (es ++ [x]) (es' ++ [x']) := by
  induction e with
  | nil => exact .cons hk hp hb hv .nil
  | cons a b c d _ ih => exact .cons a b c d ih

theorem EL.erase {es es' : List MapEntry} (e : EL ρ es es') : ∀ (i : Nat), EL ρ (es.eraseIdx i) (es'.eraseIdx i) := by
  induction e with
  | nil => intro i; exact .nil
  | cons a b c d t ih =>
    intro i
    cases i with
    | zero => exact t
    | succ i => exact .cons a b c d (ih i)

/-- Two findings: the same place, and values of which one stands for the other. -/
def FR (ρ : Ren) : Option (Nat × Value) → Option (Nat × Value) → Prop
  | none, none => True
  | some (i, v), some (j, v') => j = i ∧ VR ρ v v'
  | _, _ => False

theorem findNow_sound (kd : TypeDesc) (k : Value) {es es' : List MapEntry} (e : EL ρ es es') : ∀ (i : Nat) r, Instr.findNow kd k es i = some r → ∃ r', Instr.findNow kd k es' i = some r' ∧ FR ρ r r' := by
  induction e with
  | nil => intro i r hr; simp only [Instr.findNow, Option.some.injEq] at hr; subst hr; exact ⟨none, rfl, trivial⟩
  | cons hk hp hb hv t ih =>
    intro i r hr
    simp only [Instr.findNow] at hr ⊢
    rw [hk]
    split at hr
    · cases hr; exact ⟨_, rfl, rfl, hv⟩
    · exact ih _ _ hr
    · cases hr
theorem findNow_none (kd : TypeDesc) (k : Value) {es es' : List MapEntry} (e : EL ρ es es') : ∀ (i : Nat), Instr.findNow kd k es i = none → Instr.findNow kd k es' i = none := by
  induction e with
  | nil => intro i hr; simp [Instr.findNow] at hr
  | cons hk hp hb hv t ih =>
    intro i hr
    simp only [Instr.findNow] at hr ⊢
    rw [hk]
    split at hr
    · cases hr
    · exact ih _ hr
    · rfl

theorem pureRun_bind {α β : Type} : ∀ (s : Sem α) (f : α → Sem β) (b : β), pureRun P (s >>= f) = some (.ok b) → ∃ a, pureRun P s = some (.ok a) ∧ pureRun P (f a) = some (.ok b) := by
  intro s
  induction s with
  | pure a => intro f b hb; exact ⟨a, rfl, hb⟩
  | program k ih => intro f b hb; exact ih P f b hb
  | halt x => intro f b hb; cases x <;> cases hb
  | load | store | new | shape | freeze | frozen | getObj | setObj | choose | sys | mark => intro f b hb; cases hb

theorem findAsking_sound (kt : TypeId) (k : Value) {es es' : List MapEntry} (e : EL ρ es es') : ∀ (i : Nat) r, pureRun P (Instr.findAsking kt k es i) = some (.ok r) → ∃ r', (Instr.findAsking kt k es' i).run P w = .ok r' w ∧ FR ρ r r' := by
  induction e with
  | nil => intro i r hr; simp only [Instr.findAsking] at hr; cases hr; exact ⟨none, rfl, trivial⟩
  | @cons e e' es es' hk hp hb hv t ih =>
    intro i r hr
    simp only [Instr.findAsking] at hr ⊢
    obtain ⟨b, h1, h2⟩ := pureRun_bind _ _ _ hr
    rw [hk]
    have hb1 := pureRun_ok _ _ h1 w
    cases b with
    | true =>
      simp only [if_true] at h2
      cases h2
      exact ⟨some (i, e'.val), by simp [hb1], rfl, hv⟩
    | false =>
      simp only [Bool.false_eq_true, if_false] at h2
      obtain ⟨r', q1, q2⟩ := ih (i + 1) r h2
      exact ⟨r', by simp [hb1, q1], q2⟩

theorem findKey_sound (kt : TypeId) (k : Value) {es : List MapEntry} {es' : List MapEntry} (e : EL ρ es es') {r : Option (Nat × Value)} (hr : pureRun P (Instr.findKey kt k es) = some (.ok r)) :
    ∃ r', (Instr.findKey kt k es').run P w = .ok r' w ∧ FR ρ r r' := by
  unfold Instr.findKey at hr ⊢
  obtain ⟨d, h1, h2⟩ := pureRun_bind _ _ _ hr
  have hd := pureRun_ok _ _ h1 w
  cases hf : Instr.findNow d k es 0 with
  | some x =>
    rw [hf] at h2
    simp only [Pure.pure, pureRun, Option.some.injEq, Except.ok.injEq] at h2
    subst h2
    obtain ⟨r', q1, q2⟩ := findNow_sound d k e 0 x hf
    exact ⟨r', by simp [hd, q1], q2⟩
  | none =>
    rw [hf] at h2
    obtain ⟨r', q1, q2⟩ := findAsking_sound (P := P) (w := w) kt k e 0 r h2
    exact ⟨r', by simp [hd, findNow_none d k e 0 hf, q1], q2⟩

/-- A map value, opened. -/
def amap (h : H) (m : Value) : Option (List MapEntry × Nat) :=
  match m with
  | .map none => some ([], 0)
  | .map (some i) => match h.at i with
    | .map es c => some (es, c)
    | _ => none
  | _ => none

theorem run_getObj_map {b c : Nat} {es : Array MapEntry} (hb : w.heap[b]? = some (.map es c)) : (getObj b).run P w = .ok (.map es c) w := by
  simp [getObj, Sem.run, hb]
theorem run_setObj_map {b c : Nat} {es : Array MapEntry} {o : Obj} (hb : w.heap[b]? = some (.map es c)) : (setObj b o).run P w = .ok () { w with heap := w.heap.setIfInBounds b o } := by
  simp [setObj, Sem.run, hb]

def okKey (P : Program) (e : Bool) (kt : TypeId) (k : Value) : Bool :=
  plain k && (match pureRun P (Instr.checkKey e 10000 kt k) with | some (.ok _) => true | _ => false)
theorem okKey_spec {e : Bool} {kt : TypeId} {k k' : Value} (hk : VR ρ k k') (h : okKey P e kt k = true) : k' = k ∧ plain k = true ∧ ∀ w, (Instr.checkKey e 10000 kt k).run P w = .ok () w := by
  unfold okKey at h
  rw [Bool.and_eq_true] at h
  refine ⟨VR.plain_eq h.1 hk, h.1, fun w => ?_⟩
  have := h.2
  split at this
  · rename_i e; exact pureRun_ok _ _ e w
  · cases this

def afind (P : Program) (kt : TypeId) (k : Value) (es : List MapEntry) : Option (Option (Nat × Value)) :=
  match pureRun P (Instr.findKey kt k es) with
  | some (.ok r) => some r
  | _ => none
theorem afind_sound {kt : TypeId} {k : Value} {es es' : List MapEntry} {r : Option (Nat × Value)} (e : EL ρ es es') (ha : afind P kt k es = some r) :
    ∃ r', (Instr.findKey kt k es').run P w = .ok r' w ∧ FR ρ r r' := by
  unfold afind at ha
  split at ha
  · rename_i q; cases ha; exact findKey_sound kt k e q
  · cases ha

theorem VR.pair {a a' b b' : Value} (h1 : VR ρ a a') (h2 : VR ρ b b') : VR ρ (.tuple #[a, b]) (.tuple #[a', b']) := by
  refine .tuple _ _ rfl fun i v v' e e' => ?_
  match i with
  | 0 => simp at e e'; subst e e'; exact h1
  | 1 => simp at e e'; subst e e'; exact h2
  | i + 2 => simp at e

def alookup (P : Program) (h : H) (t : TypeId) (m k : Value) (ok : Bool) : Option Value :=
  match P.underlying t, amap h m with
  | some (.map kt et), some (es, _) =>
    bif okKey P es.isEmpty kt k then
      match afind P kt k es with
      | some (some (_, v)) => some (bif ok then .tuple #[v, .bool true] else v)
      | some none => match zeroP P et with
        | some z => some (bif ok then .tuple #[z, .bool false] else z)
        | none => none
      | none => none
    else none
  | _, _ => none

theorem amap_sound {m m' : Value} {es : List MapEntry} {c : Nat} (r : Rel ρ h w) (hm : VR ρ m m') (ha : amap h m = some (es, c)) :
    (m = .map none ∧ m' = .map none ∧ es = []) ∨ ∃ i b es', m = .map (some i) ∧ m' = .map (some b) ∧ ρ i = some (b, 0) ∧ h.at i = .map es c ∧ w.heap[b]? = some (.map es' c) ∧ EL ρ es es'.toList := by
  unfold amap at ha
  split at ha
  · cases hm; cases ha; exact .inl ⟨rfl, rfl, rfl⟩
  · rename_i i
    cases hm with
    | map hi =>
      rename_i b
      split at ha
      · rename_i es0 c0 hat
        cases ha
        have := r.obj _ _ _ hi
        rw [hat] at this
        obtain ⟨_, es', h1, h2⟩ := this
        exact .inr ⟨i, b, es', rfl, rfl, hi, hat, h1, h2⟩
      · cases ha
  · cases ha

theorem FR.some {i : Nat} {v : Value} {r' : Option (Nat × Value)} (h : FR ρ (some (i, v)) r') : ∃ v', r' = some (i, v') ∧ VR ρ v v' := by
  cases r' with
  | none => exact h.elim
  | some p => obtain ⟨j, v'⟩ := p; obtain ⟨rfl, hv⟩ := h; exact ⟨v', rfl, hv⟩
theorem FR.none {r' : Option (Nat × Value)} (h : FR ρ none r') : r' = Option.none := by
  cases r' with
  | none => rfl
  | some p => exact h.elim

theorem lookup_run {t kt et : TypeId} {m k : Value} {ok : Bool} {es' : Array MapEntry} {r' : Option (Nat × Value)} {z : Value} (hu : P.underlying t = some (.map kt et))
    (hm : (m = .map none ∧ es' = #[]) ∨ ∃ b c, m = .map (some b) ∧ w.heap[b]? = some (.map es' c))
    (hck : (Instr.checkKey es'.isEmpty 10000 kt k).run P w = .ok () w) (q : (Instr.findKey kt k es'.toList).run P w = .ok r' w) (hz : r' = none → (zeroValue et).run P w = .ok z w) :
    (Instr.lookup t m k ok).run P w = .ok (match r' with | some (_, v) => if ok then .tuple #[v, .bool true] else v | none => if ok then .tuple #[z, .bool false] else z) w := by
  rcases hm with ⟨rfl, rfl⟩ | ⟨b, c, rfl, hb⟩
  · cases r' with
    | none => simp [Instr.lookup, run_underlying hu] at *; simp [hck, q, hz]
    | some p => simp [Instr.lookup, run_underlying hu] at *; simp [hck, q]
  · cases r' with
    | none => simp [Instr.lookup, run_underlying hu, run_getObj_map hb, hck, q, hz]
    | some p => simp [Instr.lookup, run_underlying hu, run_getObj_map hb, hck, q]

theorem lookup_sound {t : TypeId} {m m' k k' v : Value} {ok : Bool} (r : Rel ρ h w) (hm : VR ρ m m') (hk : VR ρ k k') (ha : alookup P h t m k ok = some v) :
    ∃ v', VR ρ v v' ∧ (Instr.lookup t m' k' ok).run P w = .ok v' w := by
  unfold alookup at ha
  split at ha
  · rename_i kt et es c hu hmap
    cases hok : okKey P es.isEmpty kt k <;> rw [hok] at ha <;> simp at ha
    obtain ⟨rfl, _, hck⟩ := okKey_spec hk hok
    obtain ⟨es', hes, hm'⟩ : ∃ es' : Array MapEntry, EL ρ es es'.toList ∧ ((m' = .map none ∧ es' = #[]) ∨ ∃ b c, m' = .map (some b) ∧ w.heap[b]? = some (.map es' c)) := by
      rcases amap_sound r hm hmap with ⟨rfl, rfl, rfl⟩ | ⟨i, b, es', rfl, rfl, hi, hat, hb, hes⟩
      · exact ⟨#[], .nil, .inl ⟨rfl, rfl⟩⟩
      · exact ⟨es', hes, .inr ⟨b, c, rfl, hb⟩⟩
    have hemp : es'.isEmpty = es.isEmpty := by
      have := hes.length
      rw [Array.length_toList] at this
      rw [Bool.eq_iff_iff, Array.isEmpty_iff_size_eq_zero, List.isEmpty_iff_length_eq_zero]
      omega
    have hck' : (Instr.checkKey es'.isEmpty 10000 kt k').run P w = .ok () w := by rw [hemp]; exact hck w
    split at ha
    · rename_i j v0 hf
      obtain ⟨r', q1, q2⟩ := afind_sound (w := w) hes hf
      obtain ⟨v', rfl, hv⟩ := FR.some q2
      cases ha
      refine ⟨_, ?_, lookup_run (z := undef) hu hm' hck' q1 (fun e => by cases e)⟩
      cases ok
      · exact hv
      · exact VR.pair hv (.bool true)
    · rename_i hf
      split at ha
      · rename_i z hz
        obtain ⟨z1, z2, z3⟩ := zeroP_spec hz
        obtain ⟨r', q1, q2⟩ := afind_sound (w := w) hes hf
        obtain rfl := FR.none q2
        cases ha
        refine ⟨_, ?_, lookup_run hu hm' hck' q1 (fun _ => z1 w)⟩
        cases ok
        · exact VR.plain_refl z3
        · exact VR.pair (VR.plain_refl z3) (.bool false)
      · cases ha
    · cases ha
  · cases ha

/-- A map's block laid anew. -/
theorem real_map {i b c c' : Nat} {es : List MapEntry} {es0 : Array MapEntry} {es' : Array MapEntry} (hi : ρ i = some (b, 0)) (hb : w.heap[b]? = some (.map es0 c)) (he : EL ρ es es'.toList) :
    Same w { w with heap := w.heap.setIfInBounds b (.map es' c') } ∧ (Eff.upd i (.map es c')).real ρ h w ρ { w with heap := w.heap.setIfInBounds b (.map es' c') } := by
  have hlt : b < w.heap.size := by
    rcases Nat.lt_or_ge b w.heap.size with hh | hh
    · exact hh
    · rw [Array.getElem?_eq_none hh] at hb; cases hb
  refine ⟨⟨rfl, rfl, rfl⟩, rfl, b, 0, hi, by simp, fun k hk => ?_, rfl, es', ?_, he⟩
  · simp [Ne.symm hk]
  · simp [hlt]

def amapUpdate (P : Program) (h : H) (t : TypeId) (m k x : Value) : Option Eff :=
  match P.underlying t, m, amap h m with
  | some (.map kt _), .map (some i), some (es, c) =>
    bif okKey P false kt k then
      match afind P kt k es with
      | some (some (j, _)) => match es[j]? with
        | some e => bif Instr.sameBits 10000 e.key k then some (.upd i (.map (es.modify j fun e => { e with key := k, val := x }) c)) else none
        | none => none
      | some none => some (.upd i (.map (es ++ [{ key := k, val := x, born := c }]) (c + 1)))
      | none => none
    else none
  | _, _, _ => none

theorem mapUpdate_sound {t : TypeId} {m m' k k' x x' : Value} {E : Eff} (r : Rel ρ h w) (hm : VR ρ m m') (hk : VR ρ k k') (hx : VR ρ x x') (ha : amapUpdate P h t m k x = some E) :
    OpOK P ρ h w (do Instr.mapUpdate t m' k' x'; pure .skip) .skip E := by
  unfold amapUpdate at ha
  split at ha
  · rename_i kt et i es c hu hmap
    cases hok : okKey P false kt k <;> rw [hok] at ha <;> simp at ha
    obtain ⟨rfl, hpl, hck⟩ := okKey_spec hk hok
    rcases amap_sound r hm hmap with ⟨h0, _, _⟩ | ⟨i', b, es', h0, rfl, hi, hat, hb, hes⟩
    · cases h0
    · cases h0
      split at ha
      · rename_i j v0 hf
        obtain ⟨r', q1, q2⟩ := afind_sound (w := w) hes hf
        obtain ⟨v', rfl, _⟩ := FR.some q2
        split at ha
        · rename_i e he
          cases hsb : Instr.sameBits 10000 e.key k' <;> rw [hsb] at ha <;> simp at ha
          subst ha
          obtain ⟨e', g1, g2, g3, g4, g5⟩ := hes.get he
          have he' : es'[j]? = some e' := by simpa using g1
          obtain ⟨p1, p2⟩ := real_map (h := h) (c' := c) (es := es.modify j fun e => { e with key := k', val := x }) (es' := es'.modify j fun e => { e with key := k', val := x' }) hi hb
            (by rw [Array.toList_modify]; exact hes.modify (f := fun e => { e with key := k', val := x }) (f' := fun e => { e with key := k', val := x' }) (fun y y' a1 a2 a3 a4 => ⟨rfl, hpl, a3, hx⟩) j)
          refine ⟨ρ, _, p1, p2, ?_⟩
          show Sem.run P _ w = _
          simp [Instr.mapUpdate, run_underlying hu, run_getObj_map hb, hck, q1, he', g2, Instr.keyThatStays, hsb, run_setObj_map hb]
        · cases ha
      · rename_i hf
        cases ha
        obtain ⟨r', q1, q2⟩ := afind_sound (w := w) hes hf
        obtain rfl := FR.none q2
        obtain ⟨p1, p2⟩ := real_map (h := h) (c' := c + 1) (es := es ++ [{ key := k', val := x, born := c }]) (es' := es'.push { key := k', val := x', born := c }) hi hb
            (by rw [Array.toList_push]; exact hes.snoc rfl hpl rfl hx)
        refine ⟨ρ, _, p1, p2, ?_⟩
        show Sem.run P _ w = _
        simp [Instr.mapUpdate, run_underlying hu, run_getObj_map hb, hck, q1, run_setObj_map hb]
      · cases ha
  · cases ha

def amapEntry (P : Program) (h : H) (t : TypeId) (m k : Value) : Option (Value × Eff) :=
  match P.underlying t, m, amap h m with
  | some (.map kt et), .map (some i), some (es, c) =>
    bif okKey P false kt k then
      match afind P kt k es with
      | some (some (j, v)) => match es[j]? with
        | some e => bif Instr.sameBits 10000 e.key k then some (.tuple #[v, .int .i64 e.born], .upd i (.map (es.modify j fun e => { e with key := k }) c)) else none
        | none => none
      | some none => match zeroP P et with
        | some z => some (.tuple #[z, .int .i64 c], .upd i (.map (es ++ [{ key := k, val := z, born := c }]) (c + 1)))
        | none => none
      | none => none
    else none
  | _, _, _ => none

theorem mapEntry_sound {t : TypeId} {m m' k k' v : Value} {E : Eff} (r : Rel ρ h w) (hm : VR ρ m m') (hk : VR ρ k k') (ha : amapEntry P h t m k = some (v, E)) :
    OpOK P ρ h w (do pure (.value (← Instr.mapEntry t m' k'))) (.val v) E := by
  unfold amapEntry at ha
  split at ha
  · rename_i kt et i es c hu hmap
    cases hok : okKey P false kt k <;> rw [hok] at ha <;> simp at ha
    obtain ⟨rfl, hpl, hck⟩ := okKey_spec hk hok
    rcases amap_sound r hm hmap with ⟨h0, _, _⟩ | ⟨i', b, es', h0, rfl, hi, hat, hb, hes⟩
    · cases h0
    · cases h0
      split at ha
      · rename_i j v0 hf
        obtain ⟨r', q1, q2⟩ := afind_sound (w := w) hes hf
        obtain ⟨v', rfl, hv'⟩ := FR.some q2
        split at ha
        · rename_i e he
          cases hsb : Instr.sameBits 10000 e.key k' <;> rw [hsb] at ha <;> simp at ha
          obtain ⟨rfl, rfl⟩ := ha
          obtain ⟨e', g1, g2, g3, g4, g5⟩ := hes.get he
          have he' : es'[j]? = some e' := by simpa using g1
          obtain ⟨p1, p2⟩ := real_map (h := h) (c' := c) (es := es.modify j fun e => { e with key := k' }) (es' := es'.modify j fun e => { e with key := k' }) hi hb
            (by rw [Array.toList_modify]; exact hes.modify (f := fun e => { e with key := k' }) (f' := fun e => { e with key := k' }) (fun y y' a1 a2 a3 a4 => ⟨rfl, hpl, a3, a4⟩) j)
          refine ⟨ρ, _, p1, p2, .tuple #[v', .int .i64 e.born], VR.pair hv' (.int _ _), ?_⟩
          simp [Instr.mapEntry, run_underlying hu, run_getObj_map hb, hck, q1, he', g2, g4, Instr.keyThatStays, hsb, run_setObj_map hb, goInt]
        · cases ha
      · rename_i hf
        split at ha
        · rename_i z hz
          cases ha
          obtain ⟨z1, z2, z3⟩ := zeroP_spec hz
          obtain ⟨r', q1, q2⟩ := afind_sound (w := w) hes hf
          obtain rfl := FR.none q2
          obtain ⟨p1, p2⟩ := real_map (h := h) (c' := c + 1) (es := es ++ [{ key := k', val := z, born := c }]) (es' := es'.push { key := k', val := z, born := c }) hi hb
              (by rw [Array.toList_push]; exact hes.snoc rfl hpl rfl (VR.plain_refl z3))
          refine ⟨ρ, _, p1, p2, .tuple #[z, .int .i64 c], VR.pair (VR.plain_refl z3) (.int _ _), ?_⟩
          simp [Instr.mapEntry, run_underlying hu, run_getObj_map hb, hck, q1, z1, run_setObj_map hb, goInt]
        · cases ha
      · cases ha
  · cases ha

theorem EL.findIdx {es es' : List MapEntry} (e : EL ρ es es') (s : Int) : es'.findIdx? (fun e => (e.born : Int) == s) = es.findIdx? (fun e => (e.born : Int) == s) := by
  induction e with
  | nil => rfl
  | cons hk hp hb hv _ ih => simp only [List.findIdx?_cons, hb, ih]

theorem arr_findIdx {α : Type} (es : Array α) (p : α → Bool) : es.findIdx? p = es.toList.findIdx? p := by cases es; simp

def aentryStore (h : H) (m s x : Value) : Option Eff :=
  match m, amap h m, s with
  | .map (some i), some (es, c), .int _ n =>
    match es.findIdx? (fun e => (e.born : Int) == n) with
    | some j => some (.upd i (.map (es.modify j fun e => { e with val := x }) c))
    | none => none
  | _, _, _ => none

theorem entryStore_sound {t : TypeId} {m m' s s' x x' : Value} {E : Eff} (r : Rel ρ h w) (hm : VR ρ m m') (hs : VR ρ s s') (hx : VR ρ x x') (ha : aentryStore h m s x = some E) :
    OpOK P ρ h w (do Instr.entryStore t m' s' x'; pure .skip) .skip E := by
  unfold aentryStore at ha
  split at ha
  · rename_i i es c q n hmap
    cases hs
    rcases amap_sound r hm hmap with ⟨h0, _, _⟩ | ⟨i', b, es', h0, rfl, hi, hat, hb, hes⟩
    · cases h0
    · cases h0
      split at ha
      · rename_i j hj
        cases ha
        obtain ⟨p1, p2⟩ := real_map (h := h) (c' := c) (es := es.modify j fun e => { e with val := x }) (es' := es'.modify j fun e => { e with val := x' }) hi hb
            (by rw [Array.toList_modify]; exact hes.modify (f := fun e => { e with val := x }) (f' := fun e => { e with val := x' }) (fun y y' a1 a2 a3 a4 => ⟨a1, a2, a3, hx⟩) j)
        have hj' : es'.findIdx? (fun e => (e.born : Int) == n) = some j := by rw [arr_findIdx, hes.findIdx, hj]
        refine ⟨ρ, _, p1, p2, ?_⟩
        show Sem.run P _ w = _
        simp [Instr.entryStore, run_getObj_map hb, asInt, asIntOf, hj', run_setObj_map hb]
      · cases ha
  · cases ha

def adelete (P : Program) (h : H) (t : TypeId) (m k : Value) : Option Eff :=
  match P.underlying t, m, amap h m with
  | some (.map kt _), .map (some i), some (es, c) =>
    bif okKey P es.isEmpty kt k then
      match afind P kt k es with
      | some (some (j, _)) => some (.upd i (.map (es.eraseIdx j) c))
      | some none => some (.upd i (.map es c))
      | none => none
    else none
  | _, _, _ => none

theorem delete_sound {t ty : TypeId} {ts : Array TypeId} {m m' k k' : Value} {E : Eff} (ht : ts[0]? = some t) (r : Rel ρ h w) (hm : VR ρ m m') (hk : VR ρ k k') (ha : adelete P h t m k = some E) :
    OpOK P ρ h w (do pure (.value (← Builtin.delete_ ts ty #[m', k']))) (.val (.tuple #[])) E := by
  unfold adelete at ha
  split at ha
  · rename_i kt et i es c hu hmap
    cases hok : okKey P es.isEmpty kt k <;> rw [hok] at ha <;> simp at ha
    obtain ⟨rfl, hpl, hck⟩ := okKey_spec hk hok
    rcases amap_sound r hm hmap with ⟨h0, _, _⟩ | ⟨i', b, es', h0, rfl, hi, hat, hb, hes⟩
    · cases h0
    · cases h0
      have hemp : es'.isEmpty = es.isEmpty := by
        have := hes.length
        rw [Array.length_toList] at this
        rw [Bool.eq_iff_iff, Array.isEmpty_iff_size_eq_zero, List.isEmpty_iff_length_eq_zero]
        omega
      split at ha
      · rename_i j v0 hf
        cases ha
        obtain ⟨r', q1, q2⟩ := afind_sound (w := w) hes hf
        obtain ⟨v', rfl, hv'⟩ := FR.some q2
        have e2 : (es'.eraseIdxIfInBounds j).toList = es'.toList.eraseIdx j := by
          simp
        obtain ⟨p1, p2⟩ := real_map (h := h) (c' := c) (es := es.eraseIdx j) (es' := es'.eraseIdxIfInBounds j) hi hb (by rw [e2]; exact hes.erase j)
        refine ⟨ρ, _, p1, p2, .tuple #[], VR.plain_refl (by rfl), ?_⟩
        simp [Builtin.delete_, ht, run_underlying hu, run_getObj_map hb, hemp, hck, q1, run_setObj_map hb]
      · cases ha
        rename_i hf
        obtain ⟨r', q1, q2⟩ := afind_sound (w := w) hes hf
        obtain rfl := FR.none q2
        obtain ⟨p1, p2⟩ := real_map (h := h) (c' := c) (es := es) (es' := es') hi hb hes
        refine ⟨ρ, _, p1, p2, .tuple #[], VR.plain_refl (by rfl), ?_⟩
        simp [Builtin.delete_, ht, run_underlying hu, run_getObj_map hb, hemp, hck, q1, run_setObj_map hb]
      · cases ha
  · cases ha

end Go.Abs
