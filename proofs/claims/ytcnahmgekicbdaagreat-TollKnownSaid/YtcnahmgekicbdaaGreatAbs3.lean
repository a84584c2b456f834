/- The abstract interpreter, 3: operations that turn no object: pure ones, loads, addresses, lookups of fields, comparisons with nil. -/
import Derived.Test.YtcnahmgekicbdaaGreatAbs2
noncomputable section
namespace Go.Abs

inductive AN where
  | val (v : Value)
  | skip
  | enter (f : FuncId) (args : Array Value)
  | round (l : Nat) (args : Array Value)
  | dfr (d : Deferred)
  | recov
  | panic (v : Value)

structure DefR (ρ : Ren) (d d' : Deferred) : Prop where
  target : ∃ f cap cap', d.target = .fn (.func f) cap ∧ d'.target = .fn (.func f) cap' ∧ VRs ρ cap cap'
  args : VRs ρ d.args d'.args

def NextR (ρ : Ren) (w : World) : AN → Result Next → Prop
  | .val v, r => ∃ v', VR ρ v v' ∧ r = .ok (.value v') w
  | .skip, r => r = .ok .skip w
  | .enter f args, r => ∃ args', VRs ρ args args' ∧ r = .ok (.enter f args') w
  | .round l args, r => ∃ l' k args', ρ l = some (l', 0) ∧ w.heap[l']? = some (.loop k) ∧ VRs ρ args args' ∧ r = .ok (.round l' k.fn ((k.params.zip args').foldl (fun tmps (t, a) => tmps.setIfInBounds t a) k.tmps) k.assign k.body) w
  | .dfr d, r => ∃ d', DefR ρ d d' ∧ r = .ok (.defer d') w
  | .recov, r => r = .ok .recover w
  | .panic v, r => ∃ v', VR ρ v v' ∧ r = .halt (.panic v') w

def OpOK (P : Program) (ρ : Ren) (h : H) (w : World) (s : Sem Next) (nx : AN) (E : Eff) : Prop :=
  ∃ ρ' w', Same w w' ∧ E.real ρ h w ρ' w' ∧ NextR ρ' w' nx (s.run P w)

theorem Same.refl (w : World) : Same w w := ⟨rfl, rfl, rfl⟩

variable {P : Program} {ρ : Ren} {h : H} {w : World}

theorem OpOK.val {s : Sem Next} {v v' : Value} (hv : VR ρ v v') (hs : s.run P w = .ok (.value v') w) : OpOK P ρ h w s (.val v) .none :=
  ⟨ρ, w, Same.refl w, ⟨rfl, rfl⟩, v', hv, hs⟩
theorem OpOK.val_bind {s : Sem Value} {v v' : Value} (hv : VR ρ v v') (hs : s.run P w = .ok v' w) : OpOK P ρ h w (do pure (.value (← s))) (.val v) .none :=
  OpOK.val hv (by simp [hs])

/-! ### Runs that touch no world -/
def pureRun {α : Type} (P : Program) : Sem α → Option (Except Value α)
  | .pure a => some (.ok a)
  | .program k => pureRun P (k P)
  | .halt (.panic v) => some (.error v)
  | _ => none

theorem pureRun_ok {α : Type} : ∀ (s : Sem α) (a : α), pureRun P s = some (.ok a) → ∀ w, s.run P w = .ok a w := by
  intro s
  induction s with
  | pure a => intro b hb w; simp only [pureRun, Option.some.injEq, Except.ok.injEq] at hb; subst hb; rfl
  | program k ih => intro a hs w; exact ih P a hs w
  | halt x => intro a hs w; cases x <;> simp [pureRun] at hs
  | load | store | new | shape | freeze | frozen | getObj | setObj | choose | sys | mark => intro a hs; simp [pureRun] at hs

theorem pureRun_error {α : Type} : ∀ (s : Sem α) (v : Value), pureRun P s = some (.error v) → ∀ w, s.run P w = .halt (.panic v) w := by
  intro s
  induction s with
  | pure a => intro b hb; simp [pureRun] at hb
  | program k ih => intro a hs w; exact ih P a hs w
  | halt x => intro a hs w; cases x <;> simp [pureRun] at hs; subst hs; rfl
  | load | store | new | shape | freeze | frozen | getObj | setObj | choose | sys | mark => intro a hs; simp [pureRun] at hs

/-- A run that touches no world and gives a plain value. -/
def pval (P : Program) (s : Sem Value) : Option AN :=
  match pureRun P s with
  | some (.ok v) => bif plain v then some (.val v) else none
  | some (.error v) => bif plain v then some (.panic v) else none
  | none => none

theorem pval_sound {s : Sem Value} {nx : AN} (hp : pval P s = some nx) : OpOK P ρ h w (do pure (.value (← s))) nx .none := by
  unfold pval at hp
  split at hp
  · rename_i v e
    cases hpl : plain v <;> rw [hpl] at hp <;> simp at hp
    subst hp
    exact OpOK.val_bind (VR.plain_refl hpl) (pureRun_ok _ _ e w)
  · rename_i v e
    cases hpl : plain v <;> rw [hpl] at hp <;> simp at hp
    subst hp
    exact ⟨ρ, w, Same.refl w, ⟨rfl, rfl⟩, v, VR.plain_refl hpl, by simp [pureRun_error _ _ e w]⟩
  · cases hp

/-! ### Types -/
def isAggP (P : Program) (t : TypeId) : Option Bool :=
  match P.underlying t with
  | some (.struct _) | some (.array _ _) => some true
  | some _ => some false
  | none => none
def sizeP (P : Program) (t : TypeId) : Option Nat := (P.info? t).map (·.size)

theorem run_isAgg {t : TypeId} {b : Bool} (hb : isAggP P t = some b) : (isAgg t).run P w = .ok b w := by
  unfold isAggP at hb
  unfold isAgg
  split at hb
  all_goals first
    | (cases hb; done)
    | (rename_i e; cases hb; simp [run_underlying e])
    | (rename_i d h1 h2 e; cases hb; cases d <;> simp_all [run_underlying e])
theorem run_sizeOf {t : TypeId} {n : Nat} (hb : sizeP P t = some n) : (sizeOf t).run P w = .ok n w := by
  unfold sizeP at hb
  cases e : P.info? t with
  | none => rw [e] at hb; cases hb
  | some i => rw [e] at hb; simp at hb; simp [sizeOf, typeInfo, e, hb]

theorem addr_add (b o n : Nat) : (⟨b, o, none⟩ : Addr).add n = ⟨b, o + n, none⟩ := by
  unfold Addr.add; split <;> simp_all

/-! ### Loads -/
def aload (P : Program) (h : H) (t : TypeId) (v : Value) : Option Value :=
  match v with
  | .pointer (some ⟨i, o, none⟩) =>
    match h.at i with
    | .row cs _ _ =>
      match isAggP P t, sizeP P t with
      | some true, some n => bif Nat.ble (o + n) cs.length then some (.agg ((cs.drop o).take n).toArray) else none
      | some false, _ => cs[o]?
      | _, _ => none
    | _ => none
  | _ => none

theorem run_loadAt (t : TypeId) (a : Addr) : (Instr.loadAt t (.pointer (some a))).run P w = (loadVar t a).run P w := by
  simp [Instr.loadAt, Instr.sureAddr]

theorem row_cells {cs : List Value} {own : Bool} {b d o n sz : Nat} {l : Nat × Nat} (hr : ObjR ρ w b d l (.row cs own sz)) (hn : o + n ≤ cs.length) :
    ∃ vs' : List Value, vs'.length = n ∧ (∀ j, j < n → w.cell? ⟨b, d + o + j, none⟩ = some (vs'.getD j undef)) ∧ VRs ρ ((cs.drop o).take n).toArray vs'.toArray := by
  obtain ⟨cc, el, fz, hw, _, hlen, hv⟩ := hr
  refine ⟨(cc.toList.drop (d + o)).take n, by simp; omega, fun j hj => ?_, ?_, ?_⟩
  · have h1 : d + o + j < cc.size := by omega
    simp [World.cell?, hw, h1, hj, List.getD_eq_getElem?_getD]
  · simp; omega
  · intro j v v' e e'
    simp [List.getElem?_take] at e e'
    exact hv (o + j) v v' (by simpa using e.2) (by rw [← Nat.add_assoc]; simpa using e'.2)

theorem load_sound {t : TypeId} {v v' x : Value} (r : Rel ρ h w) (hv : VR ρ v v') (ha : aload P h t v = some x) :
    ∃ x', VR ρ x x' ∧ (Instr.loadAt t v').run P w = .ok x' w := by
  unfold aload at ha
  split at ha
  · rename_i i o
    cases hv with
    | ptr o hi =>
      rename_i b d
      have ho := r.obj _ _ _ hi
      split at ha
      · rename_i cs own sz hat
        rw [hat] at ho
        split at ha
        · rename_i n h1 h2
          cases hc : Nat.ble (o + n) cs.length <;> rw [hc] at ha <;> simp at ha
          subst ha
          obtain ⟨vs', hl, hcell, hvs⟩ := row_cells (o := o) (n := n) ho (Nat.le_of_ble_eq_true hc)
          refine ⟨.agg vs'.toArray, .agg _ _ hvs.1 hvs.2, ?_⟩
          have hlc := run_loadCellsFrom (P := P) (w := w) ⟨b, d + o, none⟩ (fun j => vs'.getD j undef) n 0 #[] (fun j hj => by rw [addr_add]; simpa using hcell j hj)
          have e : (List.range n).map (fun j => vs'.getD (0 + j) undef) = vs' := by
            apply List.ext_getElem (by simp [hl])
            intro j h1 h2
            simp at h1
            simp [h2]
          rw [e] at hlc
          rw [run_loadAt]
          simp [loadVar, run_isAgg h1, run_sizeOf h2, loadCells, hlc]
        · rename_i h1
          obtain ⟨cc, el, fz, hw, _, hlen, hvv⟩ := ho
          have hlt : o < cs.length := by
            rcases Nat.lt_or_ge o cs.length with hh | hh
            · exact hh
            · rw [List.getElem?_eq_none hh] at ha; cases ha
          have hcc : cc[d + o]? = some cc[d + o] := Array.getElem?_eq_getElem (by omega)
          refine ⟨cc[d + o], hvv o x _ ha hcc, ?_⟩
          rw [run_loadAt]
          have hcell : w.cell? ⟨b, d + o, none⟩ = some cc[d + o] := by simp [World.cell?, hw]
          simp [loadVar, run_isAgg h1, hcell]
        · cases ha
      · cases ha
  · cases ha

/-! ### Addresses -/
def afield (P : Program) (s : TypeId) (v : Value) (f : Nat) : Option Value :=
  match v, P.underlying s with
  | .pointer (some ⟨i, o, none⟩), some (.struct fs) =>
    match fs[f]? with
    | some x => match sizeP P x.type with
      | some (_ + 1) => some (.pointer (some ⟨i, o + x.offset, none⟩))
      | _ => none
    | none => none
  | _, _ => none

theorem field_sound {s : TypeId} {v v' x : Value} {f : Nat} (hv : VR ρ v v') (ha : afield P s v f = some x) :
    ∃ x', VR ρ x x' ∧ (Instr.fieldAt s v' f).run P w = .ok x' w := by
  unfold afield at ha
  split at ha
  · rename_i i o fs hs
    cases hv with
    | ptr o hi =>
      rename_i b d
      split at ha
      · rename_i y hy
        split at ha
        · rename_i n hn
          simp at ha; subst ha
          refine ⟨.pointer (some ⟨b, d + (o + y.offset), none⟩), .ptr _ hi, ?_⟩
          simp [Instr.fieldAt, run_underlying hs, hy, Instr.sureAddr, fieldPlace, run_sizeOf hn, addr_add, Nat.add_assoc]
        · cases ha
      · cases ha
  · cases ha

def aindex (P : Program) (t : TypeId) (v ix : Value) : Option Value :=
  match ix, P.underlying t, v with
  | .int _ (.ofNat k), some (.slice e), .slice (some ⟨i, o, none⟩) n _ =>
    match sizeP P e with
    | some sz => bif Nat.blt k n then some (.pointer (some ⟨i, o + k * sz, none⟩)) else none
    | none => none
  | .int _ (.ofNat k), some (.array n e), .pointer (some ⟨i, o, none⟩) =>
    match sizeP P e with
    | some sz => bif Nat.blt k n then some (.pointer (some ⟨i, o + k * sz, none⟩)) else none
    | none => none
  | _, _, _ => none

theorem index_sound {t : TypeId} {v v' ix ix' x : Value} (hv : VR ρ v v') (hi : VR ρ ix ix') (ha : aindex P t v ix = some x) :
    ∃ x', VR ρ x x' ∧ (Instr.indexAt t v' ix').run P w = .ok x' w := by
  unfold aindex at ha
  split at ha
  · rename_i q k e i o n c he
    cases hi
    split at ha
    · rename_i sz hsz
      cases hc : Nat.blt k n <;> rw [hc] at ha <;> simp at ha
      rw [Nat.blt_eq] at hc
      subst ha
      cases hv with
      | slice o n c c' hi hcap =>
        rename_i b d
        refine ⟨.pointer (some ⟨b, d + (o + k * sz), none⟩), .ptr _ hi, ?_⟩
        simp [Instr.indexAt, asIntOf, run_underlying he, run_sizeOf hsz, addr_add, Nat.add_assoc]
        intro hx; omega
      | sliceE o o' c hi hc1 => omega
    · cases ha
  · rename_i q k n e i o he
    cases hi
    split at ha
    · rename_i sz hsz
      cases hc : Nat.blt k n <;> rw [hc] at ha <;> simp at ha
      rw [Nat.blt_eq] at hc
      subst ha
      cases hv with
      | ptr o hi =>
        rename_i b d
        refine ⟨.pointer (some ⟨b, d + (o + k * sz), none⟩), .ptr _ hi, ?_⟩
        simp [Instr.indexAt, asIntOf, run_underlying he, run_sizeOf hsz, addr_add, Nat.add_assoc, Instr.sureAddr]
        intro hx; omega
    · cases ha
  · cases ha

/-! ### Parts of values -/
def apart (P : Program) (t : TypeId) (cs : Array Value) (off : Nat) : Option Value :=
  match isAggP P t, sizeP P t with
  | some true, some n => bif Nat.ble (off + n) cs.size then some (.agg ((cs.toList.drop off).take n).toArray) else none
  | some false, _ => cs.toList[off]?
  | _, _ => none

theorem part_sound {t : TypeId} {cs cs' : Array Value} {off : Nat} {x : Value} (hv : VRs ρ cs cs') (ha : apart P t cs off = some x) :
    ∃ x', VR ρ x x' ∧ (part t cs' off).run P w = .ok x' w := by
  unfold apart at ha
  split at ha
  · rename_i n h1 h2
    cases hc : Nat.ble (off + n) cs.size <;> rw [hc] at ha <;> simp at ha
    subst ha
    have hle := Nat.le_of_ble_eq_true hc
    have hsz := hv.1
    refine ⟨.agg (cs'.extract off (off + n)), .agg _ _ (by simp; omega) (fun i v v' e e' => ?_), by simp [part, run_isAgg h1, run_sizeOf h2]⟩
    simp [List.getElem?_take] at e
    have hi : i < n := e.1
    rw [Array.getElem?_extract, if_pos (by omega)] at e'
    exact hv.2 (off + i) v v' (by simpa using e.2) e'
  · rename_i h1
    have hx : cs[off]? = some x := by simpa using ha
    have hlt : off < cs.size := by
      rcases Nat.lt_or_ge off cs.size with hh | hh
      · exact hh
      · rw [Array.getElem?_eq_none hh] at hx; cases hx
    have hcc : cs'[off]? = some (cs'[off]'(by rw [← hv.1]; exact hlt)) := Array.getElem?_eq_getElem _
    exact ⟨_, hv.2 off x _ hx hcc, by simp [part, run_isAgg h1, hcc]⟩
  · cases ha

def afieldV (P : Program) (t : TypeId) (v : Value) (f : Nat) : Option Value :=
  match P.underlying t, v with
  | some (.struct fs), .agg cs => match fs[f]? with
    | some x => apart P x.type cs x.offset
    | none => none
  | _, _ => none
theorem fieldV_sound {t : TypeId} {v v' x : Value} {f : Nat} (hv : VR ρ v v') (ha : afieldV P t v f = some x) :
    ∃ x', VR ρ x x' ∧ (Instr.field t v' f).run P w = .ok x' w := by
  unfold afieldV at ha
  split at ha
  · rename_i fs cs hs
    cases hv with
    | agg _ cs' hx hh =>
      split at ha
      · rename_i y hy
        obtain ⟨x', h1, h2⟩ := part_sound (w := w) ⟨hx, hh⟩ ha
        exact ⟨x', h1, by simp [Instr.field, run_underlying hs, hy, asAgg, h2]⟩
      · cases ha
  · cases ha

def aindexV (P : Program) (t : TypeId) (v ix : Value) : Option Value :=
  match P.underlying t, v, ix with
  | some (.array n e), .agg cs, .int _ (.ofNat k) => match sizeP P e with
    | some sz => bif Nat.blt k n then apart P e cs (k * sz) else none
    | none => none
  | _, _, _ => none
theorem indexV_sound {t : TypeId} {v v' ix ix' x : Value} (hv : VR ρ v v') (hi : VR ρ ix ix') (ha : aindexV P t v ix = some x) :
    ∃ x', VR ρ x x' ∧ (Instr.index t v' ix').run P w = .ok x' w := by
  unfold aindexV at ha
  split at ha
  · rename_i n e cs q k hs
    cases hi
    cases hv with
    | agg _ cs' hx hh =>
      split at ha
      · rename_i sz hsz
        cases hc : Nat.blt k n <;> rw [hc] at ha <;> simp at ha
        rw [Nat.blt_eq] at hc
        obtain ⟨x', h1, h2⟩ := part_sound (w := w) ⟨hx, hh⟩ ha
        refine ⟨x', h1, ?_⟩
        simp [Instr.index, asIntOf, run_underlying hs, run_sizeOf hsz, h2]
        intro hx; omega
      · cases ha
  · cases ha

def aextract (v : Value) (k : Nat) : Option Value :=
  match v with
  | .tuple vs => vs.toList[k]?
  | _ => none
theorem extract_sound {v v' x : Value} {k : Nat} (hv : VR ρ v v') (ha : aextract v k = some x) : ∃ x', VR ρ x x' ∧ (Instr.extract v' k).run P w = .ok x' w := by
  unfold aextract at ha
  split at ha
  · rename_i vs
    cases hv with
    | tuple _ vs' hx hh =>
      have hx' : vs[k]? = some x := by simpa using ha
      have hlt : k < vs.size := by
        rcases Nat.lt_or_ge k vs.size with hh | hh
        · exact hh
        · rw [Array.getElem?_eq_none hh] at hx'; cases hx'
      have hcc : vs'[k]? = some (vs'[k]'(by rw [← hx]; exact hlt)) := Array.getElem?_eq_getElem _
      exact ⟨_, hh k x _ hx' hcc, by simp [Instr.extract, hcc]⟩
  · cases ha

/-! ### Comparisons with nil -/
def nilEq (P : Program) (t : TypeId) (x y : Value) : Option Bool :=
  match P.underlying t, x, y with
  | some (.pointer _), .pointer a, .pointer none => some a.isNone
  | some (.pointer _), .pointer none, .pointer b => some b.isNone
  | some (.slice _), .slice a _ _, .slice none _ _ => some a.isNone
  | some (.slice _), .slice none _ _, .slice b _ _ => some b.isNone
  | some (.map _ _), .map a, .map none => some a.isNone
  | some (.map _ _), .map none, .map b => some b.isNone
  | some (.func _ _ _), .nilFunc, .nilFunc => some true
  | some (.func _ _ _), .func _ _ _, .nilFunc => some false
  | some (.func _ _ _), .nilFunc, .func _ _ _ => some false
  | some (.interface _), .iface _ _, .nilIface => some false
  | some (.interface _), .nilIface, .iface _ _ => some false
  | _, _, _ => none

theorem nilEq_in (n : Nat) {t : TypeId} {x x' y y' : Value} {b : Bool} (hx : VR ρ x x') (hy : VR ρ y y') (ha : nilEq P t x y = some b) : (Op.equalIn (n + 1) t x' y').run P w = .ok b w := by
  unfold nilEq at ha
  split at ha
  all_goals first
    | (cases ha; done)
    | (rename_i e; simp only [Option.some.injEq] at ha; subst ha; cases hx <;> cases hy <;> (rw [Op.equalIn, Sem.run_bind, run_underlying e]; rfl))

theorem nilEq_sound {t : TypeId} {x x' y y' : Value} {b : Bool} (hx : VR ρ x x') (hy : VR ρ y y') (ha : nilEq P t x y = some b) : (Op.equal t x' y').run P w = .ok b w :=
  nilEq_in 9999 hx hy ha

end Go.Abs
