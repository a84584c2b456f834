/- WeighSums returns true, whatever the world and the name. No condition. Part 8 of the proof. -/
import GoSem.Core.View
import Derived.Test.YtekpjgmhkkjhgaaSa7
section
namespace Go.Lf
def loop {α β : Type} : Nat → (α → (α → Option β) → Option β) → α → Option β
  | 0, _, _ => none
  | F + 1, body, a => body a (loop F body)
theorem loop_succ {α β : Type} (F : Nat) (body : α → (α → Option β) → Option β) (a : α) : loop (F + 1) body a = body a (loop F body) := rfl
def geti {α : Type} (l : List α) (k : Int) : Option α := bif decide (0 ≤ k) then l[k.toNat]? else none
theorem geti_nat {α : Type} (l : List α) (k : Nat) : geti l (k : Int) = l[k]? := by simp [geti]
theorem geti_some {α : Type} {l : List α} {k : Int} {x : α} (h : geti l k = some x) : (k.toNat : Int) = k ∧ k.toNat < l.length ∧ l[k.toNat]? = some x := by
  unfold geti at h
  by_cases hk : 0 ≤ k
  · rw [decide_eq_true hk, cond_true] at h
    exact ⟨by omega, (List.getElem?_eq_some_iff.1 h).1, h⟩
  · rw [decide_eq_false hk, cond_false] at h; cases h
def gd {α : Type} (g : Bool) (m : Option α) (d : α) : Option α := bif g then m else some d
theorem gd_true {α : Type} (m : Option α) (d : α) : gd true m d = m := rfl
theorem gd_false {α : Type} (m : Option α) (d : α) : gd false m d = some d := rfl
def w64 (n : Int) : Int := Go.IntKind.i64.wrap n
theorem w64_id {n : Int} (h1 : -9223372036854775808 ≤ n) (h2 : n ≤ 9223372036854775807) : w64 n = n := by
  unfold w64 Go.IntKind.wrap
  have e1 : (2 ^ IntKind.i64.bits : Int) = 18446744073709551616 := by decide
  have e2 : (2 ^ (IntKind.i64.bits - 1) : Int) = 9223372036854775808 := by decide
  have e3 : IntKind.i64.signed = true := rfl
  rw [e1, e2, e3]
  dsimp only
  split
  · rename_i h; simp at h; omega
  · rename_i h; simp at h; omega
def app {α : Type} (by_ : Nat) (xs ys : List α) : Option (List α) := bif Nat.ble ((2 * (xs.length + ys.length) + 1000) * by_) (2 ^ 47) then some (xs ++ ys) else none
theorem app_eq {α : Type} {by_ : Nat} {xs ys : List α} (h : (2 * (xs.length + ys.length) + 1000) * by_ ≤ 2 ^ 47) : app by_ xs ys = some (xs ++ ys) := by
  unfold app; rw [Nat.ble_eq_true_of_le h]; rfl
theorem app_some {α : Type} {by_ : Nat} {xs ys zs : List α} (h : app by_ xs ys = some zs) : zs = xs ++ ys ∧ (2 * (xs.length + ys.length) + 1000) * by_ ≤ 2 ^ 47 := by
  unfold app at h
  cases hb : Nat.ble ((2 * (xs.length + ys.length) + 1000) * by_) (2 ^ 47) <;> rw [hb] at h
  · cases h
  · cases h; exact ⟨rfl, Nat.le_of_ble_eq_true hb⟩
theorem bind_some {α β : Type} {m : Option α} {f : α → Option β} {r : β} (h : m.bind f = some r) : ∃ x, m = some x ∧ f x = some r := Option.bind_eq_some_iff.1 h
theorem gd_some {α β : Type} {g : Bool} {m : Option α} {d : α} {f : α → Option β} {r : β} (h : (gd g m d).bind f = some r) : ∃ x, (g = true → m = some x) ∧ f x = some r := by
  obtain ⟨x, h1, h2⟩ := bind_some h
  refine ⟨x, fun hg => ?_, h2⟩
  subst hg; exact h1
theorem cond_tt {α : Type} {c : Bool} {a b : α} {r : α} (hc : c = true) (h : (bif c then a else b) = r) : a = r := by subst hc; exact h
theorem cond_ff {α : Type} {c : Bool} {a b : α} {r : α} (hc : c = false) (h : (bif c then a else b) = r) : b = r := by subst hc; exact h
def mfind {κ ν : Type} [DecidableEq κ] : List (κ × ν) → κ → Option (Nat × ν)
  | [], _ => none
  | p :: l, k => if p.1 = k then some (0, p.2) else (mfind l k).map fun q => (q.1 + 1, q.2)
def mget {κ ν : Type} [DecidableEq κ] (l : List (κ × ν)) (k : κ) : Option ν := (mfind l k).map (·.2)
def mset {κ ν : Type} [DecidableEq κ] (l : List (κ × ν)) (k : κ) (x : ν) : List (κ × ν) := match mfind l k with
  | some q => l.modify q.1 fun p => (p.1, x)
  | none => l ++ [(k, x)]
def ment {κ ν : Type} [DecidableEq κ] (l : List (κ × ν)) (k : κ) (z : ν) : List (κ × ν) := match mfind l k with
  | some _ => l
  | none => l ++ [(k, z)]
def mdel {κ ν : Type} [DecidableEq κ] (l : List (κ × ν)) (k : κ) : List (κ × ν) := match mfind l k with
  | some q => l.eraseIdx q.1
  | none => l
def pget {κ ν : Type} [DecidableEq κ] (l : List (κ × ν)) (k : κ) (z : ν) : Option ν := some ((mget l k).getD z)
def pget2 {κ ν : Type} [DecidableEq κ] (l : List (κ × ν)) (k : κ) (z : ν) : Option (ν × Bool) := some ((mget l k).getD z, (mget l k).isSome)
section
variable {κ ν : Type} [DecidableEq κ]
theorem mfind_some {l : List (κ × ν)} {k : κ} {q : Nat × ν} (h : mfind l k = some q) : l[q.1]? = some (k, q.2) := by
  induction l generalizing q with
  | nil => cases h
  | cons p l ih =>
    unfold mfind at h
    split at h
    · rename_i e; cases h; simp [← e]
    · cases e : mfind l k with
      | none => rw [e] at h; cases h
      | some q' => rw [e] at h; cases h; simpa using ih e
theorem mfind_none {l : List (κ × ν)} {k : κ} : mfind l k = none ↔ ∀ p ∈ l, p.1 ≠ k := by
  induction l with
  | nil => simp [mfind]
  | cons p l ih =>
    unfold mfind
    split
    · rename_i e; simp [e]
    · rename_i e; simp [e, ih]
theorem mfind_append {l l2 : List (κ × ν)} {k : κ} (h : mfind l k = none) : mfind (l ++ l2) k = (mfind l2 k).map fun q => (q.1 + l.length, q.2) := by
  induction l with
  | nil => cases e : mfind l2 k <;> simp [e]
  | cons p l ih =>
    rw [mfind_none] at h
    have h1 : p.1 ≠ k := h p (by simp)
    have h2 : mfind l k = none := mfind_none.2 fun q hq => h q (by simp [hq])
    rw [List.cons_append, mfind, if_neg h1, ih h2]
    cases e : mfind l2 k with
    | none => rfl
    | some q => simp [Nat.add_assoc]
theorem mfind_append_some {l l2 : List (κ × ν)} {k : κ} {q : Nat × ν} (h : mfind l k = some q) : mfind (l ++ l2) k = some q := by
  induction l generalizing q with
  | nil => cases h
  | cons p l ih =>
    rw [List.cons_append]
    unfold mfind at h ⊢
    split
    · rename_i e; rw [if_pos e] at h; exact h
    · rename_i e
      rw [if_neg e] at h
      cases e2 : mfind l k with
      | none => rw [e2] at h; cases h
      | some q' => rw [e2] at h; rw [ih e2]; exact h
theorem mget_append_none {l l2 : List (κ × ν)} {k : κ} (h : mget l k = none) : mget (l ++ l2) k = mget l2 k := by
  unfold mget at h ⊢
  have h1 : mfind l k = none := by
    cases e : mfind l k with
    | none => rfl
    | some q => rw [e] at h; cases h
  rw [mfind_append h1]
  cases mfind l2 k <;> rfl
theorem mget_append_some {l l2 : List (κ × ν)} {k : κ} {v : ν} (h : mget l k = some v) : mget (l ++ l2) k = some v := by
  unfold mget at h ⊢
  cases e : mfind l k with
  | none => rw [e] at h; cases h
  | some q => rw [e] at h; rw [mfind_append_some e]; exact h
theorem mfind_modify {l : List (κ × ν)} {k k' : κ} {q : Nat × ν} {x : ν} (h : mfind l k = some q) : (mfind (l.modify q.1 fun p => (p.1, x)) k').map (·.2) = if k' = k then some x else (mfind l k').map (·.2) := by
  induction l generalizing q with
  | nil => cases h
  | cons p l ih =>
    unfold mfind at h
    split at h
    · rename_i e
      cases h
      simp only [List.modify_zero_cons]
      unfold mfind
      dsimp only
      rw [e]
      by_cases hk : k = k'
      · subst hk; simp
      · rw [if_neg hk, if_neg hk, if_neg (fun z => hk z.symm)]
    · rename_i e
      cases e2 : mfind l k with
      | none => rw [e2] at h; cases h
      | some q' =>
        rw [e2] at h; cases h
        have := ih e2
        simp only [List.modify_succ_cons]
        unfold mfind
        by_cases hp : p.1 = k'
        · rw [if_pos hp, if_pos hp]
          have : ¬ k' = k := fun z => e (hp.trans z)
          rw [if_neg this]
        · rw [if_neg hp, if_neg hp, Option.map_map, Option.map_map]
          exact this
theorem mget_mset (l : List (κ × ν)) (k k' : κ) (x : ν) : mget (mset l k x) k' = if k' = k then some x else mget l k' := by
  unfold mset mget
  cases e : mfind l k with
  | some q => exact mfind_modify e
  | none =>
    dsimp only
    by_cases hk : k' = k
    · subst hk
      rw [if_pos rfl, mfind_append e]; simp [mfind]
    · rw [if_neg hk]
      cases e2 : mfind l k' with
      | some q => rw [mfind_append_some e2]
      | none =>
        rw [mfind_append e2]
        have : mfind [(k, x)] k' = none := by simp [mfind]; exact fun z => hk z.symm
        rw [this]; rfl
theorem mget_ment (l : List (κ × ν)) (k k' : κ) (z : ν) : mget (ment l k z) k' = if k' = k then some ((mget l k).getD z) else mget l k' := by
  unfold ment
  cases e : mfind l k with
  | some q =>
    dsimp only
    by_cases hk : k' = k
    · subst hk; rw [if_pos rfl]; unfold mget; rw [e]; rfl
    · rw [if_neg hk]
  | none =>
    have hm : mget l k = none := by unfold mget; rw [e]; rfl
    dsimp only
    by_cases hk : k' = k
    · subst hk; rw [if_pos rfl, mget_append_none hm, hm]; simp [mget, mfind]
    · rw [if_neg hk]
      cases e2 : mget l k' with
      | some v => exact mget_append_some e2
      | none => rw [mget_append_none e2]; simp [mget, mfind]; exact fun z => hk z.symm
end
end Go.Lf
end
section
noncomputable section
namespace Go.Abs
open Go.Lf
structure Fz (wm : Nat) (h h' : H) : Prop where
  size : h.size ≤ h'.size
  keep : ∀ i cs own z, h.at i = .row cs own z → (i < wm ∨ own = false) → h'.at i = .row cs own z
  low : ∀ i, i < wm → i < h.size → h'.at i = h.at i
theorem Fz.refl (wm : Nat) (h : H) : Fz wm h h := ⟨Nat.le_refl _, fun _ _ _ _ e _ => e, fun _ _ _ => rfl⟩
theorem Fz.trans {wm : Nat} {a b c : H} (x : Fz wm a b) (y : Fz wm b c) : Fz wm a c :=
  ⟨Nat.le_trans x.size y.size, fun i cs own z e s => y.keep i cs own z (x.keep i cs own z e s) s, fun i h1 h2 => (y.low i h1 (Nat.lt_of_lt_of_le h2 x.size)).trans (x.low i h1 h2)⟩
structure Up (lo : Nat) (t : Nat → Prop) (h h' : H) : Prop where
  size : h.size ≤ h'.size
  keep : ∀ i, i < h.size → ¬ t i → h'.at i = h.at i
  own : ∀ i, t i → lo ≤ i ∧ (h.at i).own = true
theorem Up.fz {lo wm : Nat} {t : Nat → Prop} {h h' : H} (u : Up lo t h h') (hw : wm ≤ lo) : Fz wm h h' := by
  refine ⟨u.size, fun i cs own z e s => ?_, fun i h1 h2 => u.keep i h2 fun ht => by have := (u.own i ht).1; omega⟩
  rw [u.keep i (live_lt e rfl) ?_, e]
  intro ht
  obtain ⟨h1, h2⟩ := u.own i ht
  rw [e] at h2
  rcases s with s | s
  · omega
  · subst s; cases h2
theorem Up.grow {lo : Nat} {t : Nat → Prop} {h0 h h' : H} (u : Up lo t h h') (g : Grow h0 h) (hl : h0.size ≤ lo) : Grow h0 h' := by
  refine ⟨Nat.le_trans g.size u.size, fun i hi => ?_⟩
  rw [u.keep i (Nat.lt_of_lt_of_le hi g.size) (fun ht => by have := (u.own i ht).1; omega), g.keep i hi]
theorem Up.row {lo : Nat} {t : Nat → Prop} {h h' : H} {b : Nat} {cs : List Value} {own : Bool} {z : Nat} (u : Up lo t h h') (hn : ¬ t b) (hb : h.at b = .row cs own z) : h'.at b = .row cs own z := by
  rw [u.keep b (live_lt hb rfl) hn, hb]
theorem Up.of_grow {h h' : H} (lo : Nat) (g : Grow h h') : Up lo (fun _ => False) h h' := ⟨g.size, fun i hi _ => g.keep i hi, fun _ e => e.elim⟩
theorem Up.push (lo : Nat) (h : H) (A : AObj) : Up lo (fun _ => False) h (h.push A) := Up.of_grow lo ((Grow.refl h).push A)
theorem Up.put {lo : Nat} {h : H} {b : Nat} {A : AObj} (hl : lo ≤ b) (ho : (h.at b).own = true) : Up lo (fun i => i = b) h (h.put b A) :=
  ⟨Nat.le_refl _, fun i _ hn => at_put_other hn A, fun i e => by subst e; exact ⟨hl, ho⟩⟩
def At (h : H) (b o : Nat) (vs : List Value) : Prop := ∃ cs own z, h.at b = .row cs own z ∧ (cs.drop o).take vs.length = vs ∧ o + vs.length ≤ cs.length
def Stb (wm : Nat) (h : H) (b : Nat) : Prop := b < wm ∨ (h.at b).own = false
theorem At.box {h : H} {b : Nat} {vs : List Value} {own : Bool} {z : Nat} (hb : h.at b = .row vs own z) : At h b 0 vs := ⟨vs, own, z, hb, by simp, by omega⟩
theorem At.fz {wm : Nat} {h h' : H} {b o : Nat} {vs : List Value} (f : Fz wm h h') (s : Stb wm h b) (a : At h b o vs) : At h' b o vs := by
  obtain ⟨cs, own, z, h1, h2, h3⟩ := a
  exact ⟨cs, own, z, f.keep _ _ _ _ h1 (s.imp id fun e => by rw [h1] at e; exact e), h2, h3⟩
theorem Stb.fz {wm : Nat} {h h' : H} {b o : Nat} {vs : List Value} (f : Fz wm h h') (a : At h b o vs) (s : Stb wm h b) : Stb wm h' b := by
  obtain ⟨cs, own, z, h1, _, _⟩ := a
  refine s.imp id fun e => ?_
  rw [h1] at e
  rw [f.keep _ _ _ _ h1 (.inr e)]; exact e
theorem Stb.up {wm wm' : Nat} {h : H} {b : Nat} (hw : wm ≤ wm') (s : Stb wm h b) : Stb wm' h b := s.imp (fun x => Nat.lt_of_lt_of_le x hw) id
theorem At.cell {h : H} {b o j : Nat} {vs : List Value} {v : Value} (a : At h b o vs) (hv : vs[j]? = some v) : ∃ cs own z, h.at b = .row cs own z ∧ cs[o + j]? = some v := by
  obtain ⟨cs, own, z, h1, h2, h3⟩ := a
  refine ⟨cs, own, z, h1, ?_⟩
  have hj := (List.getElem?_eq_some_iff.1 hv).1
  rw [← h2, List.getElem?_take_of_lt hj, List.getElem?_drop] at hv
  exact hv
theorem At.part {h : H} {b o j n : Nat} {vs ws : List Value} (a : At h b o vs) (hj : j + n ≤ vs.length) (hw : (vs.drop j).take n = ws) : ∃ cs own z, h.at b = .row cs own z ∧ o + j + n ≤ cs.length ∧ (cs.drop (o + j)).take n = ws := by
  obtain ⟨cs, own, z, h1, h2, h3⟩ := a
  refine ⟨cs, own, z, h1, by omega, ?_⟩
  rw [← hw, ← h2, List.drop_take, List.take_take, List.drop_drop]
  have e : min n (vs.length - j) = n := by omega
  rw [e]
structure Rdr (α : Type) where
  sz : Nat
  pos : 0 < sz
  Par : Type
  dflt : Par
  sh : Par → α → List Value
  len : ∀ p x, (sh p x).length = sz
  one : ∀ p x, (sh p x).all Value.oneCell' = true
  F : Nat → H → Par → α → Prop
  mono : ∀ {wm h h' p x}, Fz wm h h' → F wm h p x → F wm h' p x
  up : ∀ {wm wm' h p x}, wm ≤ wm' → F wm h p x → F wm' h p x
def Nilish (a : Option Addr) (c : Nat) : Prop := (a = none ∧ c = 0) ∨ (a = some ⟨0, 0, some 0⟩ ∧ c = 0) ∨ ∃ i o, a = some ⟨i, o, none⟩
structure ElAt {α : Type} (e : Rdr α) (wm : Nat) (h : H) (cs : List Value) (o : Nat) (xs : List α) : Prop where
  len : o + xs.length * e.sz ≤ cs.length
  get : ∀ k x, xs[k]? = some x → ∃ q, (cs.drop (o + k * e.sz)).take e.sz = e.sh q x ∧ e.F wm h q x
theorem ElAt.mono {α : Type} {e : Rdr α} {wm : Nat} {h h' : H} {cs : List Value} {o : Nat} {xs : List α} (f : Fz wm h h') (a : ElAt e wm h cs o xs) : ElAt e wm h' cs o xs :=
  ⟨a.len, fun k x hk => let ⟨q, h1, h2⟩ := a.get k x hk; ⟨q, h1, e.mono f h2⟩⟩
theorem ElAt.up {α : Type} {e : Rdr α} {wm wm' : Nat} {h : H} {cs : List Value} {o : Nat} {xs : List α} (f : wm ≤ wm') (a : ElAt e wm h cs o xs) : ElAt e wm' h cs o xs :=
  ⟨a.len, fun k x hk => let ⟨q, h1, h2⟩ := a.get k x hk; ⟨q, h1, e.up f h2⟩⟩
structure Src {α : Type} (e : Rdr α) (wm : Nat) (h : H) (a : Option Addr) (c : Nat) (xs : List α) : Prop where
  max : xs.length ≤ 9223372036854775807
  nl : Nilish a c
  mem : xs = [] ∨ ∃ i o cs own z, a = some ⟨i, o, none⟩ ∧ h.at i = .row cs own z ∧ ElAt e wm h cs o xs
structure Sl {α : Type} (e : Rdr α) (wm : Nat) (h : H) (a : Option Addr) (c : Nat) (xs : List α) : Prop where
  max : xs.length ≤ 9223372036854775807
  nl : Nilish a c
  mem : xs = [] ∨ ∃ i o cs own z, a = some ⟨i, o, none⟩ ∧ h.at i = .row cs own z ∧ (i < wm ∨ own = false) ∧ ElAt e wm h cs o xs
structure OwnS {α : Type} (e : Rdr α) (wm lo : Nat) (h : H) (a : Option Addr) (c : Nat) (xs : List α) : Prop where
  max : xs.length ≤ 9223372036854775807
  mem : (a = none ∧ c = 0 ∧ xs = []) ∨ ∃ i o cs, a = some ⟨i, o, none⟩ ∧ lo ≤ i ∧ h.at i = .row cs true e.sz ∧ xs.length ≤ c / 2 ∧ o + (c / 2) * e.sz ≤ cs.length ∧ ElAt e wm h cs o xs
variable {α : Type} {e : Rdr α} {wm wm' lo : Nat} {h h' : H} {a : Option Addr} {c : Nat} {xs : List α}
theorem Sl.src (s : Sl e wm h a c xs) : Src e wm h a c xs := ⟨s.max, s.nl, s.mem.imp id fun ⟨i, o, cs, own, z, h1, h2, _, h4⟩ => ⟨i, o, cs, own, z, h1, h2, h4⟩⟩
theorem OwnS.nl (s : OwnS e wm lo h a c xs) : Nilish a c := by
  rcases s.mem with ⟨h1, h2, _⟩ | ⟨i, o, cs, h1, _⟩
  · exact .inl ⟨h1, h2⟩
  · exact .inr (.inr ⟨i, o, h1⟩)
theorem OwnS.src (s : OwnS e wm lo h a c xs) : Src e wm h a c xs := ⟨s.max, s.nl, by
  rcases s.mem with ⟨_, _, h3⟩ | ⟨i, o, cs, h1, _, h3, _, _, h6⟩
  · exact .inl h3
  · exact .inr ⟨i, o, cs, true, _, h1, h3, h6⟩⟩
theorem Sl.mono (f : Fz wm h h') (s : Sl e wm h a c xs) : Sl e wm h' a c xs := ⟨s.max, s.nl, s.mem.imp id fun ⟨i, o, cs, own, z, h1, h2, h3, h4⟩ => ⟨i, o, cs, own, z, h1, f.keep _ _ _ _ h2 h3, h3, h4.mono f⟩⟩
theorem Sl.up (f : wm ≤ wm') (s : Sl e wm h a c xs) : Sl e wm' h a c xs := ⟨s.max, s.nl, s.mem.imp id fun ⟨i, o, cs, own, z, h1, h2, h3, h4⟩ => ⟨i, o, cs, own, z, h1, h2, h3.imp (fun x => by omega) id, h4.up f⟩⟩
theorem Src.sl (s : Src e wm h a c xs) (hw : wm ≤ h.size) : Sl e h.size h a c xs := ⟨s.max, s.nl, s.mem.imp id fun ⟨i, o, cs, own, z, h1, h2, h4⟩ => ⟨i, o, cs, own, z, h1, h2, .inl (live_lt h2 rfl), h4.up hw⟩⟩
theorem Sl.nil : Sl e wm h none 0 ([] : List α) := ⟨by simp, .inl ⟨rfl, rfl⟩, .inl rfl⟩
theorem OwnS.nil : OwnS e wm lo h none 0 ([] : List α) := ⟨by simp, .inl ⟨rfl, rfl, rfl⟩⟩
def BaseA (a : Option Addr) (i : Nat) : Prop := ∃ o, a = some ⟨i, o, none⟩
theorem OwnS.step {lo' : Nat} {t : Nat → Prop} (u : Up lo' t h h') (hw : wm ≤ lo') (hn : ∀ i, BaseA a i → ¬ t i) (s : OwnS e wm lo h a c xs) : OwnS e wm lo h' a c xs :=
  ⟨s.max, s.mem.imp id fun ⟨i, o, cs, h1, h2, h3, h4, h5, h6⟩ => ⟨i, o, cs, h1, h2, u.row (hn i ⟨o, h1⟩) h3, h4, h5, h6.mono (u.fz hw)⟩⟩
theorem OwnS.notBox {b : Nat} {cs : List Value} {own : Bool} (s : OwnS e wm lo h a c xs) (hb : h.at b = .row cs own 0) : ¬ BaseA a b := by
  rintro ⟨o, h1⟩
  rcases s.mem with ⟨h2, _⟩ | ⟨i, o', cs', h2, _, h4, _⟩
  · rw [h1] at h2; cases h2
  · rw [h1] at h2; cases h2
    rw [hb] at h4
    injection h4 with _ _ h5
    have := e.pos
    omega
theorem Src.at_ {k : Int} {x : α} (s : Src e wm h a c xs) (hk : geti xs k = some x) : ∃ i o q, a = some ⟨i, o, none⟩ ∧ At h i (o + k.toNat * e.sz) (e.sh q x) ∧ e.F wm h q x := by
  obtain ⟨h1, h2, h3⟩ := geti_some hk
  rcases s.mem with z | ⟨i, o, cs, own, z, q1, q2, q3⟩
  · subst z; simp at h2
  · obtain ⟨q, g1, g2⟩ := q3.get _ _ h3
    refine ⟨i, o, q, q1, ⟨cs, own, z, q2, by rw [e.len]; exact g1, ?_⟩, g2⟩
    rw [e.len]
    have := q3.len
    have : (k.toNat + 1) * e.sz ≤ xs.length * e.sz := Nat.mul_le_mul_right _ h2
    rw [Nat.succ_mul] at this
    omega
theorem Sl.at_ {k : Int} {x : α} (s : Sl e wm h a c xs) (hk : geti xs k = some x) : ∃ i o q, a = some ⟨i, o, none⟩ ∧ At h i (o + k.toNat * e.sz) (e.sh q x) ∧ Stb wm h i ∧ e.F wm h q x := by
  obtain ⟨h1, h2, h3⟩ := geti_some hk
  rcases s.mem with z | ⟨i, o, cs, own, z, q1, q2, q4, q3⟩
  · subst z; simp at h2
  · obtain ⟨q, g1, g2⟩ := q3.get _ _ h3
    refine ⟨i, o, q, q1, ⟨cs, own, z, q2, by rw [e.len]; exact g1, ?_⟩, q4.imp id (fun z => by rw [q2]; exact z), g2⟩
    rw [e.len]
    have := q3.len
    have : (k.toNat + 1) * e.sz ≤ xs.length * e.sz := Nat.mul_le_mul_right _ h2
    rw [Nat.succ_mul] at this
    omega
def rInt (k : IntKind) : Rdr Int where
  sz := 1
  pos := Nat.one_pos
  Par := Unit
  dflt := ()
  sh := fun _ x => [.int k x]
  len := fun _ _ => rfl
  one := fun _ _ => rfl
  F := fun _ _ _ _ => True
  mono := fun _ x => x
  up := fun _ x => x
def rBool : Rdr Bool where
  sz := 1
  pos := Nat.one_pos
  Par := Unit
  dflt := ()
  sh := fun _ x => [.bool x]
  len := fun _ _ => rfl
  one := fun _ _ => rfl
  F := fun _ _ _ _ => True
  mono := fun _ x => x
  up := fun _ x => x
def rStr : Rdr ByteArray where
  sz := 1
  pos := Nat.one_pos
  Par := Unit
  dflt := ()
  sh := fun _ x => [.string x]
  len := fun _ _ => rfl
  one := fun _ _ => rfl
  F := fun _ _ _ _ => True
  mono := fun _ x => x
  up := fun _ x => x
def rSl {α : Type} (e : Rdr α) : Rdr (List α) where
  sz := 1
  pos := Nat.one_pos
  Par := Option Addr × Nat
  dflt := (none, 0)
  sh := fun p x => [.slice p.1 x.length p.2]
  len := fun _ _ => rfl
  one := fun _ _ => rfl
  F := fun wm h p x => Sl e wm h p.1 p.2 x
  mono := fun f x => x.mono f
  up := fun f x => x.up f
end Go.Abs
end
end
section
noncomputable section
namespace Go.Abs
open Go.Lf
variable {X : Ctx} {n wm : Nat} {rd : Option Nat} {s : Fs} {Q : XX → Fs → Prop}
theorem fhit (fr : Fr) (d : Nat) (v : Value) : Fr.at (Tr.set fr d v) d = v := by rw [at_set, if_pos rfl]
theorem fskip {fr : Fr} {d t : Nat} {v w : Value} (hn : Nat.beq t d = false) (k : Fr.at fr t = v) : Fr.at (Tr.set fr d w) t = v := by
  rw [at_set, if_neg (fun e => by rw [e, Nat.beq_refl] at hn; cases hn)]; exact k
theorem fs2 {fr : Fr} {a b t : Nat} {v x y : Value} (hn : (Nat.beq t a || Nat.beq t b) = false) (k : Fr.at fr t = v) : Fr.at (Tr.set (Tr.set fr b y) a x) t = v := by
  rw [Bool.or_eq_false_iff] at hn; exact fskip hn.1 (fskip hn.2 k)
theorem fs4 {fr : Fr} {a b c d t : Nat} {v x y z w : Value} (hn : ((Nat.beq t a || Nat.beq t b) || (Nat.beq t c || Nat.beq t d)) = false) (k : Fr.at fr t = v) : Fr.at (Tr.set (Tr.set (Tr.set (Tr.set fr d w) c z) b y) a x) t = v := by
  rw [Bool.or_eq_false_iff] at hn; exact fs2 hn.1 (fs2 hn.2 k)
theorem fs8 {fr : Fr} {a b c d a' b' c' d' t : Nat} {v x y z w x' y' z' w' : Value} (hn : (((Nat.beq t a || Nat.beq t b) || (Nat.beq t c || Nat.beq t d)) || ((Nat.beq t a' || Nat.beq t b') || (Nat.beq t c' || Nat.beq t d'))) = false) (k : Fr.at fr t = v) :
    Fr.at (Tr.set (Tr.set (Tr.set (Tr.set (Tr.set (Tr.set (Tr.set (Tr.set fr d' w') c' z') b' y') a' x') d w) c z) b y) a x) t = v := by
  rw [Bool.or_eq_false_iff] at hn; exact fs4 hn.1 (fs4 hn.2 k)
theorem fh {fr : Fr} {d : Nat} {v : Value} : Fr.at (Tr.set fr d v) d = v := fhit _ _ _
theorem evT {fr : Fr} {t : Nat} {v : Value} (h : fr.at t = v) (ha : isAny v = false) : aev fr (.tmp t) = some v := by rw [aev_tmp, h, ha]; rfl
theorem evG {fr : Fr} {t : Nat} {c : Bool} {v : Value} (h : fr.at t = cond c v undef) (ha : isAny v = false) : c = true → aev fr (.tmp t) = some v := fun hc => by
  rw [aev_tmp, h, hc, cond_true, ha]; rfl
theorem evC {fr : Fr} {v : Value} (h : plain v = true) : aev fr (.const v) = some v := by rw [aev_const, h]; rfl
theorem evGU {fr : Fr} {t : Nat} {c : Bool} {b : Bool} (h : fr.at t = cond c (.bool b) undef) : aev fr (.tmp t) = some (cond c (.bool b) undef) := by
  rw [aev_tmp, h]; cases c <;> rfl
theorem evGU2 {fr : Fr} {t : Nat} {a c b : Bool} (h : fr.at t = cond (a && c) (.bool b) undef) (ha : a = true) : aev fr (.tmp t) = some (cond c (.bool b) undef) := by
  subst ha
  rw [aev_tmp, h]; cases c <;> rfl
def SeqJd {α β : Type} (I : α → Fs → Prop) (j : α → Option β) (r : β) (Q : XX → Fs → Prop) : XX → Fs → Prop := fun e s =>
  match e with
  | .normal => ∃ a, j a = some r ∧ I a s
  | e => Q e s
structure SeqJ {α β : Type} (I : α → Fs → Prop) (j : α → Option β) (r : β) (Q : XX → Fs → Prop) (e : XX) (s : Fs) : Prop where
  out : SeqJd I j r Q e s
theorem SeqJ.nrm {α β : Type} {I : α → Fs → Prop} {j : α → Option β} {r : β} (a : α) (h : j a = some r) (i : I a s) : SeqJ I j r Q .normal s := ⟨a, h, i⟩
theorem SeqJ.ret {α β : Type} {I : α → Fs → Prop} {j : α → Option β} {r : β} (h : Q .ret s) : SeqJ I j r Q .ret s := ⟨h⟩
theorem SeqJ.exit {α β : Type} {I : α → Fs → Prop} {j : α → Option β} {r : β} {id : Nat} (h : Q (.exit id) s) : SeqJ I j r Q (.exit id) s := ⟨h⟩
theorem SeqJ.panic {α β : Type} {I : α → Fs → Prop} {j : α → Option β} {r : β} {v : Value} (h : Q (.panic v) s) : SeqJ I j r Q (.panic v) s := ⟨h⟩
theorem WC.seqJ {α β : Type} {a b : Code} {r : β} (I : α → Fs → Prop) (j : α → Option β) (k : ∀ x s', j x = some r → I x s' → WC X n wm rd b s' Q) (h : WC X n wm rd a s (SeqJ I j r Q)) : WC X n wm rd (.seq a b) s Q := by
  refine WC.seq (h.mono fun e s' q => ⟨?_⟩)
  have q := q.out
  cases e with
  | normal => obtain ⟨x, h1, h2⟩ := q; exact k x s' h1 h2
  | _ => exact q
theorem WC.condN {c : Operand} {a b : Code} {t : Bool} {fr : Fr} {ds : List Deferred} {h : H} (hc : aev fr c = some (.bool t)) (h1 : t = true → WC X n wm rd a ⟨fr, ds, h, none⟩ Q) (h2 : t = false → WC X n wm rd b ⟨fr, ds, h, none⟩ Q) : WC X n wm rd (.cond c a b) ⟨fr, ds, h, none⟩ Q := WC.cond (s := ⟨fr, ds, h, none⟩) hc h1 h2
theorem WC.condTN {c : Operand} {a b : Code} {t : Bool} {fr : Fr} {ds : List Deferred} {h : H} (hc : aev fr c = some (.bool t)) (ht : t = true) (k : WC X n wm rd a ⟨fr, ds, h, none⟩ Q) : WC X n wm rd (.cond c a b) ⟨fr, ds, h, none⟩ Q := WC.condT (s := ⟨fr, ds, h, none⟩) hc ht k
theorem WC.condFN {c : Operand} {a b : Code} {t : Bool} {fr : Fr} {ds : List Deferred} {h : H} (hc : aev fr c = some (.bool t)) (ht : t = false) (k : WC X n wm rd b ⟨fr, ds, h, none⟩ Q) : WC X n wm rd (.cond c a b) ⟨fr, ds, h, none⟩ Q := WC.condF (s := ⟨fr, ds, h, none⟩) hc ht k
theorem WL.lift {α β : Type} {c : Code} {body : α → (α → Option β) → Option β} {r : β} {F : Nat} {a : α} (hL : loop F body a = some r) (I : α → Fs → Prop) (init : I a s)
    (round : ∀ (next : α → Option β) a s, (∀ a' s', next a' = some r → I a' s' → WL X n wm rd c s' Q) → body a next = some r → I a s → WC X n wm rd c s (LoopK X n wm rd c Q)) : WL X n wm rd c s Q := by
  induction F generalizing a s with
  | zero => cases hL
  | succ F ih => exact WL.step (round _ _ _ (fun a' s' h1 h2 => ih h1 h2) hL init)
section
variable {h : H} {ev : Operand → Option Value} {d : Option Tmp} {ty : TypeId} {p : String} {af : Array Edge} {g : Option (Nat × Bool)}
theorem av_ld {x : Operand} {t : TypeId} {b o oo j : Nat} {vs : List Value} {v : Value} (ht : isAggP X.P t = some false) (hx : ev x = some (.pointer (some ⟨b, oo, none⟩))) (ha : At h b o vs) (ho : oo = o + j) (hv : vs[j]? = some v) :
    aop X h ev ⟨d, .load t x, ty, p, af, g⟩ = some (.val v, .none) := by
  obtain ⟨cs, own, z, h1, h2⟩ := ha.cell hv
  subst ho
  exact av_load1 ht hx h1 h2
theorem av_ldA {x : Operand} {t : TypeId} {b o oo j sz : Nat} {vs ws : List Value} (ht : isAggP X.P t = some true) (hs : sizeP X.P t = some sz) (hx : ev x = some (.pointer (some ⟨b, oo, none⟩))) (ha : At h b o vs) (ho : oo = o + j) (hj : Nat.ble (j + sz) vs.length = true) (hv : (vs.drop j).take sz = ws) :
    aop X h ev ⟨d, .load t x, ty, p, af, g⟩ = some (.val (.agg ws.toArray), .none) := by
  obtain ⟨cs, own, z, h1, h2, h3⟩ := ha.part (Nat.le_of_ble_eq_true hj) hv
  subst ho
  exact av_loadA ht hs hx h1 h2 h3
theorem av_ix {α : Type} {xs : List α} {v : α} {x y : Operand} {t e : TypeId} {sz b o c : Nat} {a : Option Addr} {k : Int} (hu : X.P.underlying t = some (.slice e)) (hs : sizeP X.P e = some sz) (hx : ev x = some (.slice a xs.length c)) (hy : ev y = some (.int .i64 k)) (ha : a = some ⟨b, o, none⟩) (hk : geti xs k = some v) :
    aop X h ev ⟨d, .indexAddr t x y, ty, p, af, g⟩ = some (.val (.pointer (some ⟨b, o + k.toNat * sz, none⟩)), .none) := by
  obtain ⟨h1, h2, _⟩ := geti_some hk
  subst ha
  exact av_idx hu hs hx hy h1.symm h2
theorem abin_w {op : BinOp} {t : TypeId} {P : Program} {x y : Operand} {a b c : Int} (h1 : op = .add ∧ c = a + b ∨ op = .sub ∧ c = a - b ∨ op = .mul ∧ c = a * b) : abin P op t x y (.int .i64 a) (.int .i64 b) = some (.val (.int .i64 (w64 c)), .none) := abin_arith h1
theorem abin_addw {t : TypeId} {P : Program} {x y : Operand} {a b : Int} : abin P .add t x y (.int .i64 a) (.int .i64 b) = some (.val (.int .i64 (w64 (a + b))), .none) := abin_w (.inl ⟨rfl, rfl⟩)
theorem abin_subw {t : TypeId} {P : Program} {x y : Operand} {a b : Int} : abin P .sub t x y (.int .i64 a) (.int .i64 b) = some (.val (.int .i64 (w64 (a - b))), .none) := abin_w (.inr (.inl ⟨rfl, rfl⟩))
theorem abin_mulw {t : TypeId} {P : Program} {x y : Operand} {a b : Int} : abin P .mul t x y (.int .i64 a) (.int .i64 b) = some (.val (.int .i64 (w64 (a * b))), .none) := abin_w (.inr (.inr ⟨rfl, rfl⟩))
end
theorem Sl.atG {α : Type} {e : Rdr α} {wm : Nat} {h : H} {a : Option Addr} {c : Nat} {xs : List α} {k : Int} {x : α} {g : Bool} (s : g = true → Sl e wm h a c xs) (hk : g = true → geti xs k = some x) :
    ∃ i o q, g = true → (a = some ⟨i, o, none⟩ ∧ At h i (o + k.toNat * e.sz) (e.sh q x) ∧ Stb wm h i ∧ e.F wm h q x) := by
  cases g with
  | false => exact ⟨0, 0, e.dflt, fun z => by cases z⟩
  | true => obtain ⟨i, o, q, z⟩ := (s rfl).at_ (hk rfl); exact ⟨i, o, q, fun _ => z⟩
theorem Src.atG {α : Type} {e : Rdr α} {wm : Nat} {h : H} {a : Option Addr} {c : Nat} {xs : List α} {k : Int} {x : α} {g : Bool} (s : g = true → Src e wm h a c xs) (hk : g = true → geti xs k = some x) :
    ∃ i o q, g = true → (a = some ⟨i, o, none⟩ ∧ At h i (o + k.toNat * e.sz) (e.sh q x) ∧ e.F wm h q x) := by
  cases g with
  | false => exact ⟨0, 0, e.dflt, fun z => by cases z⟩
  | true => obtain ⟨i, o, q, z⟩ := (s rfl).at_ (hk rfl); exact ⟨i, o, q, fun _ => z⟩
section
variable {ops : Array Oper} {l : List Oper} {fr : Fr} {ds : List Deferred} {h : H} {d : Nat} {ty : TypeId} {p : String} {af : Array Edge} {g : Option (Nat × Bool)} {c : Bool} {QQ : Fr → Prop}
theorem WO.ld {x : Operand} {t : TypeId} {b o oo j : Nat} {vs : List Value} {v : Value} (hg : GuardOn ops ⟨some d, .load t x, ty, p, af, g⟩ fr) (hd : Nat.blt d n = true) (ht : isAggP X.P t = some false) (hx : aev fr x = some (.pointer (some ⟨b, oo, none⟩))) (ha : At h b o vs) (ho : oo = o + j) (hv : vs[j]? = some v)
    (k : WO X n wm rd ops l ⟨Tr.set fr d v, ds, h, none⟩ Q) : WO X n wm rd ops (⟨some d, .load t x, ty, p, af, g⟩ :: l) ⟨fr, ds, h, none⟩ Q := WO.v hg hd (av_ld ht hx ha ho hv) rfl k
theorem WO.gld {x : Operand} {t : TypeId} {b o oo j : Nat} {vs : List Value} {v : Value} (hg : GuardIs ops ⟨some d, .load t x, ty, p, af, g⟩ fr c) (hd : Nat.blt d n = true) (ht : isAggP X.P t = some false) (hx : c = true → aev fr x = some (.pointer (some ⟨b, oo, none⟩))) (ha : c = true → At h b o vs) (ho : oo = o + j) (hv : vs[j]? = some v)
    (k : WO X n wm rd ops l ⟨Tr.set fr d (cond c v undef), ds, h, none⟩ Q) : WO X n wm rd ops (⟨some d, .load t x, ty, p, af, g⟩ :: l) ⟨fr, ds, h, none⟩ Q := WO.gv hg hd (fun z => av_ld ht (hx z) (ha z) ho hv) k
theorem WQ.ld {x : Operand} {t : TypeId} {b o oo j : Nat} {vs : List Value} {v : Value} (hg : GuardOn ops ⟨some d, .load t x, ty, p, af, g⟩ fr) (hd : Nat.blt d n = true) (ht : isAggP X.P t = some false) (hx : aev fr x = some (.pointer (some ⟨b, oo, none⟩))) (ha : At h b o vs) (ho : oo = o + j) (hv : vs[j]? = some v)
    (k : WQ X n wm rd ops h l (Tr.set fr d v) QQ) : WQ X n wm rd ops h (⟨some d, .load t x, ty, p, af, g⟩ :: l) fr QQ := WQ.v hg hd (av_ld ht hx ha ho hv) k
theorem WQ.gld {x : Operand} {t : TypeId} {b o oo j : Nat} {vs : List Value} {v : Value} (hg : GuardIs ops ⟨some d, .load t x, ty, p, af, g⟩ fr c) (hd : Nat.blt d n = true) (ht : isAggP X.P t = some false) (hx : c = true → aev fr x = some (.pointer (some ⟨b, oo, none⟩))) (ha : c = true → At h b o vs) (ho : oo = o + j) (hv : vs[j]? = some v)
    (k : WQ X n wm rd ops h l (Tr.set fr d (cond c v undef)) QQ) : WQ X n wm rd ops h (⟨some d, .load t x, ty, p, af, g⟩ :: l) fr QQ := WQ.gv hg hd (fun z => av_ld ht (hx z) (ha z) ho hv) k
theorem WO.ldA {x : Operand} {t : TypeId} {b o oo j sz : Nat} {vs ws : List Value} (hg : GuardOn ops ⟨some d, .load t x, ty, p, af, g⟩ fr) (hd : Nat.blt d n = true) (ht : isAggP X.P t = some true) (hs : sizeP X.P t = some sz) (hx : aev fr x = some (.pointer (some ⟨b, oo, none⟩))) (ha : At h b o vs) (ho : oo = o + j) (hj : Nat.ble (j + sz) vs.length = true) (hv : (vs.drop j).take sz = ws)
    (k : WO X n wm rd ops l ⟨Tr.set fr d (.agg ws.toArray), ds, h, none⟩ Q) : WO X n wm rd ops (⟨some d, .load t x, ty, p, af, g⟩ :: l) ⟨fr, ds, h, none⟩ Q := WO.v hg hd (av_ldA ht hs hx ha ho hj hv) rfl k
theorem WO.gldA {x : Operand} {t : TypeId} {b o oo j sz : Nat} {vs ws : List Value} (hg : GuardIs ops ⟨some d, .load t x, ty, p, af, g⟩ fr c) (hd : Nat.blt d n = true) (ht : isAggP X.P t = some true) (hs : sizeP X.P t = some sz) (hx : c = true → aev fr x = some (.pointer (some ⟨b, oo, none⟩))) (ha : c = true → At h b o vs) (ho : oo = o + j) (hj : Nat.ble (j + sz) vs.length = true) (hv : (vs.drop j).take sz = ws)
    (k : WO X n wm rd ops l ⟨Tr.set fr d (cond c (.agg ws.toArray) undef), ds, h, none⟩ Q) : WO X n wm rd ops (⟨some d, .load t x, ty, p, af, g⟩ :: l) ⟨fr, ds, h, none⟩ Q := WO.gv hg hd (fun z => av_ldA ht hs (hx z) (ha z) ho hj hv) k
theorem WQ.ldA {x : Operand} {t : TypeId} {b o oo j sz : Nat} {vs ws : List Value} (hg : GuardOn ops ⟨some d, .load t x, ty, p, af, g⟩ fr) (hd : Nat.blt d n = true) (ht : isAggP X.P t = some true) (hs : sizeP X.P t = some sz) (hx : aev fr x = some (.pointer (some ⟨b, oo, none⟩))) (ha : At h b o vs) (ho : oo = o + j) (hj : Nat.ble (j + sz) vs.length = true) (hv : (vs.drop j).take sz = ws)
    (k : WQ X n wm rd ops h l (Tr.set fr d (.agg ws.toArray)) QQ) : WQ X n wm rd ops h (⟨some d, .load t x, ty, p, af, g⟩ :: l) fr QQ := WQ.v hg hd (av_ldA ht hs hx ha ho hj hv) k
theorem WQ.gldA {x : Operand} {t : TypeId} {b o oo j sz : Nat} {vs ws : List Value} (hg : GuardIs ops ⟨some d, .load t x, ty, p, af, g⟩ fr c) (hd : Nat.blt d n = true) (ht : isAggP X.P t = some true) (hs : sizeP X.P t = some sz) (hx : c = true → aev fr x = some (.pointer (some ⟨b, oo, none⟩))) (ha : c = true → At h b o vs) (ho : oo = o + j) (hj : Nat.ble (j + sz) vs.length = true) (hv : (vs.drop j).take sz = ws)
    (k : WQ X n wm rd ops h l (Tr.set fr d (cond c (.agg ws.toArray) undef)) QQ) : WQ X n wm rd ops h (⟨some d, .load t x, ty, p, af, g⟩ :: l) fr QQ := WQ.gv hg hd (fun z => av_ldA ht hs (hx z) (ha z) ho hj hv) k
theorem WO.ix {α : Type} {xs : List α} {v : α} {x y : Operand} {t e : TypeId} {sz b o cc : Nat} {a : Option Addr} {k : Int} (hg : GuardOn ops ⟨some d, .indexAddr t x y, ty, p, af, g⟩ fr) (hd : Nat.blt d n = true) (hu : X.P.underlying t = some (.slice e)) (hs : sizeP X.P e = some sz) (hx : aev fr x = some (.slice a xs.length cc)) (hy : aev fr y = some (.int .i64 k)) (ha : a = some ⟨b, o, none⟩) (hk : geti xs k = some v)
    (kk : WO X n wm rd ops l ⟨Tr.set fr d (.pointer (some ⟨b, o + k.toNat * sz, none⟩)), ds, h, none⟩ Q) : WO X n wm rd ops (⟨some d, .indexAddr t x y, ty, p, af, g⟩ :: l) ⟨fr, ds, h, none⟩ Q := WO.v hg hd (av_ix hu hs hx hy ha hk) rfl kk
theorem WO.gix {α : Type} {xs : List α} {v : α} {x y : Operand} {t e : TypeId} {sz b o cc : Nat} {a : Option Addr} {k : Int} (hg : GuardIs ops ⟨some d, .indexAddr t x y, ty, p, af, g⟩ fr c) (hd : Nat.blt d n = true) (hu : X.P.underlying t = some (.slice e)) (hs : sizeP X.P e = some sz) (hx : c = true → aev fr x = some (.slice a xs.length cc)) (hy : c = true → aev fr y = some (.int .i64 k)) (ha : c = true → a = some ⟨b, o, none⟩) (hk : c = true → geti xs k = some v)
    (kk : WO X n wm rd ops l ⟨Tr.set fr d (cond c (.pointer (some ⟨b, o + k.toNat * sz, none⟩)) undef), ds, h, none⟩ Q) : WO X n wm rd ops (⟨some d, .indexAddr t x y, ty, p, af, g⟩ :: l) ⟨fr, ds, h, none⟩ Q := WO.gv hg hd (fun z => av_ix hu hs (hx z) (hy z) (ha z) (hk z)) kk
theorem WQ.ix {α : Type} {xs : List α} {v : α} {x y : Operand} {t e : TypeId} {sz b o cc : Nat} {a : Option Addr} {k : Int} (hg : GuardOn ops ⟨some d, .indexAddr t x y, ty, p, af, g⟩ fr) (hd : Nat.blt d n = true) (hu : X.P.underlying t = some (.slice e)) (hs : sizeP X.P e = some sz) (hx : aev fr x = some (.slice a xs.length cc)) (hy : aev fr y = some (.int .i64 k)) (ha : a = some ⟨b, o, none⟩) (hk : geti xs k = some v)
    (kk : WQ X n wm rd ops h l (Tr.set fr d (.pointer (some ⟨b, o + k.toNat * sz, none⟩))) QQ) : WQ X n wm rd ops h (⟨some d, .indexAddr t x y, ty, p, af, g⟩ :: l) fr QQ := WQ.v hg hd (av_ix hu hs hx hy ha hk) kk
theorem WQ.gix {α : Type} {xs : List α} {v : α} {x y : Operand} {t e : TypeId} {sz b o cc : Nat} {a : Option Addr} {k : Int} (hg : GuardIs ops ⟨some d, .indexAddr t x y, ty, p, af, g⟩ fr c) (hd : Nat.blt d n = true) (hu : X.P.underlying t = some (.slice e)) (hs : sizeP X.P e = some sz) (hx : c = true → aev fr x = some (.slice a xs.length cc)) (hy : c = true → aev fr y = some (.int .i64 k)) (ha : c = true → a = some ⟨b, o, none⟩) (hk : c = true → geti xs k = some v)
    (kk : WQ X n wm rd ops h l (Tr.set fr d (cond c (.pointer (some ⟨b, o + k.toNat * sz, none⟩)) undef)) QQ) : WQ X n wm rd ops h (⟨some d, .indexAddr t x y, ty, p, af, g⟩ :: l) fr QQ := WQ.gv hg hd (fun z => av_ix hu hs (hx z) (hy z) (ha z) (hk z)) kk
end
abbrev WR (X : Ctx) (f : FuncId) (args : Array Value) (wm : Nat) (h : H) (R : Value → H → Prop) : Prop := WF X f args wm h (fun e h' => ∃ v, e = .ret v ∧ R v h')
theorem RetK.one {fn : Func} {R : Value → H → Prop} {fr : Fr} {h : H} {wr : Option Nat} {t : Nat} {v : Value} (hr : fn.results.toList = [.tmp t]) (hv : aev fr (.tmp t) = some v) (k : R v h) : RetK X fn (fun e h' => ∃ v, e = .ret v ∧ R v h') .ret ⟨fr, [], h, wr⟩ :=
  RetK.ret1 hr hv ⟨v, rfl, k⟩
theorem WF.pureR {f : FuncId} {args : Array Value} {h : H} {v : Value} (hp : plain v = true) (k : WR X f args h.size h (fun v' _ => v' = v)) : Pure X f args h v :=
  WF.pure hp (k.mono fun e h' ⟨v', h1, h2⟩ => by rw [h1, h2])
end Go.Abs
end
end
section
noncomputable section
namespace Go.Abs
open Go.Lf
variable {X : Ctx} {n wm : Nat} {rd : Option Nat} {Q : XX → Fs → Prop}
variable {ops : Array Oper} {l : List Oper} {fr : Fr} {ds : List Deferred} {h : H} {d : Nat} {ty : TypeId} {p : String} {af : Array Edge} {g : Option (Nat × Bool)}
theorem WO.boxN {x : Operand} {t : TypeId} {v : Value} {vs : List Value} (lo : Nat) (hg : GuardOn ops ⟨some d, .box t x, ty, p, af, g⟩ fr) (hd : Nat.blt d n = true) (hx : aev fr x = some v) (hv : v.cells.toList = vs)
    (k : ∀ h', Up lo (fun _ => False) h h' → h'.at h.size = .row vs true 0 → WO X n wm rd ops l ⟨Tr.set fr d (.pointer (some ⟨h.size, 0, none⟩)), ds, h', none⟩ Q) : WO X n wm rd ops (⟨some d, .box t x, ty, p, af, g⟩ :: l) ⟨fr, ds, h, none⟩ Q :=
  WO.box hg hd hx hv (k _ (Up.push lo h _) (at_push_new h _))
theorem WO.alcN {t : TypeId} {v : Value} {vs : List Value} (lo : Nat) (hg : GuardOn ops ⟨some d, .alloc t, ty, p, af, g⟩ fr) (hd : Nat.blt d n = true) (hz : zeroP X.P t = some v) (hv : v.cells.toList = vs)
    (k : ∀ h', Up lo (fun _ => False) h h' → h'.at h.size = .row vs true 0 → WO X n wm rd ops l ⟨Tr.set fr d (.pointer (some ⟨h.size, 0, none⟩)), ds, h', none⟩ Q) : WO X n wm rd ops (⟨some d, .alloc t, ty, p, af, g⟩ :: l) ⟨fr, ds, h, none⟩ Q :=
  WO.alc hg hd hz hv (k _ (Up.push lo h _) (at_push_new h _))
theorem WO.stN {x y : Operand} {t : TypeId} {b o z sz : Nat} {cs cs' vs : List Value} {v : Value} (lo : Nat) (hg : GuardOn ops ⟨none, .store t x y, ty, p, af, g⟩ fr) (hs : sizeP X.P t = some sz) (hx : aev fr x = some (.pointer (some ⟨b, o, none⟩))) (hy : aev fr y = some v)
    (hr : h.at b = .row cs true z) (hb : lo ≤ b) (hw : wm ≤ lo) (hvs : v.cells.toList = vs) (hn : Nat.beq vs.length sz = true) (hl : Nat.ble (o + sz) cs.length = true) (hc : vs.all Value.oneCell' = true) (hv : splice cs o vs = cs')
    (k : ∀ h', Up lo (fun i => i = b) h h' → h'.at b = .row cs' true z → WO X n wm rd ops l ⟨fr, ds, h', none⟩ Q) : WO X n wm rd ops (⟨none, .store t x y, ty, p, af, g⟩ :: l) ⟨fr, ds, h, none⟩ Q :=
  WO.st hg hs hx hy hr (Nat.le_trans hw hb) hvs (Nat.eq_of_beq_eq_true hn) (Nat.le_of_ble_eq_true hl) hc hv (k _ (Up.put hb (by rw [hr]; rfl)) (at_put_same (live_lt hr rfl) _))
section
variable {α : Type} {e : Rdr α} {lo : Nat} {h' : H}
theorem ElAt.nil {wm : Nat} {cs : List Value} {o : Nat} (hl : o ≤ cs.length) : ElAt e wm h cs o ([] : List α) := ⟨by simpa using hl, fun k x hk => by simp at hk⟩
theorem ElAt.of_list {wm : Nat} : ∀ (qs : List (e.Par × α)), (∀ q ∈ qs, e.F wm h q.1 q.2) → ElAt e wm h (qs.flatMap fun q => e.sh q.1 q.2) 0 (qs.map (·.2)) := by
  intro qs hq
  have hl : ∀ (qs : List (e.Par × α)), (qs.flatMap fun q => e.sh q.1 q.2).length = qs.length * e.sz := by
    intro qs
    induction qs with
    | nil => simp
    | cons q qs ih => rw [List.flatMap_cons, List.length_append, ih, e.len, List.length_cons, Nat.succ_mul]; omega
  refine ⟨by rw [hl]; simp, ?_⟩
  induction qs with
  | nil => intro k x hk; simp at hk
  | cons q qs ih =>
    intro k x hk
    cases k with
    | zero =>
      simp at hk; subst hk
      refine ⟨q.1, ?_, hq q (by simp)⟩
      rw [List.flatMap_cons, Nat.zero_mul, Nat.add_zero, List.drop_zero, List.take_append_of_le_length (by rw [e.len]; exact Nat.le_refl _), List.take_of_length_le (by rw [e.len]; exact Nat.le_refl _)]
    | succ k =>
      obtain ⟨q', h1, h2⟩ := ih (fun q hq' => hq q (by simp [hq'])) k x (by simpa using hk)
      refine ⟨q', ?_, h2⟩
      rw [← h1, List.flatMap_cons, List.drop_append, e.len, List.drop_of_length_le (by rw [e.len, Nat.succ_mul]; omega), List.nil_append]
      congr 2
      rw [Nat.succ_mul]; omega
theorem ElAt.cut {wm : Nat} {cs : List Value} {o : Nat} {xs : List α} (a : ElAt e wm h cs o xs) : ElAt e wm h ((cs.drop o).take (xs.length * e.sz)) 0 xs := by
  have hl := a.len
  refine ⟨by rw [List.length_take, List.length_drop]; omega, fun k x hk => ?_⟩
  obtain ⟨q, h1, h2⟩ := a.get k x hk
  refine ⟨q, ?_, h2⟩
  have hk' : k < xs.length := (List.getElem?_eq_some_iff.1 hk).1
  have : (k + 1) * e.sz ≤ xs.length * e.sz := Nat.mul_le_mul_right _ hk'
  rw [Nat.succ_mul] at this
  rw [← h1, List.drop_take, List.take_take, List.drop_drop, Nat.zero_add]
  congr 1; omega
theorem ElAt.uncut {wm : Nat} {cs : List Value} {o : Nat} {xs : List α} (hl : o + xs.length * e.sz ≤ cs.length) (a : ElAt e wm h ((cs.drop o).take (xs.length * e.sz)) 0 xs) : ElAt e wm h cs o xs := by
  refine ⟨hl, fun k x hk => ?_⟩
  obtain ⟨q, h1, h2⟩ := a.get k x hk
  refine ⟨q, ?_, h2⟩
  have hk' : k < xs.length := (List.getElem?_eq_some_iff.1 hk).1
  have : (k + 1) * e.sz ≤ xs.length * e.sz := Nat.mul_le_mul_right _ hk'
  rw [Nat.succ_mul] at this
  rw [← h1, List.drop_take, List.take_take, List.drop_drop, Nat.zero_add]
  congr 1; omega
theorem ElAt.append {wm : Nat} {as_ bs : List Value} {xs ys : List α} (hl : as_.length = xs.length * e.sz) (a : ElAt e wm h as_ 0 xs) (b : ElAt e wm h bs 0 ys) : ElAt e wm h (as_ ++ bs) 0 (xs ++ ys) := by
  have h1 := a.len
  have h2 := b.len
  refine ⟨by rw [List.length_append, List.length_append, Nat.add_mul]; omega, fun k x hk => ?_⟩
  rw [Nat.zero_add]
  by_cases hk' : k < xs.length
  · rw [List.getElem?_append_left hk'] at hk
    obtain ⟨q, q1, q2⟩ := a.get k x hk
    refine ⟨q, ?_, q2⟩
    have : (k + 1) * e.sz ≤ xs.length * e.sz := Nat.mul_le_mul_right _ hk'
    rw [Nat.succ_mul] at this
    rw [Nat.zero_add] at q1
    rw [← q1, List.drop_append, List.take_append_of_le_length (by rw [List.length_drop]; omega)]
  · rw [List.getElem?_append_right (by omega)] at hk
    obtain ⟨q, q1, q2⟩ := b.get _ x hk
    refine ⟨q, ?_, q2⟩
    have : xs.length * e.sz ≤ k * e.sz := Nat.mul_le_mul_right _ (by omega)
    rw [Nat.zero_add] at q1
    rw [← q1, List.drop_append, List.drop_of_length_le (by omega), List.nil_append, hl, Nat.sub_mul]
theorem ElAt.one {wm : Nat} {cs : List Value} {xs : List α} (hl : cs.length = xs.length * e.sz) (a : ElAt e wm h cs 0 xs) : cs.all Value.oneCell' = true := by
  rw [List.all_eq_true]
  intro v hv
  obtain ⟨j, hj⟩ := List.mem_iff_getElem?.1 hv
  have hjl : j < cs.length := (List.getElem?_eq_some_iff.1 hj).1
  have hp := e.pos
  have hk : j / e.sz < xs.length := Nat.div_lt_of_lt_mul (by rw [Nat.mul_comm, ← hl]; exact hjl)
  obtain ⟨q, q1, _⟩ := a.get (j / e.sz) xs[j / e.sz] (List.getElem?_eq_getElem hk)
  have hone := e.one q xs[j / e.sz]
  rw [List.all_eq_true] at hone
  refine hone v ?_
  rw [← q1, List.mem_iff_getElem?]
  refine ⟨j % e.sz, ?_⟩
  rw [List.getElem?_take_of_lt (Nat.mod_lt _ hp), List.getElem?_drop, Nat.zero_add]
  have : j / e.sz * e.sz + j % e.sz = j := Nat.div_add_mod' j e.sz
  rw [this]; exact hj
theorem reads_some (h : H) (i o m c sz : Nat) : Go.Abs.reads h (.slice (some ⟨i, o, none⟩) m c) sz = bif Nat.beq m 0 then some [] else
    match h.at i with
    | .row cs _ _ => bif Nat.ble (o + m * sz) cs.length then some ((cs.drop o).take (m * sz)) else none
    | _ => none := by cases i <;> cases o <;> rfl
theorem Src.reads {wm : Nat} {a : Option Addr} {c : Nat} {xs : List α} (s : Src e wm h a c xs) : ∃ vs, reads h (.slice a xs.length c) e.sz = some vs ∧ vs.length = xs.length * e.sz ∧ ElAt e wm h vs 0 xs := by
  rcases s.mem with z | ⟨i, o, cs, own, z, h1, h2, h3⟩
  · subst z
    refine ⟨[], ?_, by simp, ElAt.nil (by simp)⟩
    rcases s.nl with ⟨rfl, rfl⟩ | ⟨rfl, rfl⟩ | ⟨i, o, rfl⟩
    · rfl
    · rfl
    · rw [reads_some]; rfl
  · subst h1
    by_cases hx : xs = []
    · subst hx
      exact ⟨[], by rw [reads_some]; rfl, by simp, ElAt.nil (by simp)⟩
    · have hl := h3.len
      have hpos : 0 < xs.length := List.length_pos_iff.2 hx
      refine ⟨(cs.drop o).take (xs.length * e.sz), ?_, by rw [List.length_take, List.length_drop]; omega, h3.cut⟩
      rw [reads_some]
      have hb : Nat.beq xs.length 0 = false := by rw [Bool.eq_false_iff]; intro hh; have := Nat.eq_of_beq_eq_true hh; omega
      simp only [hb, cond_false, h2]
      rw [Nat.ble_eq_true_of_le hl]; rfl
theorem OwnS.mk' {wm : Nat} {h : H} {xs : List α} {vs : List Value} {i c : Nat} (hm : xs.length ≤ 9223372036854775807) (hlo : lo ≤ i) (hr : h.at i = .row vs true e.sz) (hc : xs.length ≤ c / 2) (hcl : (c / 2) * e.sz ≤ vs.length) (ha : ElAt e wm h vs 0 xs) : OwnS e wm lo h (some ⟨i, 0, none⟩) c xs :=
  ⟨hm, .inr ⟨i, 0, vs, rfl, hlo, hr, hc, by omega, ha⟩⟩
theorem OwnS.lower {wm lo lo' : Nat} {a : Option Addr} {c : Nat} {xs : List α} (hl : lo' ≤ lo) (s : OwnS e wm lo h a c xs) : OwnS e wm lo' h a c xs :=
  ⟨s.max, s.mem.imp id fun ⟨i, o, cs, h1, h2, h3⟩ => ⟨i, o, cs, h1, Nat.le_trans hl h2, h3⟩⟩
theorem bs_gen {K : Prop} {J : Value → H → Prop} {t el : TypeId} {m : Nat} {ps : Array (Nat × Operand)} {pvs : List (Nat × Value)} {z : Value} {zs : List Value} {xs : List α} (lo : Nat) (k' : ∀ v E h1, aop X h (aev fr) ⟨some d, .buildSlice t m ps, ty, p, af, g⟩ = some (.val v, E) → E.apply wm h = some h1 → E.tgt = none → J v h1 → K)
    (hu : X.P.underlying t = some (.slice el)) (hs : sizeP X.P el = some e.sz) (hz : zeroP X.P el = some z) (hzs : z.cells.toList = zs) (hzl : zs.length = e.sz) (hm : Nat.ble (m * e.sz) 10000 = true) (hp : evp (aev fr) ps.toList = some pvs)
    (ho : fillOK (fun i => some (i * e.sz, e.sz)) (zrep zs m).length pvs = true) (qs : List (e.Par × α)) (hv : fillR (fun i => i * e.sz) (zrep zs m) pvs = qs.flatMap fun q => e.sh q.1 q.2) (hq : qs.map (·.2) = xs) (hF : ∀ q ∈ qs, e.F wm h q.1 q.2) (hw : wm ≤ lo) (hlo : lo ≤ h.size) (hlen : Nat.beq m xs.length = true)
    (k : ∀ h', Up lo (fun _ => False) h h' → OwnS e wm lo h' (some ⟨h.size, 0, none⟩) (2 * m) xs → J (.slice (some ⟨h.size, 0, none⟩) xs.length (2 * m)) h') : K := by
  have hlen := Nat.eq_of_beq_eq_true hlen
  subst hlen
  have hm' := Nat.le_of_ble_eq_true hm
  refine k' _ (.new (.row (qs.flatMap fun q => e.sh q.1 q.2) true e.sz)) _ ?_ rfl rfl (k _ (Up.push lo h _) ?_)
  · show (match evp (aev fr) ps.toList with
      | some ps => vE (aslit X.P h t xs.length ps)
      | none => none) = _
    rw [hp]
    dsimp only
    unfold aslit
    rw [hu]; dsimp only
    rw [hs, hz]; dsimp only
    rw [hzs, hzl]
    have b1 : Nat.ble 1 e.sz = true := Nat.ble_eq_true_of_le e.pos
    rw [b1, hm, Nat.beq_refl]
    simp only [Bool.and_self, cond_true]
    rw [afill_eq (off := fun i => i * e.sz) (fun i p e => by cases e; rfl) _ _ ho, hv]
    rfl
  · have hel := ElAt.of_list (h := h) (wm := wm) qs hF
    rw [hq] at hel
    have hl2 := hel.len
    have hmax : xs.length ≤ 9223372036854775807 := by
      have : xs.length * 1 ≤ xs.length * e.sz := Nat.mul_le_mul_left _ e.pos
      omega
    refine OwnS.mk' hmax hlo (at_push_new h _) (by omega) ?_ (hel.mono ((Up.push lo h _).fz hw))
    have : 2 * xs.length / 2 = xs.length := by omega
    rw [this]; omega
theorem WO.bsN {t el : TypeId} {m : Nat} {ps : Array (Nat × Operand)} {pvs : List (Nat × Value)} {z : Value} {zs : List Value} {xs : List α} (lo : Nat) (hg : GuardOn ops ⟨some d, .buildSlice t m ps, ty, p, af, g⟩ fr) (hd : Nat.blt d n = true)
    (hu : X.P.underlying t = some (.slice el)) (hs : sizeP X.P el = some e.sz) (hz : zeroP X.P el = some z) (hzs : z.cells.toList = zs) (hzl : zs.length = e.sz) (hm : Nat.ble (m * e.sz) 10000 = true) (hp : evp (aev fr) ps.toList = some pvs)
    (ho : fillOK (fun i => some (i * e.sz, e.sz)) (zrep zs m).length pvs = true) (qs : List (e.Par × α)) (hv : fillR (fun i => i * e.sz) (zrep zs m) pvs = qs.flatMap fun q => e.sh q.1 q.2) (hq : qs.map (·.2) = xs) (hF : ∀ q ∈ qs, e.F wm h q.1 q.2) (hw : wm ≤ lo) (hlo : lo ≤ h.size) (hlen : Nat.beq m xs.length = true)
    (k : ∀ h', Up lo (fun _ => False) h h' → OwnS e wm lo h' (some ⟨h.size, 0, none⟩) (2 * m) xs → WO X n wm rd ops l ⟨Tr.set fr d (.slice (some ⟨h.size, 0, none⟩) xs.length (2 * m)), ds, h', none⟩ Q) : WO X n wm rd ops (⟨some d, .buildSlice t m ps, ty, p, af, g⟩ :: l) ⟨fr, ds, h, none⟩ Q :=
  bs_gen (J := fun v h1 => WO X n wm rd ops l ⟨Tr.set fr d v, ds, h1, none⟩ Q) lo (fun _ _ _ ha hE _ j => WO.v hg hd ha hE j) hu hs hz hzs hzl hm hp ho qs hv hq hF hw hlo hlen k
def AppAt (P : Program) (ts : Array TypeId) (sz by_ : Nat) : Prop := ∃ el z, appInfo P ts = some (el, sz, by_, z)
theorem ap_gen {K : Prop} {J : Value → H → Prop} {ts : Array TypeId} {x y : Operand} {by_ : Nat} {a a2 : Option Addr} {c c2 : Nat} {xs ys zs : List α} (lo : Nat) (k' : ∀ v E h1, aop X h (aev fr) ⟨some d, .call { callee := .builtin .append, args := #[x, y], argTypes := ts }, ty, p, af, g⟩ = some (.val v, E) → E.apply wm h = some h1 → J v h1 → K)
    (hi : AppAt X.P ts e.sz by_) (hw : wm ≤ lo) (hlo : lo ≤ h.size) (hx : aev fr x = some (.slice a xs.length c)) (hy : aev fr y = some (.slice a2 ys.length c2)) (so : OwnS e wm lo h a c xs) (sr : Src e wm h a2 c2 ys) (ha : app by_ xs ys = some zs)
    (k : ∀ a' c' h', Up lo (BaseA a) h h' → OwnS e wm lo h' a' c' zs → (∀ i, BaseA a' i → BaseA a i ∨ i = h.size) → J (.slice a' zs.length c') h') : K := by
  obtain ⟨rfl, hbd⟩ := app_some ha
  obtain ⟨el, z, hi⟩ := hi
  obtain ⟨new, n1, n2, n3⟩ := sr.reads
  have n4 := n3.one n2
  have hpos := e.pos
  have hev : evs (aev fr) (#[x, y] : Array Operand).toList = some [.slice a xs.length c, .slice a2 ys.length c2] := evs_cons hx (evs_cons hy evs_nil)
  have hls : lenS (.slice a2 ys.length c2) = ys.length := rfl
  have key : ∀ (v : Value) (E : Eff), aappend X.P h ts (.slice a xs.length c) (.slice a2 ys.length c2) = some (v, E) → aop X h (aev fr) ⟨some d, .call { callee := .builtin .append, args := #[x, y], argTypes := ts }, ty, p, af, g⟩ = some (.val v, E) := by
    intro v E hE
    rw [aop_builtin, hev]
    show vE (aappend X.P h ts (.slice a xs.length c) (.slice a2 ys.length c2)) = _
    rw [hE]; rfl
  have hbyle : by_ = 0 ∨ (2 * (xs.length + ys.length) + 1000) ≤ 2 ^ 47 := by
    rcases Nat.eq_zero_or_pos by_ with z | z
    · exact .inl z
    · right
      have : (2 * (xs.length + ys.length) + 1000) * 1 ≤ (2 * (xs.length + ys.length) + 1000) * by_ := Nat.mul_le_mul_left _ z
      rw [Nat.mul_one] at this
      exact Nat.le_trans this hbd
  have hby : 1 ≤ by_ := by
    unfold appInfo at hi
    split at hi
    · split at hi
      · split at hi
        · rename_i sz0 by0 z0 hs hb hz
          cases hc : (Nat.ble 1 sz0 && Nat.ble 1 by0 && Nat.beq z0.cells.toList.length sz0) <;> rw [hc] at hi <;> simp at hi
          obtain ⟨_, _, rfl, _⟩ := hi
          rw [Bool.and_eq_true, Bool.and_eq_true] at hc
          exact Nat.le_of_ble_eq_true hc.1.2
        · cases hi
      · cases hi
    · cases hi
  have hmax : (xs ++ ys).length ≤ 9223372036854775807 := by
    rw [List.length_append]
    rcases hbyle with z | z <;> omega
  have hle2 : (xs ++ ys).length = xs.length + ys.length := List.length_append
  rcases so.mem with ⟨rfl, rfl, rfl⟩ | ⟨i, o, cs, rfl, hlo2, hrow, hc1, hc2, hel⟩
  · -- of nothing
    by_cases hy0 : ys = []
    · subst hy0
      refine k' _ (.none) _ (key (.slice none 0 0) _ ?_) rfl ?_
      · unfold aappend; rw [hi]; dsimp only; rw [n1]; rfl
      · exact k none 0 h ⟨Nat.le_refl _, fun _ _ _ => rfl, fun i hb => by obtain ⟨o, hb⟩ := hb; cases hb⟩ OwnS.nil (fun i hb => by obtain ⟨o, hb⟩ := hb; cases hb)
    · have hyl : 0 < ys.length := List.length_pos_iff.2 hy0
      refine k' _ (.new (.row ([] ++ new) true e.sz)) _ (key (.slice (some ⟨h.size, 0, none⟩) ([] ++ ys).length (2 * ([] ++ ys).length + 1)) _ ?_) rfl ?_
      · unfold aappend; rw [hi]; dsimp only; rw [n1]; dsimp only
        rw [hls]
        have b1 : Nat.ble (([] : List α).length + ys.length) (0 / 2) = false := by rw [Bool.eq_false_iff]; intro q; have q := Nat.le_of_ble_eq_true q; rw [List.length_nil, Nat.zero_add, Nat.zero_div] at q; omega
        rw [b1, Nat.ble_eq_true_of_le hbd, n4]
        simp only [cond_false, Bool.and_self, cond_true]
        have b2 : reads h (.slice none ([] : List α).length 0) e.sz = some [] := rfl
        rw [b2]
        simp
      · refine k _ _ _ ⟨Nat.le_succ _, fun i hi _ => at_push_old hi _, fun i hb => by obtain ⟨o, hb⟩ := hb; cases hb⟩ ?_ (fun i hb => by obtain ⟨o, hb⟩ := hb; cases hb; exact .inr rfl)
        refine OwnS.mk' hmax hlo (at_push_new h _) (by simp only [List.nil_append]; omega) ?_ ?_
        · simp only [List.nil_append]; rw [n2]; have : (2 * ys.length + 1) / 2 = ys.length := by omega
          rw [this]; omega
        · simp only [List.nil_append]; exact n3.mono ((Up.push lo h _).fz hw)
  · have hown : (h.at i).own = true := by rw [hrow]; rfl
    have hil : i < h.size := live_lt hrow rfl
    have hxl : o + xs.length * e.sz ≤ cs.length := hel.len
    by_cases hroom : xs.length + ys.length ≤ c / 2
    · -- there is room
      by_cases hy0 : ys = []
      · subst hy0
        refine k' _ (.none) _ (key (.slice (some ⟨i, o, none⟩) xs.length c) _ ?_) rfl ?_
        · unfold aappend; rw [hi]; dsimp only; rw [n1]; dsimp only; rw [hls, Nat.ble_eq_true_of_le hroom]; rfl
        · have := k (some ⟨i, o, none⟩) c h ⟨Nat.le_refl _, fun _ _ _ => rfl, fun j hb => by obtain ⟨o', hb⟩ := hb; cases hb; exact ⟨hlo2, hown⟩⟩ (by simpa using so) (fun j hb => .inl hb)
          simpa using this
      · have hyl : 0 < ys.length := List.length_pos_iff.2 hy0
        have hfit : o + xs.length * e.sz + new.length ≤ cs.length := by
          rw [n2]
          have : (xs.length + ys.length) * e.sz ≤ c / 2 * e.sz := Nat.mul_le_mul_right _ hroom
          rw [Nat.add_mul] at this
          omega
        refine k' _ (.upd i (.row (splice cs (o + xs.length * e.sz) new) true e.sz)) (h.put i (.row (splice cs (o + xs.length * e.sz) new) true e.sz)) (key (.slice (some ⟨i, o, none⟩) (xs ++ ys).length c) _ ?_) ?_ ?_
        · unfold aappend; rw [hi]; dsimp only; rw [n1]; dsimp only; rw [hls, Nat.ble_eq_true_of_le hroom]
          have b1 : Nat.beq ys.length 0 = false := by rw [Bool.eq_false_iff]; intro q; have := Nat.eq_of_beq_eq_true q; omega
          rw [b1, hrow]
          simp only [cond_true, cond_false]
          rw [Nat.ble_eq_true_of_le hfit, n4, hle2]; rfl
        · show (bif Nat.ble wm i && (h.at i).own then some (h.put i _) else none) = _
          rw [hown, Nat.ble_eq_true_of_le (Nat.le_trans hw hlo2)]; rfl
        · have hu : Up lo (BaseA (some ⟨i, o, none⟩)) h (h.put i (.row (splice cs (o + xs.length * e.sz) new) true e.sz)) :=
            ⟨Nat.le_refl _, fun j _ hn => at_put_other (fun q => hn ⟨o, by rw [q]⟩) _, fun j hb => by obtain ⟨o', hb⟩ := hb; cases hb; exact ⟨hlo2, hown⟩⟩
          refine k _ _ _ hu ⟨hmax, .inr ⟨i, o, _, rfl, hlo2, at_put_same hil _, by rw [hle2]; exact hroom, ?_, ?_⟩⟩ (fun j hb => .inl hb)
          · simp only [splice, List.length_append, List.length_take, List.length_drop]; omega
          · refine ElAt.uncut ?_ (ElAt.mono (hu.fz hw) ?_)
            · simp only [splice, List.length_append, List.length_take, List.length_drop, Nat.add_mul, ← n2]; omega
            · have e1 : ((splice cs (o + xs.length * e.sz) new).drop o).take ((xs ++ ys).length * e.sz) = (cs.drop o).take (xs.length * e.sz) ++ new := by
                have l1 : (cs.take (o + xs.length * e.sz)).length = o + xs.length * e.sz := by rw [List.length_take]; omega
                unfold splice
                rw [List.append_assoc, List.drop_append_of_le_length (by omega), hle2, Nat.add_mul, ← n2, List.take_append]
                have l2 : ((cs.take (o + xs.length * e.sz)).drop o).length = xs.length * e.sz := by rw [List.length_drop, l1]; omega
                rw [l2, List.take_of_length_le (by rw [l2]; omega), List.drop_take]
                congr 1
                · congr 1; omega
                · have : xs.length * e.sz + new.length - xs.length * e.sz = new.length := by omega
                  rw [this, List.take_append_of_le_length (Nat.le_refl _), List.take_of_length_le (Nat.le_refl _)]
              rw [e1]
              exact ElAt.append (by rw [List.length_take, List.length_drop]; omega) hel.cut n3
    · -- it grows
      have b0 : Nat.ble (xs.length + ys.length) (c / 2) = false := by rw [Bool.eq_false_iff]; intro q; exact hroom (Nat.le_of_ble_eq_true q)
      have hold : reads h (.slice (some ⟨i, o, none⟩) xs.length c) e.sz = some ((cs.drop o).take (xs.length * e.sz)) := by
        rw [reads_some]
        cases hb : Nat.beq xs.length 0 with
        | true =>
          have := Nat.eq_of_beq_eq_true hb
          rw [this]; simp
        | false =>
          simp only [cond_false, hrow]
          rw [Nat.ble_eq_true_of_le hxl]; rfl
      have hol : ((cs.drop o).take (xs.length * e.sz)).length = xs.length * e.sz := by rw [List.length_take, List.length_drop]; omega
      have hrl : ((cs.drop o).take (xs.length * e.sz) ++ new).length = (xs ++ ys).length * e.sz := by rw [List.length_append, hol, n2, hle2, Nat.add_mul]
      have hcap : (2 * (xs ++ ys).length + 1) / 2 = (xs ++ ys).length := by omega
      cases hev2 : Nat.beq (c % 2) 0 with
      | true =>
        refine k' _ (.new (.row ((cs.drop o).take (xs.length * e.sz) ++ new) true e.sz)) _ (key (.slice (some ⟨h.size, 0, none⟩) (xs ++ ys).length (2 * (xs ++ ys).length + 1)) _ ?_) rfl ?_
        · unfold aappend; rw [hi]; dsimp only; rw [n1]; dsimp only; rw [hls, b0, Nat.ble_eq_true_of_le hbd, n4, hold, hev2, hle2]; rfl
        · refine k _ _ _ ⟨Nat.le_succ _, fun j hj _ => at_push_old hj _, fun j hb => by obtain ⟨o', hb⟩ := hb; cases hb; exact ⟨hlo2, hown⟩⟩ ?_ (fun j hb => by obtain ⟨o', hb⟩ := hb; cases hb; exact .inr rfl)
          refine OwnS.mk' hmax hlo (at_push_new h _) (by omega) (by rw [hcap, hrl]; exact Nat.le_refl _) ?_
          exact (ElAt.append hol hel.cut n3).mono ((Up.push lo h _).fz hw)
      | false =>
        refine k' _ (.grow i (.row ((cs.drop o).take (xs.length * e.sz) ++ new) true e.sz)) ((h.put i .dead).push (.row ((cs.drop o).take (xs.length * e.sz) ++ new) true e.sz)) (key (.slice (some ⟨h.size, 0, none⟩) (xs ++ ys).length (2 * (xs ++ ys).length + 1)) _ ?_) ?_ ?_
        · unfold aappend; rw [hi]; dsimp only; rw [n1]; dsimp only; rw [hls, b0, Nat.ble_eq_true_of_le hbd, n4, hold, hev2]
          simp only [cond_false, Bool.and_self, cond_true]
          rw [hrow]
          dsimp only
          rw [Nat.beq_refl, hle2]; rfl
        · show (bif Nat.ble wm i && (h.at i).own && true then some ((h.put i .dead).push _) else none) = _
          rw [hown, Nat.ble_eq_true_of_le (Nat.le_trans hw hlo2)]; rfl
        · have hu : Up lo (BaseA (some ⟨i, o, none⟩)) h ((h.put i .dead).push (.row ((cs.drop o).take (xs.length * e.sz) ++ new) true e.sz)) :=
            ⟨Nat.le_succ _, fun j hj hn => by rw [at_push_old (by simpa using hj), at_put_other (fun q => hn ⟨o, by rw [q]⟩)], fun j hb => by obtain ⟨o', hb⟩ := hb; cases hb; exact ⟨hlo2, hown⟩⟩
          refine k _ _ _ hu ?_ (fun j hb => by obtain ⟨o', hb⟩ := hb; cases hb; exact .inr rfl)
          refine OwnS.mk' hmax hlo (by have := at_push_new (h.put i .dead) (.row ((cs.drop o).take (xs.length * e.sz) ++ new) true e.sz); simpa using this) (by omega) (by rw [hcap, hrl]; exact Nat.le_refl _) ?_
          exact (ElAt.append hol hel.cut n3).mono (hu.fz hw)
theorem WO.apN {ts : Array TypeId} {x y : Operand} {by_ : Nat} {a a2 : Option Addr} {c c2 : Nat} {xs ys zs : List α} (lo : Nat) (hg : GuardOn ops ⟨some d, .call { callee := .builtin .append, args := #[x, y], argTypes := ts }, ty, p, af, g⟩ fr) (hd : Nat.blt d n = true)
    (hi : AppAt X.P ts e.sz by_) (hw : wm ≤ lo) (hlo : lo ≤ h.size) (hx : aev fr x = some (.slice a xs.length c)) (hy : aev fr y = some (.slice a2 ys.length c2)) (so : OwnS e wm lo h a c xs) (sr : Src e wm h a2 c2 ys) (ha : app by_ xs ys = some zs)
    (k : ∀ a' c' h', Up lo (BaseA a) h h' → OwnS e wm lo h' a' c' zs → (∀ i, BaseA a' i → BaseA a i ∨ i = h.size) → WO X n wm rd ops l ⟨Tr.set fr d (.slice a' zs.length c'), ds, h', none⟩ Q) :
    WO X n wm rd ops (⟨some d, .call { callee := .builtin .append, args := #[x, y], argTypes := ts }, ty, p, af, g⟩ :: l) ⟨fr, ds, h, none⟩ Q :=
  ap_gen (J := fun v h1 => WO X n wm rd ops l ⟨Tr.set fr d v, ds, h1, none⟩ Q) lo (fun _ _ _ ha hE j => WO.v hg hd ha hE j) hi hw hlo hx hy so sr ha k
end
theorem BaseA.none {i : Nat} : ¬ BaseA Option.none i := fun ⟨_, h⟩ => by cases h
section
variable {α : Type} {e : Rdr α} {lo : Nat} {h' : H}
theorem OwnS.lt {wm : Nat} {a : Option Addr} {c : Nat} {xs : List α} (s : OwnS e wm lo h a c xs) {i : Nat} (hb : BaseA a i) : i < h.size := by
  obtain ⟨o, h1⟩ := hb
  rcases s.mem with ⟨h2, _⟩ | ⟨j, o', cs, h2, _, h3, _⟩
  · rw [h1] at h2; cases h2
  · rw [h1] at h2; cases h2; exact live_lt h3 rfl
theorem OwnS.newdj {wm : Nat} {a : Option Addr} {c : Nat} {xs : List α} (s : OwnS e wm lo h a c xs) : ∀ i, BaseA (some ⟨h.size, 0, Option.none⟩) i → BaseA a i → False := fun i h1 h2 => by
  obtain ⟨o, h1⟩ := h1
  cases h1
  exact absurd (s.lt h2) (Nat.lt_irrefl _)
theorem OwnS.apdj {wm : Nat} {a a' a2 : Option Addr} {c : Nat} {xs : List α} (hs : ∀ i, BaseA a' i → BaseA a i ∨ i = h.size) (dj : ∀ i, BaseA a i → ¬ BaseA a2 i) (s : OwnS e wm lo h a2 c xs) : ∀ i, BaseA a' i → BaseA a2 i → False := fun i h1 h2 => by
  rcases hs i h1 with z | z
  · exact dj i z h2
  · subst z; exact absurd (s.lt h2) (Nat.lt_irrefl _)
end
theorem ObjR.frozen {ρ : Ren} {w : World} {b d : Nat} {l : Nat × Nat} {cs : List Value} {o : Bool} {z z' : Nat} (h : ObjR ρ w b d l (.row cs o z)) : ObjR ρ w b d l (.row cs false z') := by
  obtain ⟨cc, el, fz, a, _, c, q⟩ := h
  exact ⟨cc, el, fz, a, (fun e => by cases e), c, q⟩
theorem Rel.freeze {ρ : Ren} {h : H} {w : World} {i : Nat} {cs : List Value} {o : Bool} {z : Nat} (hr : h.at i = .row cs o z) (r : Rel ρ h w) : Rel ρ (h.put i (.row cs false 0)) w := by
  have hi := live_lt hr rfl
  have hat : ∀ j, (h.put i (.row cs false 0)).at j = if j = i then .row cs false 0 else h.at j := fun j => by
    by_cases e : j = i
    · subst e; rw [at_put_same hi, if_pos rfl]
    · rw [at_put_other e, if_neg e]
  refine ⟨r.dom, fun j b d e => ?_, fun j k b d d' e1 e2 ho hl => ?_⟩
  · rw [hat]
    have := r.obj j b d e
    split
    · rename_i e2; subst e2; rw [hr] at this; exact this.frozen
    · exact this
  · rw [hat] at ho hl
    refine r.inj j k b d d' e1 e2 ?_ ?_
    · split at ho
      · cases ho
      · exact ho
    · split at hl
      · rename_i e3; subst e3; rw [hr]; rfl
      · exact hl
theorem Stp.freeze {wm : Nat} {ρ ρ' : Ren} {h h' : H} {w w' : World} {i : Nat} {cs : List Value} {z : Nat} (hw : wm ≤ i) (hr : h.at i = .row cs true z) (a : Stp wm ρ (h.put i (.row cs false 0)) w ρ' h' w') : Stp wm ρ h w ρ' h' w' := by
  have hi := live_lt hr rfl
  have hat : ∀ j, (h.put i (.row cs false 0)).at j = if j = i then .row cs false 0 else h.at j := fun j => by
    by_cases e : j = i
    · subst e; rw [at_put_same hi, if_pos rfl]
    · rw [at_put_other e, if_neg e]
  have hown : ∀ j, ((h.put i (.row cs false 0)).at j).own = true → (h.at j).own = true := fun j e => by
    rw [hat] at e
    split at e
    · cases e
    · exact e
  refine ⟨a.ext, a.size, fun j hj => ?_, fun j hj e => hown j (a.own j hj e), fun j hj e => ?_, a.os, a.tape, a.output, a.wsize, fun b hb hno => a.frame b hb fun j d h1 h2 h3 => hno j d h1 h2 (hown j h3), fun j b d e e' => ?_⟩
  · rw [a.keep j hj, hat, if_neg (by omega)]
  · have := a.live j hj e
    rw [hat] at this
    split at this
    · rename_i e2; subst e2; rw [hr]; rfl
    · exact this
  · obtain ⟨h1, h2⟩ := a.newb j b d e e'
    exact ⟨h1, h2.imp id fun ⟨k, d', q1, q2, q3⟩ => ⟨k, d', q1, q2, hown k q3⟩⟩
theorem WC.freezeRow {cd : Code} {i : Nat} {cs : List Value} {z : Nat} (hw : wm ≤ i) (hr : h.at i = .row cs true z) (k : WC X n wm rd cd ⟨fr, ds, h.put i (.row cs false 0), none⟩ Q) : WC X n wm rd cd ⟨fr, ds, h, none⟩ Q := by
  obtain ⟨e, s', hq, hk⟩ := k
  refine ⟨e, s', hq, fun ρ a w F hwm hi hF => wpIn_mono (hk ρ a w F (by simpa using hwm) ⟨hi.rel.freeze hr, hi.fr, hi.ds⟩ hF) ?_⟩
  rintro e' a' w' ⟨ρ', h1, h2, h3⟩
  exact ⟨ρ', h1, h2, h3.freeze hw hr⟩
theorem WC.freeze {cd : Code} {α : Type} {e : Rdr α} {lo : Nat} {a : Option Addr} {c : Nat} {xs : List α} (hw : wm ≤ lo) (so : OwnS e wm lo h a c xs) (k : ∀ h', Up lo (BaseA a) h h' → Sl e wm h' a c xs → WC X n wm rd cd ⟨fr, ds, h', none⟩ Q) : WC X n wm rd cd ⟨fr, ds, h, none⟩ Q := by
  rcases so.mem with ⟨rfl, rfl, rfl⟩ | ⟨i, o, cs, rfl, h1, h2, h3, h4, h5⟩
  · exact k h ⟨Nat.le_refl _, fun _ _ _ => rfl, fun i hb => by obtain ⟨o, hb⟩ := hb; cases hb⟩ Sl.nil
  · have hu : Up lo (BaseA (some ⟨i, o, none⟩)) h (h.put i (.row cs false 0)) :=
      ⟨Nat.le_refl _, fun j _ hn => at_put_other (fun q => hn ⟨o, by rw [q]⟩) _, fun j hb => by obtain ⟨o', hb⟩ := hb; cases hb; exact ⟨h1, by rw [h2]; rfl⟩⟩
    exact WC.freezeRow (Nat.le_trans hw h1) h2 (k _ hu ⟨so.max, so.nl, .inr ⟨i, o, cs, false, 0, rfl, at_put_same (live_lt h2 rfl) _, .inr rfl, h5.mono (hu.fz hw)⟩⟩)
theorem JobOK.weaken {f : FuncId} {args : Array Value} {wm wm' : Nat} {h h' : H} {e : AEnd} (hw : wm' ≤ wm) (hl : wm ≤ h.size) (j : JobOK X (.call f args wm h) (.fin e h')) : JobOK X (.call f args wm' h) (.fin e h') := fun ρ args' w _ hr hv =>
  (j ρ args' w hl hr hv).mono fun _ _ ⟨ρ', h1, h2, h3⟩ => ⟨ρ', h1, h2, h3.weaken hw⟩
theorem WO.cw {f : FuncId} {xs : Array Operand} {ts : Array TypeId} {vs : List Value} {R : Value → H → Prop} (hg : GuardOn ops ⟨some d, .call { callee := .value (.func f), args := xs, argTypes := ts }, ty, p, af, g⟩ fr) (hd : Nat.blt d n = true)
    (hf : (X.fns.get f).isSome = true) (hx : evs (aev fr) xs.toList = some vs) (hc : WR X f vs.toArray wm h R) (k : ∀ v h', R v h' → WO X n wm rd ops l ⟨Tr.set fr d v, ds, h', none⟩ Q) :
    WO X n wm rd ops (⟨some d, .call { callee := .value (.func f), args := xs, argTypes := ts }, ty, p, af, g⟩ :: l) ⟨fr, ds, h, none⟩ Q := by
  obtain ⟨e, h', ⟨v, rfl, hr⟩, hj⟩ := hc
  exact WO.cf hg hd hf hx hj (k v h' hr)
end Go.Abs
end
end
section
noncomputable section
namespace Go.Abs
open Go.Lf
variable {X : Ctx} {P : Program}
theorem pureRun_bind2 {α β : Type} (s : Sem α) (f : α → Sem β) : pureRun P (s >>= f) = match pureRun P s with
    | some (.ok a) => pureRun P (f a)
    | some (.error v) => some (.error v)
    | none => none := by
  induction s with
  | pure a => rfl
  | program k ih => exact ih P
  | halt x => cases x <;> rfl
  | load | store | new | shape | freeze | frozen | getObj | setObj | choose | sys | mark => rfl
theorem prb {α β : Type} {s : Sem α} {f : α → Sem β} {a : α} (h : pureRun P s = some (.ok a)) : pureRun P (s >>= f) = pureRun P (f a) := by rw [pureRun_bind2, h]
theorem pr_underlying {t : TypeId} {u : TypeDesc} (h : P.underlying t = some u) : pureRun P (underlying t) = some (.ok u) := by
  show pureRun P (match P.underlying t with | some d => pure d | none => stuck "no such type") = _
  rw [h]; rfl
theorem eq_int {t : TypeId} {k : IntKind} {a b : Int} {d : Nat} (hu : P.underlying t = some (.int k)) : pureRun P (Op.equalIn (d + 1) t (.int k a) (.int k b)) = some (.ok (a == b)) := by
  unfold Op.equalIn
  rw [prb (pr_underlying hu)]
  show pureRun P (if k = k then pure (a == b) else stuck "==: kinds differ") = _
  rw [if_pos rfl]; rfl
theorem part_cell {t : TypeId} {cs : Array Value} {off : Nat} {v : Value} (ht : isAggP P t = some false) (hv : cs[off]? = some v) : pureRun P (part t cs off) = some (.ok v) := by
  unfold isAggP at ht
  unfold part isAgg
  cases hu : P.underlying t with
  | none => rw [hu] at ht; cases ht
  | some u =>
    rw [hu] at ht
    rw [prb (a := false)]
    · simp only [hv]; rfl
    · rw [prb (pr_underlying hu)]
      cases u <;> first | rfl | (cases ht; done)
def FEq (P : Program) (d : Nat) (xs ys : Array Value) : List Field → List Bool → Prop
  | [], [] => True
  | f :: fl, b :: bs => (f.name ≠ "_" ∧ ∃ v w, pureRun P (part f.type xs f.offset) = some (.ok v) ∧ pureRun P (part f.type ys f.offset) = some (.ok w) ∧ pureRun P (Op.equalIn d f.type v w) = some (.ok b)) ∧ FEq P d xs ys fl bs
  | _, _ => False
theorem feq_run {d : Nat} {xs ys : Array Value} : ∀ {fl : List Field} {bs : List Bool}, FEq P d xs ys fl bs →
    pureRun P (forIn fl ((none : Option Bool), ()) fun f _ => if f.name ≠ "_" then do
        let a ← part f.type xs f.offset
        let b ← part f.type ys f.offset
        let r ← Op.equalIn d f.type a b
        if (!r) = true then pure (ForInStep.done (some false, ())) else pure (ForInStep.yield (none, ()))
      else pure (ForInStep.yield (none, ())) : Sem (Option Bool × Unit)) = some (.ok (bif bs.all id then none else some false, ())) := by
  intro fl
  induction fl with
  | nil =>
    intro bs h
    cases bs with
    | nil => rfl
    | cons => exact h.elim
  | cons f fl ih =>
    intro bs h
    cases bs with
    | nil => exact h.elim
    | cons b bs =>
      obtain ⟨⟨h1, v, w, h2, h3, h4⟩, h5⟩ := h
      rw [List.forIn_cons, if_pos h1, pureRun_bind2, prb h2, prb h3, prb h4]
      cases b with
      | false => rfl
      | true =>
        have := ih h5
        have e : (true :: bs).all id = bs.all id := by simp
        rw [e, ← this]; rfl
theorem eq_struct {t : TypeId} {fs : Array Field} {xs ys : Array Value} {d : Nat} {bs : List Bool} (hu : P.underlying t = some (.struct fs)) (hst : P.stoodInHeld t = false) (hf : FEq P d xs ys fs.toList bs) :
    pureRun P (Op.equalIn (d + 1) t (.agg xs) (.agg ys)) = some (.ok (bs.all id)) := by
  unfold Op.equalIn
  rw [prb (pr_underlying hu)]
  show pureRun P (if P.stoodInHeld t = true then _ else _) = _
  rw [hst, if_neg (by simp)]
  dsimp only
  have := feq_run hf
  rw [← Array.forIn_toList]
  rw [prb this]
  cases bs.all id <;> rfl
theorem eqGuard_off {t : TypeId} {x y : Operand} {xs ys : Array Value} {op : BinOp} (hop : op = .eql ∨ op = .neq) (hg : P.eqGuardType P.depth t = false) : pureRun P (eqGuard op t x y (.agg xs) (.agg ys)) = some (.ok ()) := by
  rcases hop with rfl | rfl
  · show pureRun P (if (!P.eqGuardType P.depth t) = true then _ else _) = _
    rw [hg]; rfl
  · show pureRun P (if (!P.eqGuardType P.depth t) = true then _ else _) = _
    rw [hg]; rfl
def EqOf (P : Program) (t : TypeId) (xs ys : List Value) (b : Bool) : Prop := P.eqGuardType P.depth t = false ∧ pureRun P (Op.equal t (.agg xs.toArray) (.agg ys.toArray)) = some (.ok b)
theorem abin_neS {t : TypeId} {x y : Operand} {xs ys : List Value} {b : Bool} (h : EqOf P t xs ys b) (h1 : xs.all scalar = true) (h2 : ys.all scalar = true) : abin P .neq t x y (.agg xs.toArray) (.agg ys.toArray) = some (.val (.bool (!b)), .none) := by
  have hp : (plain (.agg xs.toArray) && plain (.agg ys.toArray)) = true := by
    have e1 : plain (.agg xs.toArray) = xs.all scalar := rfl
    have e2 : plain (.agg ys.toArray) = ys.all scalar := rfl
    rw [e1, e2, h1, h2]; rfl
  unfold abin
  rw [hp, cond_true]
  unfold pval
  rw [prb (eqGuard_off (.inr rfl) h.1)]
  have : pureRun P (binOp .neq t (.agg xs.toArray) (.agg ys.toArray)) = some (.ok (.bool (!b))) := by
    show pureRun P (do pure (Value.bool (!(← Op.equal t (.agg xs.toArray) (.agg ys.toArray)))) : Sem Value) = _
    rw [prb h.2]; rfl
  rw [this]; rfl
theorem aload_at1 {h : H} {t : TypeId} {b o oo j : Nat} {vs : List Value} {v : Value} (ht : isAggP P t = some false) (ha : At h b o vs) (ho : oo = o + j) (hv : vs[j]? = some v) : aload P h t (.pointer (some ⟨b, oo, none⟩)) = some v := by
  obtain ⟨cs, own, z, h1, h2⟩ := ha.cell hv
  subst ho
  exact Slc.load h1 ht h2
theorem ares_nil {fr : Fr} {h : H} : ares P fr h [] = some [] := rfl
theorem ares_tmp {fr : Fr} {h : H} {t : Nat} {v : Value} {rs : List ResultVar} {vs : List Value} (hv : aev fr (.tmp t) = some v) (hr : ares P fr h rs = some vs) : ares P fr h (.tmp t :: rs) = some (v :: vs) := by
  have e : ares1 P fr h (.tmp t) = some v := hv
  simp only [ares, e, hr]
theorem ares_cell {fr : Fr} {h : H} {a t : Nat} {p v : Value} {rs : List ResultVar} {vs : List Value} (hp : fr.at a = p) (hv : aload P h t p = some v) (hr : ares P fr h rs = some vs) : ares P fr h (.cell a t :: rs) = some (v :: vs) := by
  have e : ares1 P fr h (.cell a t) = some v := by show aload P h t (fr.at a) = some v; rw [hp]; exact hv
  simp only [ares, e, hr]
theorem RetK.gen1 {fn : Func} {R : Value → H → Prop} {fr : Fr} {h : H} {wr : Option Nat} {rs : List ResultVar} {v : Value} (hr : fn.results.toList = rs) (hv : ares X.P fr h rs = some [v]) (k : R v h) : RetK X fn (fun e h' => ∃ v, e = .ret v ∧ R v h') .ret ⟨fr, [], h, wr⟩ := by
  refine ⟨⟨rfl, v, ?_, v, rfl, k⟩⟩
  unfold aresult
  dsimp only
  rw [hr, hv]
theorem RetK.gen {fn : Func} {R : Value → H → Prop} {fr : Fr} {h : H} {wr : Option Nat} {rs : List ResultVar} {vs : List Value} (hr : fn.results.toList = rs) (hv : ares X.P fr h rs = some vs) (hl : Nat.beq vs.length 1 = false) (k : R (.tuple vs.toArray) h) : RetK X fn (fun e h' => ∃ v, e = .ret v ∧ R v h') .ret ⟨fr, [], h, wr⟩ := by
  refine ⟨⟨rfl, _, ?_, _, rfl, k⟩⟩
  unfold aresult
  dsimp only
  rw [hr, hv]
  match vs, hl with
  | [], _ => rfl
  | [_], h => cases h
  | _ :: _ :: _, _ => rfl
theorem RetK.nrm {fn : Func} {R : AEnd → H → Prop} {s : Fs} (k : RetK X fn R .ret s) : RetK X fn R .normal s := ⟨k.out⟩
def Rdr.Flat {α : Type} (e : Rdr α) : Prop := ∀ wm h p x, e.F wm h p x
theorem OwnS.flat {α : Type} {e : Rdr α} {wm wm' lo : Nat} {h : H} {a : Option Addr} {c : Nat} {xs : List α} (f : e.Flat) (s : OwnS e wm lo h a c xs) : OwnS e wm' lo h a c xs :=
  ⟨s.max, s.mem.imp id fun ⟨i, o, cs, h1, h2, h3, h4, h5, h6⟩ => ⟨i, o, cs, h1, h2, h3, h4, h5, ⟨h6.len, fun k x hk => let ⟨q, q1, _⟩ := h6.get k x hk; ⟨q, q1, f _ _ _ _⟩⟩⟩⟩
theorem WR.weaken {f : FuncId} {args : Array Value} {wm wm' : Nat} {h : H} {R : Value → H → Prop} (hw : wm' ≤ wm) (hl : wm ≤ h.size) (k : WR X f args wm h R) : WR X f args wm' h R := by
  obtain ⟨e, h', hq, hj⟩ := k
  exact ⟨e, h', hq, JobOK.weaken hw hl hj⟩
theorem Sl.cases {α : Type} {e : Rdr α} {wm : Nat} {h : H} {a : Option Addr} {c : Nat} {xs : List α} (s : Sl e wm h a c xs) : (a = none ∧ c = 0 ∧ xs = []) ∨ ∃ q, a = some q := by
  rcases s.nl with ⟨h1, h2⟩ | ⟨h1, _⟩ | ⟨i, o, h1⟩
  · refine .inl ⟨h1, h2, ?_⟩
    rcases s.mem with z | ⟨i, o, cs, own, z, q1, _⟩
    · exact z
    · rw [h1] at q1; cases q1
  · exact .inr ⟨_, h1⟩
  · exact .inr ⟨_, h1⟩
theorem abin_nilT {t e : TypeId} {x y : Operand} (hu : P.underlying t = some (.slice e)) : abin P .eql t x y (.slice none 0 0) (.slice none 0 0) = some (.val (.bool true), .none) := by
  have hp : (plain (.slice none 0 0) && plain (.slice none 0 0)) = true := rfl
  unfold abin
  rw [hp, cond_true]
  unfold pval
  have h1 : pureRun P (eqGuard .eql t x y (.slice none 0 0) (.slice none 0 0)) = some (.ok ()) := rfl
  rw [prb h1]
  have : pureRun P (binOp .eql t (.slice none 0 0) (.slice none 0 0)) = some (.ok (.bool true)) := by
    show pureRun P (do pure (Value.bool (← Op.equal t (.slice none 0 0) (.slice none 0 0))) : Sem Value) = _
    have h2 : pureRun P (Op.equal t (.slice none 0 0) (.slice none 0 0)) = some (.ok true) := by
      unfold Op.equal
      show pureRun P (Op.equalIn (9999 + 1) t _ _) = _
      unfold Op.equalIn
      rw [prb (pr_underlying hu)]; rfl
    rw [prb h2]; rfl
  rw [this]; rfl
theorem abin_nilF {t e : TypeId} {x y : Operand} {q : Addr} {n c : Nat} (hu : P.underlying t = some (.slice e)) : abin P .eql t x y (.slice (some q) n c) (.slice none 0 0) = some (.val (.bool false), .none) := by
  have hp : (plain (.slice (some q) n c) && plain (.slice none 0 0)) = false := rfl
  unfold abin
  rw [hp, cond_false]
  have : nilEq P t (.slice (some q) n c) (.slice none 0 0) = some false := by unfold nilEq; rw [hu]; rfl
  rw [this]
theorem app_nn {α : Type} (by_ : Nat) (h : 1000 * by_ ≤ 2 ^ 47) : app by_ ([] : List α) [] = some [] := app_eq (by simpa using h)
theorem OwnS.calldj {α β : Type} {e : Rdr α} {e2 : Rdr β} {wm wm2 lo2 : Nat} {h h' : H} {a a2 : Option Addr} {c c2 : Nat} {xs : List α} {ys : List β} (s : OwnS e wm h.size h' a c xs) (s2 : OwnS e2 wm2 lo2 h a2 c2 ys) : ∀ i, BaseA a i → BaseA a2 i → False := fun i h1 h2 => by
  have h3 := s2.lt h2
  obtain ⟨o, h1⟩ := h1
  rcases s.mem with ⟨q, _⟩ | ⟨j, o', cs, q, hl, _⟩
  · rw [h1] at q; cases q
  · rw [h1] at q; cases q; omega
end Go.Abs
end
end
section
noncomputable section
namespace Go.Abs
open Go.Lf
abbrev SfT := List (Nat × Nat × Nat × (AObj → Prop)) × List (Nat × List Nat)
variable {X : Ctx} {n wm : Nat} {rd : Option Nat} {ops : Array Oper} {l : List Oper} {fr : Fr} {ds : List Deferred} {h h1 : H} {ty : TypeId} {p : String} {af : Array Edge} {g : Option (Nat × Bool)} {m : Nat} {sf : SfT}
def cmpAll (ops : List Oper) (j : Nat) : Bool := allIdx (fun i o => Nat.beq i j || comp (predsF ops 0 []) i j || heapless o) ops 0
def cmpBut (ops : List Oper) (j i0 : Nat) : Bool := Nat.blt i0 j && allIdx (fun i o => Nat.beq i j || comp (predsF ops 0 []) i j || heapless o || Nat.beq i i0) ops 0
def Indep (A : AObj) : Prop := ∀ (ρ ρ' : Ren) (w : World) (b d : Nat) (l : Nat × Nat), ObjR ρ w b d l A → ObjR ρ' w b d l A
def Prm (P : Program) (wm : Nat) (rd : Option Nat) (ops : Array Oper) (o : Oper) (fr : Fr) (h : H) (v : Value) (x : Nat) (C : AObj → Prop) : Prop :=
  x < h.size ∧ Indep (h.at x) ∧ StepOK P wm rd ops o (fun _ => False) fr h v h ∧ ∀ A, C A → Indep A ∧ StepOK P wm rd ops o (fun _ => False) fr (h.put x A) v (h.put x A)
def Oth (ops : List Oper) (sf : SfT) (j x : Nat) (A : AObj) : Prop := ∀ i o, ops[i]? = some o → i = j ∨ comp (predsF ops 0 []) i j = true ∨ heapless o = true ∨ (∃ C, C A ∧ (i, x, j, C) ∈ sf.1 ∧ i < j) ∨ ∃ X, (i, X) ∈ sf.2 ∧ x ∈ X ∧ i < j
theorem Oth.all {ops : List Oper} {sf : SfT} {j x : Nat} {A : AObj} (h : cmpAll ops j = true) : Oth ops sf j x A := fun i o ho => by
  have := allIdx_spec _ _ h i o ho
  rw [Nat.zero_add, Bool.or_eq_true, Bool.or_eq_true] at this
  rcases this with (q | q) | q
  · exact .inl (Nat.eq_of_beq_eq_true q)
  · exact .inr (.inl q)
  · exact .inr (.inr (.inl q))
theorem Oth.but {ops : List Oper} {sf : SfT} {j x i0 : Nat} {A : AObj} {C : AObj → Prop} (h : cmpBut ops j i0 = true) (hm : (i0, x, j, C) ∈ sf.1) (hc : C A) : Oth ops sf j x A := fun i o ho => by
  unfold cmpBut at h
  rw [Bool.and_eq_true] at h
  have := allIdx_spec _ _ h.2 i o ho
  rw [Nat.zero_add, Bool.or_eq_true, Bool.or_eq_true, Bool.or_eq_true] at this
  rcases this with ((q | q) | q) | q
  · exact .inl (Nat.eq_of_beq_eq_true q)
  · exact .inr (.inl q)
  · exact .inr (.inr (.inl q))
  · have e := Nat.eq_of_beq_eq_true q
    subst e
    exact .inr (.inr (.inr (.inl ⟨C, hc, hm, by have := h.1; rwa [Nat.blt_eq] at this⟩)))
def cmpHid (ops : List Oper) (j : Nat) (is : List Nat) : Bool := allIdx (fun i o => Nat.beq i j || comp (predsF ops 0 []) i j || heapless o || is.any (Nat.beq i)) ops 0
theorem Oth.hid {ops : List Oper} {sf : SfT} {j x : Nat} {A : AObj} (is : List Nat) (h : cmpHid ops j is = true) (hm : ∀ i ∈ is, ∃ X, (i, X) ∈ sf.2 ∧ x ∈ X ∧ i < j) : Oth ops sf j x A := fun i o ho => by
  have := allIdx_spec _ _ h i o ho
  rw [Nat.zero_add, Bool.or_eq_true, Bool.or_eq_true, Bool.or_eq_true] at this
  rcases this with ((q | q) | q) | q
  · exact .inl (Nat.eq_of_beq_eq_true q)
  · exact .inr (.inl q)
  · exact .inr (.inr (.inl q))
  · rw [List.any_eq_true] at q
    obtain ⟨y, q1, q2⟩ := q
    have e := Nat.eq_of_beq_eq_true q2
    subst e
    exact .inr (.inr (.inr (.inr (hm _ q1))))
structure WD (X : Ctx) (n wm : Nat) (rd : Option Nat) (ops : Array Oper) (sf : SfT) (m : Nat) (h : H) (l : List Oper) (fr : Fr) (Q : Fr → H → Prop) : Prop where
  out : ∃ (hs : Nat → H) (fs : Nat → Fr) (vs : Nat → Value) (ts : Nat → Option Nat) (ps : Nat → Option (Nat × Nat × (AObj → Prop))) (xs : Nat → List Nat), hs 0 = h ∧ fs 0 = fr ∧ Q (fs l.length) (hs l.length) ∧ ∀ k o, l[k]? = some o →
    (∃ h1, hs (k + 1) = unmask (xs k) (hs k) h1 ∧ (wm ≤ (hs k).size → StepOK X.P wm rd ops o (MOf false wm (ts k)) (fs k) (mask (xs k) (hs k)) (vs k) h1 ∧ KeepM (MOf false wm (ts k)) (mask (xs k) (hs k)) h1 ∧ ∀ x, ts k = some x → wm ≤ x)) ∧ fs (k + 1) = setd (fs k) o.dst (vs k) ∧ (∀ d, o.dst = some d → d < n) ∧
    (heapless o = true → ts k = none ∧ hs (k + 1) = hs k ∧ ∀ g, StepOK X.P wm rd ops o (fun _ => False) (fs k) g (vs k) g) ∧
    (∀ x, ts k = some x → ∀ i o', ops.toList[i]? = some o' → i = m + k ∨ comp (predsF ops.toList 0 []) i (m + k) = true ∨ heapless o' = true ∨ (∃ C, C ((hs (k + 1)).at x) ∧ i < m + k ∧ ((∃ i', i = m + i' ∧ i' < k ∧ ps i' = some (x, m + k, C)) ∨ (i, x, m + k, C) ∈ sf.1)) ∨ ∃ X, x ∈ X ∧ i < m + k ∧ ((∃ i', i = m + i' ∧ i' < k ∧ xs i' = X) ∨ (i, X) ∈ sf.2)) ∧
    (∀ x j C, ps k = some (x, j, C) → xs k = [] ∧ ts k = none ∧ hs (k + 1) = hs k ∧ Prm X.P wm rd ops o (fs k) (hs k) (vs k) x C) ∧ (xs k ≠ [] → ts k = none ∧ ∀ x ∈ xs k, x < (hs k).size)
variable {Q : Fr → H → Prop}
theorem WD.nil (k : Q fr h) : WD X n wm rd ops sf m h [] fr Q := ⟨fun _ => h, fun _ => fr, fun _ => undef, fun _ => none, fun _ => none, fun _ => [], rfl, rfl, k, fun k o e => by simp at e⟩
theorem WD.consX {o : Oper} {v : Value} {t : Option Nat} {h2 : H} (p0 : Option (Nat × Nat × (AObj → Prop))) (X0 : List Nat) (h12 : h2 = unmask X0 h h1) (hs : wm ≤ h.size → StepOK X.P wm rd ops o (MOf false wm t) fr (mask X0 h) v h1 ∧ KeepM (MOf false wm t) (mask X0 h) h1 ∧ ∀ x, t = some x → wm ≤ x) (hd : ∀ d, o.dst = some d → d < n)
    (hh : heapless o = true → t = none ∧ h2 = h ∧ ∀ g, StepOK X.P wm rd ops o (fun _ => False) fr g v g) (ht : ∀ x, t = some x → Oth ops.toList sf m x (h2.at x)) (hp : ∀ x j C, p0 = some (x, j, C) → X0 = [] ∧ t = none ∧ h2 = h ∧ Prm X.P wm rd ops o fr h v x C) (hx : X0 ≠ [] → t = none ∧ ∀ x ∈ X0, x < h.size)
    (k : WD X n wm rd ops ((p0.map fun q => (m, q.1, q.2.1, q.2.2)).toList ++ sf.1, (m, X0) :: sf.2) (m + 1) h2 l (setd fr o.dst v) Q) : WD X n wm rd ops sf m h (o :: l) fr Q := by
  obtain ⟨gs, fs, vs, ts, ps, xs, e0, e1, hq, hk⟩ := k
  refine ⟨fun k => match k with | 0 => h | k + 1 => gs k, fun k => match k with | 0 => fr | k + 1 => fs k, fun k => match k with | 0 => v | k + 1 => vs k, fun k => match k with | 0 => t | k + 1 => ts k, fun k => match k with | 0 => p0 | k + 1 => ps k, fun k => match k with | 0 => X0 | k + 1 => xs k, rfl, rfl, hq, fun k o' ho' => ?_⟩
  cases k with
  | zero =>
    simp at ho'
    subst ho'
    refine ⟨⟨h1, e0.trans h12, hs⟩, e1, hd, fun q => by have := hh q; rw [← e0] at this; exact this, fun x hx i o' ho' => ?_, fun x j C q => by have := hp x j C q; rw [← e0] at this; exact this, hx⟩
    rcases ht x hx i o' ho' with q | q | q | ⟨C, c1, c2, c3⟩ | ⟨X, c1, c2, c3⟩
    · exact .inl q
    · exact .inr (.inl q)
    · exact .inr (.inr (.inl q))
    · exact .inr (.inr (.inr (.inl ⟨C, by rw [← e0] at c1; exact c1, c3, .inr c2⟩)))
    · exact .inr (.inr (.inr (.inr ⟨X, c2, c3, .inr c1⟩)))
  | succ k =>
    obtain ⟨k1, k2, k3, k4, k5, k6, k7⟩ := hk k o' (by simpa using ho')
    have e : m + 1 + k = m + (k + 1) := by omega
    refine ⟨k1, k2, k3, k4, fun x hx i o' ho' => ?_, k6, k7⟩
    have := k5 x hx i o' ho'
    rw [e] at this
    rcases this with q | q | q | ⟨C, c1, c2, c3⟩ | ⟨X, c1, c2, c3⟩
    · exact .inl q
    · exact .inr (.inl q)
    · exact .inr (.inr (.inl q))
    · refine .inr (.inr (.inr (.inl ⟨C, c1, c2, ?_⟩)))
      rcases c3 with ⟨i', q1, q2, q3⟩ | q
      · exact .inl ⟨i' + 1, by omega, by omega, q3⟩
      · rw [List.mem_append] at q
        rcases q with q | q
        · cases p0 with
          | none => simp at q
          | some p =>
            simp at q
            obtain ⟨z1, z2, z3, z4⟩ := q
            exact .inl ⟨0, by omega, by omega, by show some p = _; rw [z2, z3, z4]⟩
        · exact .inr q
    · refine .inr (.inr (.inr (.inr ⟨X, c1, c2, ?_⟩)))
      rcases c3 with ⟨i', q1, q2, q3⟩ | q
      · exact .inl ⟨i' + 1, by omega, by omega, q3⟩
      · rcases List.mem_cons.1 q with q | q
        · injection q with z1 z2
          exact .inl ⟨0, by omega, by omega, z2.symm⟩
        · exact .inr q
theorem WD.more {sf' : SfT} (h1 : ∀ q, q ∈ sf.1 → q ∈ sf'.1) (h2 : ∀ q, q ∈ sf.2 → q ∈ sf'.2) (k : WD X n wm rd ops sf m h l fr Q) : WD X n wm rd ops sf' m h l fr Q := by
  obtain ⟨gs, fs, vs, ts, ps, xs, e0, e1, hq, hk⟩ := k
  refine ⟨gs, fs, vs, ts, ps, xs, e0, e1, hq, fun k o ho => ?_⟩
  obtain ⟨k1, k2, k3, k4, k5, k6, k7⟩ := hk k o ho
  refine ⟨k1, k2, k3, k4, fun x hx i o' ho' => ?_, k6, k7⟩
  rcases k5 x hx i o' ho' with q | q | q | ⟨C, c1, c2, c3⟩ | ⟨X, c1, c2, c3⟩
  · exact .inl q
  · exact .inr (.inl q)
  · exact .inr (.inr (.inl q))
  · exact .inr (.inr (.inr (.inl ⟨C, c1, c2, c3.imp id (h1 _)⟩)))
  · exact .inr (.inr (.inr (.inr ⟨X, c1, c2, c3.imp id (h2 _)⟩)))
theorem WD.consP {o : Oper} {v : Value} {t : Option Nat} (p0 : Option (Nat × Nat × (AObj → Prop))) (hs : wm ≤ h.size → StepOK X.P wm rd ops o (MOf false wm t) fr h v h1 ∧ KeepM (MOf false wm t) h h1 ∧ ∀ x, t = some x → wm ≤ x) (hd : ∀ d, o.dst = some d → d < n)
    (hh : heapless o = true → t = none ∧ h1 = h ∧ ∀ g, StepOK X.P wm rd ops o (fun _ => False) fr g v g) (ht : ∀ x, t = some x → Oth ops.toList sf m x (h1.at x)) (hp : ∀ x j C, p0 = some (x, j, C) → t = none ∧ h1 = h ∧ Prm X.P wm rd ops o fr h v x C)
    (k : WD X n wm rd ops ((p0.map fun q => (m, q.1, q.2.1, q.2.2)).toList ++ sf.1, sf.2) (m + 1) h1 l (setd fr o.dst v) Q) : WD X n wm rd ops sf m h (o :: l) fr Q :=
  WD.consX p0 [] rfl hs hd hh ht (fun x j C e => ⟨rfl, hp x j C e⟩) (fun z => absurd rfl z) (WD.more (sf := ((p0.map fun q => (m, q.1, q.2.1, q.2.2)).toList ++ sf.1, sf.2)) (fun _ h => h) (fun q (h : q ∈ sf.2) => List.mem_cons_of_mem _ h) k)
theorem MOf_f (wm : Nat) (t : Option Nat) : MOf false wm t = fun x => t = some x := by funext x; unfold MOf; simp
def SV (X : Ctx) (wm : Nat) (o : Oper) (fr : Fr) (h : H) (v : Value) (h1 : H) (tg : Bool) : Prop := ∃ E, aop X h (aev fr) o = some (.val v, E) ∧ E.apply wm h = some h1 ∧ (tg = false → E.tgt = none)
def SU (X : Ctx) (wm : Nat) (o : Oper) (fr : Fr) (h : H) (h1 : H) (tg : Bool) : Prop := ∃ E, aop X h (aev fr) o = some (.skip, E) ∧ E.apply wm h = some h1 ∧ (tg = false → E.tgt = none)
theorem WD.step {ih : Job → Option Res} {pur : FuncId → Bool} (HI : ∀ j r, ih j = some r → JobOK X j r) (HK : ∀ j r, ih j = some r → JobKeep j r) {o : Oper} {v : Value} {t : Option Nat} (hd : ∀ d, o.dst = some d → d < n)
    (hs : dstep X pur ih n wm none false ops.toList o fr h = some (t, v, h1)) (ht : ∀ x, t = some x → Oth ops.toList sf m x (h1.at x)) (k : WD X n wm rd ops sf (m + 1) h1 l (setd fr o.dst v) Q) : WD X n wm rd ops sf m h (o :: l) fr Q := by
  refine WD.consP none (fun hw => ⟨dstep_real HI HK hs, (dstep_keep HK hs hw).1, fun x hx => (dstep_keep HK hs hw).2.1 x (by rw [MOf_f]; exact hx)⟩) hd (fun q => ?_) ht (fun x j C e => by cases e) k
  obtain ⟨z1, z2, z3⟩ := dstep_heapless q hs
  exact ⟨z1, z2, fun g => by have := dstep_real (rd := rd) HI HK (z3 g); rw [MOf_none] at this; exact this⟩
theorem WD.sv {d : Nat} {op : Op} {v : Value} {tg : Bool} (hg : GuardOn ops ⟨some d, op, ty, p, af, g⟩ fr) (hd : Nat.blt d n = true) (s : SV X wm ⟨some d, op, ty, p, af, g⟩ fr h v h1 tg) (ht : tg = false ∨ ∀ x, Oth ops.toList sf m x (h1.at x)) (k : WD X n wm rd ops sf (m + 1) h1 l (Tr.set fr d v) Q) :
    WD X n wm rd ops sf m h (⟨some d, op, ty, p, af, g⟩ :: l) fr Q := by
  obtain ⟨E, ha, hE, he⟩ := s
  refine WD.step (pur := fun _ => true) (t := E.tgt) (none_ok X) none_keep (fun d' e => by cases e; rwa [Nat.blt_eq] at hd) ?_ (fun x hx => ht.elim (fun z => by rw [he z] at hx; cases hx) (fun z => z x)) k
  unfold dstep
  dsimp only
  have e : (Nat.blt d n && allowed none d) = true := by rw [hd]; rfl
  rw [e, hg.1, hg.2, ha]
  dsimp only [Bool.not_true, cond_false, cond_true]
  rw [hE]; rfl
theorem WD.su {op : Op} {tg : Bool} (hg : GuardOn ops ⟨none, op, ty, p, af, g⟩ fr) (s : SU X wm ⟨none, op, ty, p, af, g⟩ fr h h1 tg) (ht : tg = false ∨ ∀ x, Oth ops.toList sf m x (h1.at x)) (k : WD X n wm rd ops sf (m + 1) h1 l fr Q) :
    WD X n wm rd ops sf m h (⟨none, op, ty, p, af, g⟩ :: l) fr Q := by
  obtain ⟨E, ha, hE, he⟩ := s
  refine WD.step (v := undef) (pur := fun _ => true) (t := E.tgt) (none_ok X) none_keep (fun d' e => by cases e) ?_ (fun x hx => ht.elim (fun z => by rw [he z] at hx; cases hx) (fun z => z x)) k
  unfold dstep
  dsimp only
  rw [hg.1, hg.2, ha]
  dsimp only [Bool.not_true, cond_false, cond_true]
  rw [hE]; rfl
theorem WO.sv {d : Nat} {op : Op} {v : Value} {tg : Bool} {QQ : XX → Fs → Prop} (hg : GuardOn ops ⟨some d, op, ty, p, af, g⟩ fr) (hd : Nat.blt d n = true) (s : SV X wm ⟨some d, op, ty, p, af, g⟩ fr h v h1 tg) (k : WO X n wm rd ops l ⟨Tr.set fr d v, ds, h1, none⟩ QQ) :
    WO X n wm rd ops (⟨some d, op, ty, p, af, g⟩ :: l) ⟨fr, ds, h, none⟩ QQ := let ⟨_, ha, hE, _⟩ := s; WO.v hg hd ha hE k
theorem WD.v {d : Nat} {op : Op} {v : Value} (hg : GuardOn ops ⟨some d, op, ty, p, af, g⟩ fr) (hd : Nat.blt d n = true) (ha : aop X h (aev fr) ⟨some d, op, ty, p, af, g⟩ = some (.val v, .none)) (k : WD X n wm rd ops sf (m + 1) h l (Tr.set fr d v) Q) :
    WD X n wm rd ops sf m h (⟨some d, op, ty, p, af, g⟩ :: l) fr Q := WD.sv hg hd ⟨.none, ha, rfl, fun _ => rfl⟩ (.inl rfl) k
theorem oneJob_keepG {f : FuncId} {args : Array Value} {h2 : H} {v : Value} (g : Grow h h2) : ∀ j r, oneJob (.call f args h.size h) (.fin (.ret v) h2) j = some r → JobKeep j r := by
  intro j r e
  unfold oneJob at e
  split at e
  · rename_i hj; cases e; rw [hj]
    exact ⟨_, _, rfl, fun _ => ⟨g.size, fun i hi => g.keep i hi, fun i hi x => by rwa [g.keep i hi] at x, fun i hi x => by rwa [g.keep i hi] at x⟩⟩
  · cases e
theorem WD.call {d : Nat} {f : FuncId} {xs : Array Operand} {ts : Array TypeId} {vs : List Value} {v : Value} {h2 : H} (hg : GuardOn ops ⟨some d, .call { callee := .value (.func f), args := xs, argTypes := ts }, ty, p, af, g⟩ fr) (hd : Nat.blt d n = true)
    (hf : (X.fns.get f).isSome = true) (hx : evs (aev fr) xs.toList = some vs) (gr : Grow h h2) (hc : JobOK X (.call f vs.toArray h.size h) (.fin (.ret v) h2)) (k : WD X n wm rd ops sf (m + 1) h2 l (Tr.set fr d v) Q) (hp : plain v = true → h2 = h) :
    WD X n wm rd ops sf m h (⟨some d, .call { callee := .value (.func f), args := xs, argTypes := ts }, ty, p, af, g⟩ :: l) fr Q := by
  obtain ⟨fn, hf⟩ := Option.isSome_iff_exists.1 hf
  have ha : aop X h (aev fr) ⟨some d, .call { callee := .value (.func f), args := xs, argTypes := ts }, ty, p, af, g⟩ = some (.enter f vs.toArray, .none) := by
    rw [aop_value, hx]
    dsimp only
    rw [aev_func]
    dsimp only
    exact acall_fn hf
  refine WD.step (t := none) (pur := fun _ => true) (oneJob_ok hc) (oneJob_keepG gr) (fun d' e => by cases e; rwa [Nat.blt_eq] at hd) ?_ (fun _ e => by cases e) k
  unfold dstep
  dsimp only
  have e : (Nat.blt d n && allowed none d) = true := by rw [hd]; rfl
  have e2 : Eff.apply wm h .none = some h := rfl
  rw [e, hg.1, hg.2, ha]
  dsimp only [Bool.not_true, cond_false, cond_true]
  rw [e2]
  have e4 : ownAt (false || true || Eff.none.tgt.isSome) wm vs.toArray h = none := rfl
  have e3 : Job.call f vs.toArray (bif false && !true then wm else h.size) h = Job.call f vs.toArray h.size h := rfl
  dsimp only at e3 e4 ⊢
  rw [e4]
  dsimp only
  rw [e3, oneJob_eq]
  dsimp only
  cases hpl : plain v with
  | true => rw [hp hpl]; rfl
  | false => rfl
theorem WD.cf {d : Nat} {f : FuncId} {xs : Array Operand} {ts : Array TypeId} {vs : List Value} {v : Value} (hg : GuardOn ops ⟨some d, .call { callee := .value (.func f), args := xs, argTypes := ts }, ty, p, af, g⟩ fr) (hd : Nat.blt d n = true)
    (hf : (X.fns.get f).isSome = true) (hx : evs (aev fr) xs.toList = some vs) (hc : JobOK X (.call f vs.toArray h.size h) (.fin (.ret v) h)) (k : WD X n wm rd ops sf (m + 1) h l (Tr.set fr d v) Q) :
    WD X n wm rd ops sf m h (⟨some d, .call { callee := .value (.func f), args := xs, argTypes := ts }, ty, p, af, g⟩ :: l) fr Q := WD.call hg hd hf hx (Grow.refl h) hc k (fun _ => rfl)
theorem WD.cwS {α : Type} {e : Rdr α} {r : List α} {wm2 : Nat} {d : Nat} {f : FuncId} {xs : Array Operand} {ts : Array TypeId} {vs : List Value} (hg : GuardOn ops ⟨some d, .call { callee := .value (.func f), args := xs, argTypes := ts }, ty, p, af, g⟩ fr) (hd : Nat.blt d n = true)
    (hf : (X.fns.get f).isSome = true) (hx : evs (aev fr) xs.toList = some vs) (hc : WR X f vs.toArray h.size h (fun v h' => ∃ (ra : Option Addr) (rc : Nat), v = .slice ra r.length rc ∧ Grow h h' ∧ OwnS e wm2 h.size h' ra rc r))
    (k : ∀ v h', (∃ (ra : Option Addr) (rc : Nat), v = .slice ra r.length rc ∧ Grow h h' ∧ OwnS e wm2 h.size h' ra rc r) → WD X n wm rd ops sf (m + 1) h' l (Tr.set fr d v) Q) :
    WD X n wm rd ops sf m h (⟨some d, .call { callee := .value (.func f), args := xs, argTypes := ts }, ty, p, af, g⟩ :: l) fr Q := by
  obtain ⟨e', h2, ⟨v, rfl, ra, rc, rfl, hgr, how⟩, hj⟩ := hc
  obtain ⟨fn, hf⟩ := Option.isSome_iff_exists.1 hf
  have ha : aop X h (aev fr) ⟨some d, .call { callee := .value (.func f), args := xs, argTypes := ts }, ty, p, af, g⟩ = some (.enter f vs.toArray, .none) := by
    rw [aop_value, hx]
    dsimp only
    rw [aev_func]
    dsimp only
    exact acall_fn hf
  have e1 : (Nat.blt d n && allowed none d) = true := by rw [hd]; rfl
  have e2 : Eff.apply wm h .none = some h := rfl
  have e4 : ownAt (false || true || Eff.none.tgt.isSome) wm vs.toArray h = none := rfl
  have e3 : Job.call f vs.toArray (bif false && !true then wm else h.size) h = Job.call f vs.toArray h.size h := rfl
  have key : ∀ h3, (bif plain (.slice ra r.length rc) then h else h2) = h3 → dstep X (fun _ => true) (oneJob (.call f vs.toArray h.size h) (.fin (.ret (.slice ra r.length rc)) h2)) n wm none false ops.toList ⟨some d, .call { callee := .value (.func f), args := xs, argTypes := ts }, ty, p, af, g⟩ fr h = some (none, .slice ra r.length rc, h3) := by
    intro h3 hh3
    unfold dstep
    dsimp only
    rw [e1, hg.1, hg.2, ha]
    dsimp only [Bool.not_true, cond_false, cond_true]
    rw [e2]
    dsimp only at e3 e4 ⊢
    rw [e4]
    dsimp only
    rw [e3, oneJob_eq]
    dsimp only
    rw [← hh3]
    cases plain (.slice ra r.length rc) <;> rfl
  have hdd : ∀ d', (some d : Option Tmp) = some d' → d' < n := fun d' e => by cases e; rwa [Nat.blt_eq] at hd
  cases hp : plain (.slice ra r.length rc) with
  | true =>
    refine WD.step (t := none) (oneJob_ok hj) (oneJob_keepG hgr) hdd (key h (by rw [hp]; rfl)) (fun _ e => by cases e) (k _ h ?_)
    rcases how.mem with ⟨h1, h3, h4⟩ | ⟨i, o, cs, h1, _⟩
    · exact ⟨ra, rc, rfl, Grow.refl h, by rw [h1, h3, h4]; exact OwnS.nil⟩
    · rw [h1] at hp; cases hp
  | false => exact WD.step (t := none) (oneJob_ok hj) (oneJob_keepG hgr) hdd (key h2 (by rw [hp]; rfl)) (fun _ e => by cases e) (k _ h2 ⟨ra, rc, rfl, hgr, how⟩)
theorem WC.drawD (hm : X.P.follows .mixedOrders = true) {id : Nat} {R : XX → Fs → Prop} (hp : (plan ops.toList).isSome = true) (k : WD X n wm rd ops ([], []) 0 h ops.toList fr (fun fr' h' => R .normal ⟨fr', ds, h', none⟩)) : WC X n wm rd (.region id ops true) ⟨fr, ds, h, none⟩ R := by
  obtain ⟨gs, fs, vs, ts, ps, xs, e0, e1, hq, hk⟩ := k
  obtain ⟨incs, hp⟩ := Option.isSome_iff_exists.1 hp
  refine ⟨.normal, _, hq, fun ρ a w F hwm hi hF => ?_⟩
  unfold plan planW at hp
  cases hall : (allIdx edgeOK ops.toList 0 && allIdx (lookOK ops.toList (predsF ops.toList 0 [])) ops.toList 0 && allIdx (dstOK ops.toList) ops.toList 0) <;> rw [hall] at hp <;> simp only [cond_true, cond_false] at hp
  · cases hp
  rw [Bool.and_eq_true, Bool.and_eq_true] at hall
  obtain ⟨⟨hedge, hlook⟩, hdst⟩ := hall
  have hedge := allIdx_spec _ _ hedge
  have hlook := allIdx_spec _ _ hlook
  have hdst := allIdx_spec _ _ hdst
  have hget : ∀ {k : Nat} {o : Oper}, ops[k]? = some o → ops.toList[k]? = some o := fun h => by rwa [Array.getElem?_toList]
  have hspec := (predsF_spec ops.toList 0 [] rfl).2
  have hwk : ∀ k, k ≤ ops.size → wm ≤ (gs k).size := by
    intro k
    induction k with
    | zero => intro _; rw [e0]; exact hwm
    | succ k ih =>
      intro hk'
      have hlt : k < ops.size := by omega
      have ho : ops.toList[k]? = some ops[k] := by simp [hlt]
      obtain ⟨h1, q1, q3⟩ := (hk k _ ho).1
      have q2 := (q3 (ih (by omega))).2.1.size
      rw [mask_size] at q2
      have := ih (by omega)
      rw [q1, unmask_size]; omega
  have hlt : ∀ {k : Nat} {o : Oper}, ops[k]? = some o → k < ops.size := fun h => (Array.getElem?_eq_some_iff.1 h).1
  have hst : ∀ {k : Nat} {o : Oper}, ops[k]? = some o → ∃ h1, gs (k + 1) = unmask (xs k) (gs k) h1 ∧ StepOK X.P wm rd ops o (MOf false wm (ts k)) (fs k) (mask (xs k) (gs k)) (vs k) h1 ∧ KeepM (MOf false wm (ts k)) (mask (xs k) (gs k)) h1 ∧ ∀ x, ts k = some x → wm ≤ x := by
    intro k o ho
    obtain ⟨h1, q1, q3⟩ := (hk _ _ (hget ho)).1
    exact ⟨h1, q1, q3 (hwk _ (Nat.le_of_lt (hlt ho)))⟩
  classical
  let sft : Nat → Option (Nat × Nat) := fun i => match ps i with
    | none => none
    | some (x, j, C) => if i < j ∧ j < ops.size ∧ ts j = some x ∧ C ((gs (j + 1)).at x) then some (x, j) else none
  have sft_spec : ∀ i x j, sft i = some (x, j) → ∃ C, ps i = some (x, j, C) ∧ i < j ∧ j < ops.size ∧ ts j = some x ∧ C ((gs (j + 1)).at x) := by
    intro i x j e
    dsimp only [sft] at e
    cases hp : ps i with
    | none => rw [hp] at e; cases e
    | some q =>
      obtain ⟨y, j', C⟩ := q
      rw [hp] at e
      dsimp only at e
      split at e
      · rename_i hh; cases e; exact ⟨C, rfl, hh⟩
      · cases e
  let D : Data X.P n wm rd ops := {
    hs := gs, fs := fs, vs := vs, ts := ts, Xs := xs, fre := fun _ => false, soft := sft, hl := fun i => hlAt ops.toList i, Pb := fun j k => bit ((predsF ops.toList 0 []).getD j 0) k = true
    size0 := hwk 0 (Nat.zero_le _)
    step := fun k o ho => let ⟨h1, q1, q2, q3, _⟩ := hst ho; ⟨h1, q2, q3, q1, (hk k o (hget ho)).2.1⟩
    wmM := fun k x hkl hx => by
      rw [MOf_f] at hx
      have ho : ops[k]? = some ops[k] := by simp [hkl]
      obtain ⟨_, _, _, _, q⟩ := hst ho
      exact q x hx
    dst := fun k o d ho hd => (hk k o (hget ho)).2.2.1 d hd
    pb_elim := fun j k hb => by
      obtain ⟨o, ho, e, he, hb, hk⟩ := hspec j k (Nat.zero_le _) hb
      exact ⟨o, e, by rw [← Array.getElem?_toList]; simpa using ho, by simpa using he, hb, hk⟩
    edges := fun j o e ho he hb => by
      have := hedge j o (hget ho)
      unfold edgeOK at this
      rw [List.all_eq_true] at this
      have := this e (by simpa using he)
      rw [hb] at this
      simpa [Nat.blt_eq] using this
    inc := fun i j hil hjl hij h1 h2 hhl x hx hxs => by
      rw [MOf_f] at hx
      have hoj : ops[j]? = some ops[j] := by simp [hjl]
      have hoi : ops.toList[i]? = some ops[i] := by simp [hil]
      have := (hk j _ (hget hoj)).2.2.2.2.1 x hx i _ hoi
      rw [Nat.zero_add] at this
      rcases this with q | q | q | ⟨C, c1, c2, c3⟩ | ⟨Y, c1, c2, c3⟩
      · exact absurd q hij
      · rcases comp_pb q with y | y
        · exact absurd y h1
        · exact absurd y h2
      · have : hlAt ops.toList i = true := by unfold hlAt; rw [hoi]; exact q
        rw [this] at hhl; cases hhl
      · rcases c3 with ⟨i', q1, q2, q3⟩ | q
        · rw [Nat.zero_add] at q1
          subst q1
          have hpr := (hk i _ hoi).2.2.2.2.2.1 x j C q3
          left
          refine ⟨hpr.2.2.2.1, .inr ?_⟩
          dsimp only [sft]
          rw [q3]
          dsimp only
          rw [if_pos ⟨c2, hjl, hx, c1⟩]
        · simp at q
      · rcases c3 with ⟨i', q1, q2, q3⟩ | q
        · rw [Nat.zero_add] at q1
          subst q1
          left
          have hne : xs i ≠ [] := fun z => by rw [q3] at z; rw [z] at c1; simp at c1
          have := ((hk i _ hoi).2.2.2.2.2.2 hne).2 x (by rw [q3]; exact c1)
          exact ⟨this, .inl (by rw [q3]; exact c1)⟩
        · simp at q
    hlOK := fun i o ho hh => by
      have hq : heapless o = true := by unfold hlAt at hh; rw [hget ho] at hh; exact hh
      obtain ⟨z1, z2, z3⟩ := (hk i o (hget ho)).2.2.2.1 hq
      refine ⟨fun y hy => ?_, by rw [z2], z3⟩
      rw [MOf_f, z1] at hy; cases hy
    softOK := fun i o x j ho hh => by
      obtain ⟨C, s1, s2, s3, s4, s5⟩ := sft_spec i x j hh
      obtain ⟨z0, z1, z2, z3, z4, z5, z6⟩ := (hk i o (hget ho)).2.2.2.2.2.1 x j C s1
      obtain ⟨w1, w2⟩ := z6 _ s5
      refine ⟨s2, s3, z3, fun y hy => ?_, by rw [z2], z4, w1, by rw [z0]; exact z5, by rw [z0]; exact w2⟩
      rw [MOf_f, z1] at hy; cases hy
    MX := fun i x hil hx _ hm => by
      rw [MOf_f] at hx
      have hoi : ops.toList[i]? = some ops[i] := by simp [hil]
      have hne : xs i ≠ [] := fun z => by rw [z] at hm; simp at hm
      have := ((hk i _ hoi).2.2.2.2.2.2 hne).1
      rw [this] at hx; cases hx
    looks := fun i o t ho ht k o' ho' hd => by
      have := hlook i o (hget ho)
      unfold lookOK at this
      rw [List.all_eq_true] at this
      have := allIdx_spec _ _ (this t ht) k o' (hget ho')
      rw [isT_iff.2 hd] at this
      simp only [cond_true, Bool.or_eq_true, Nat.zero_add] at this
      rcases this with z | z
      · exact .inl (Nat.eq_of_beq_eq_true z)
      · exact .inr (comp_pb z)
    dsts := fun i j o o' t ho ho' hd hd' => by
      have := hdst i o (hget ho)
      unfold dstOK at this
      rw [hd] at this
      have := allIdx_spec _ _ this j o' (hget ho')
      rw [isT_iff.2 hd'] at this
      simp only [cond_true, Nat.zero_add] at this
      exact (Nat.eq_of_beq_eq_true this).symm }
  have hi2 : Inv ρ n { fr := D.fs 0, ds := ds, h := D.hs 0 } a w := ⟨by show Rel ρ (gs 0) w; rw [e0]; exact hi.rel, by show FrR ρ (fs 0) n a.tmps; rw [e1]; exact hi.fr, hi.ds⟩
  have := D.region hm hi2 hF id
  have hlen : ops.toList.length = ops.size := by simp
  rw [hlen]
  refine wpIn_mono this fun e' a' w' ⟨ρ', q1, q2, q3⟩ => ⟨ρ', q1, ⟨q2.rel, q2.fr, q2.ds⟩, ?_⟩
  have e0' : D.hs 0 = h := e0
  rw [e0'] at q3
  exact q3
theorem WD.boxN {d : Nat} {x : Operand} {t : TypeId} {v : Value} {vs : List Value} (lo : Nat) (hg : GuardOn ops ⟨some d, .box t x, ty, p, af, g⟩ fr) (hd : Nat.blt d n = true) (hx : aev fr x = some v) (hv : v.cells.toList = vs)
    (k : ∀ h', Up lo (fun _ => False) h h' → h'.at h.size = .row vs true 0 → WD X n wm rd ops sf (m + 1) h' l (Tr.set fr d (.pointer (some ⟨h.size, 0, none⟩))) Q) : WD X n wm rd ops sf m h (⟨some d, .box t x, ty, p, af, g⟩ :: l) fr Q := by
  subst hv
  exact WD.sv (tg := false) hg hd ⟨.new (.row v.cells.toList true 0), by rw [aop_box, hx]; rfl, rfl, fun _ => rfl⟩ (.inl rfl) (k _ (Up.push lo h _) (at_push_new h _))
theorem WD.alcN {d : Nat} {t : TypeId} {v : Value} {vs : List Value} (lo : Nat) (hg : GuardOn ops ⟨some d, .alloc t, ty, p, af, g⟩ fr) (hd : Nat.blt d n = true) (hz : zeroP X.P t = some v) (hv : v.cells.toList = vs)
    (k : ∀ h', Up lo (fun _ => False) h h' → h'.at h.size = .row vs true 0 → WD X n wm rd ops sf (m + 1) h' l (Tr.set fr d (.pointer (some ⟨h.size, 0, none⟩))) Q) : WD X n wm rd ops sf m h (⟨some d, .alloc t, ty, p, af, g⟩ :: l) fr Q := by
  subst hv
  exact WD.sv (tg := false) hg hd ⟨.new (.row v.cells.toList true 0), by rw [aop_alloc, hz]; rfl, rfl, fun _ => rfl⟩ (.inl rfl) (k _ (Up.push lo h _) (at_push_new h _))
theorem st_ex {x y : Operand} {t : TypeId} {b o z sz : Nat} {cs cs' vs : List Value} {v : Value} {d : Option Tmp} (hs : sizeP X.P t = some sz) (hx : aev fr x = some (.pointer (some ⟨b, o, none⟩))) (hy : aev fr y = some v)
    (hr : h.at b = .row cs true z) (hb : wm ≤ b) (hvs : v.cells.toList = vs) (hn : vs.length = sz) (hl : o + sz ≤ cs.length) (hc : vs.all Value.oneCell' = true) (hv : splice cs o vs = cs') :
    aop X h (aev fr) ⟨d, .store t x y, ty, p, af, g⟩ = some (.skip, .upd b (.row cs' true z)) ∧ (Eff.upd b (.row cs' true z)).apply wm h = some (h.put b (.row cs' true z)) := by
  subst hvs
  refine ⟨?_, ?_⟩
  · rw [aop_store, hx, hy]
    dsimp only
    have : astore X.P h t (.pointer (some ⟨b, o, none⟩)) v = some (.upd b (.row cs' true z)) := by
      unfold astore
      rw [hs]
      dsimp only
      rw [hr]
      dsimp only
      have h1 : Nat.beq v.cells.toList.length sz = true := by rw [hn]; exact Nat.beq_refl sz
      have h2 : Nat.ble (o + sz) cs.length = true := Nat.ble_eq_true_of_le hl
      rw [h1, h2, hc, hv]; rfl
    rw [this]; rfl
  · show (bif Nat.ble wm b && (h.at b).own then some (h.put b (.row cs' true z)) else none) = _
    rw [hr]
    have : Nat.ble wm b = true := Nat.ble_eq_true_of_le hb
    rw [this]; rfl
theorem st_su {x y : Operand} {t : TypeId} {b o z sz : Nat} {cs cs' vs : List Value} {v : Value} {d : Option Tmp} (hs : sizeP X.P t = some sz) (hx : aev fr x = some (.pointer (some ⟨b, o, none⟩))) (hy : aev fr y = some v)
    (hr : h.at b = .row cs true z) (hb : wm ≤ b) (hvs : v.cells.toList = vs) (hn : vs.length = sz) (hl : o + sz ≤ cs.length) (hc : vs.all Value.oneCell' = true) (hv : splice cs o vs = cs') :
    SU X wm ⟨d, .store t x y, ty, p, af, g⟩ fr h (h.put b (.row cs' true z)) true :=
  let e := st_ex hs hx hy hr hb hvs hn hl hc hv
  ⟨_, e.1, e.2, fun q => by cases q⟩
theorem WD.stN {x y : Operand} {t : TypeId} {b o z sz : Nat} {cs cs' vs : List Value} {v : Value} (lo : Nat) (hg : GuardOn ops ⟨none, .store t x y, ty, p, af, g⟩ fr) (hs : sizeP X.P t = some sz) (hx : aev fr x = some (.pointer (some ⟨b, o, none⟩))) (hy : aev fr y = some v)
    (hr : h.at b = .row cs true z) (hb : lo ≤ b) (hw : wm ≤ lo) (hvs : v.cells.toList = vs) (hn : Nat.beq vs.length sz = true) (hl : Nat.ble (o + sz) cs.length = true) (hc : vs.all Value.oneCell' = true) (hv : splice cs o vs = cs')
    (k : ∀ h', Up lo (fun i => i = b) h h' → h'.at b = .row cs' true z → WD X n wm rd ops sf (m + 1) h' l fr Q) (hcm : cmpAll ops.toList m = true) : WD X n wm rd ops sf m h (⟨none, .store t x y, ty, p, af, g⟩ :: l) fr Q :=
  WD.su hg (st_su hs hx hy hr (Nat.le_trans hw hb) hvs (Nat.eq_of_beq_eq_true hn) (Nat.le_of_ble_eq_true hl) hc hv) (.inr fun _ => Oth.all hcm) (k _ (Up.put hb (by rw [hr]; rfl)) (at_put_same (live_lt hr rfl) _))
theorem av_bld {d : Option Tmp} {t : TypeId} {ps : Array (Nat × Operand)} {zs cs' : List Value} {pl : List (Nat × Nat)} {pvs : List (Nat × Value)} {ev : Operand → Option Value} (hb : BuildAt X.P t zs pl) (hp : evp ev ps.toList = some pvs) (ho : fillOK (fun i => pl[i]?) zs.length pvs = true) (hv : fillR (fun i => (pl.getD i (0, 0)).1) zs pvs = cs') :
    aop X h ev ⟨d, .build t ps, ty, p, af, g⟩ = some (.val (.agg cs'.toArray), .none) := by
  subst hv
  obtain ⟨z, fs, h1, rfl, h3, h4⟩ := hb
  show (match evp ev ps.toList with | some ps => vN (abuild X.P t ps) | none => none) = _
  rw [hp]
  dsimp only
  unfold abuild
  rw [h1, h3]
  dsimp only
  rw [h4]
  dsimp only
  rw [afill_eq (off := fun i => (pl.getD i (0, 0)).1) (fun i p e => by rw [List.getD_eq_getElem?_getD, e]; rfl) _ _ ho]
  rfl
theorem av_bldA {d : Option Tmp} {t : TypeId} {ps : Array (Nat × Operand)} {zs cs' : List Value} {mm : Nat} {pvs : List (Nat × Value)} {ev : Operand → Option Value} (hb : BuildAr X.P t zs mm) (hp : evp ev ps.toList = some pvs) (ho : fillOK (fun i => some (i * mm, mm)) zs.length pvs = true) (hv : fillR (fun i => i * mm) zs pvs = cs') :
    aop X h ev ⟨d, .build t ps, ty, p, af, g⟩ = some (.val (.agg cs'.toArray), .none) := by
  subst hv
  obtain ⟨z, c, e, h1, rfl, h3, h4⟩ := hb
  show (match evp ev ps.toList with | some ps => vN (abuild X.P t ps) | none => none) = _
  rw [hp]
  dsimp only
  unfold abuild
  rw [h1, h3]
  dsimp only
  rw [h4]
  dsimp only
  rw [afill_eq (off := fun i => i * mm) (fun i p e => by cases e; rfl) _ _ ho]
  rfl
theorem WD.bld {d : Nat} {t : TypeId} {ps : Array (Nat × Operand)} {zs cs' : List Value} {pl : List (Nat × Nat)} {pvs : List (Nat × Value)} (hg : GuardOn ops ⟨some d, .build t ps, ty, p, af, g⟩ fr) (hd : Nat.blt d n = true) (hb : BuildAt X.P t zs pl) (hp : evp (aev fr) ps.toList = some pvs) (ho : fillOK (fun i => pl[i]?) zs.length pvs = true) (hv : fillR (fun i => (pl.getD i (0, 0)).1) zs pvs = cs')
    (k : WD X n wm rd ops sf (m + 1) h l (Tr.set fr d (.agg cs'.toArray)) Q) : WD X n wm rd ops sf m h (⟨some d, .build t ps, ty, p, af, g⟩ :: l) fr Q := WD.v hg hd (av_bld hb hp ho hv) k
theorem WD.bldA {d : Nat} {t : TypeId} {ps : Array (Nat × Operand)} {zs cs' : List Value} {mm : Nat} {pvs : List (Nat × Value)} (hg : GuardOn ops ⟨some d, .build t ps, ty, p, af, g⟩ fr) (hd : Nat.blt d n = true) (hb : BuildAr X.P t zs mm) (hp : evp (aev fr) ps.toList = some pvs) (ho : fillOK (fun i => some (i * mm, mm)) zs.length pvs = true) (hv : fillR (fun i => i * mm) zs pvs = cs')
    (k : WD X n wm rd ops sf (m + 1) h l (Tr.set fr d (.agg cs'.toArray)) Q) : WD X n wm rd ops sf m h (⟨some d, .build t ps, ty, p, af, g⟩ :: l) fr Q := WD.v hg hd (av_bldA hb hp ho hv) k
section
variable {α : Type} {e : Rdr α}
theorem WD.bsN {d : Nat} {t el : TypeId} {mm : Nat} {ps : Array (Nat × Operand)} {pvs : List (Nat × Value)} {z : Value} {zs : List Value} {xs : List α} (lo : Nat) (hg : GuardOn ops ⟨some d, .buildSlice t mm ps, ty, p, af, g⟩ fr) (hd : Nat.blt d n = true)
    (hu : X.P.underlying t = some (.slice el)) (hs : sizeP X.P el = some e.sz) (hz : zeroP X.P el = some z) (hzs : z.cells.toList = zs) (hzl : zs.length = e.sz) (hm : Nat.ble (mm * e.sz) 10000 = true) (hp : evp (aev fr) ps.toList = some pvs)
    (ho : fillOK (fun i => some (i * e.sz, e.sz)) (zrep zs mm).length pvs = true) (qs : List (e.Par × α)) (hv : fillR (fun i => i * e.sz) (zrep zs mm) pvs = qs.flatMap fun q => e.sh q.1 q.2) (hq : qs.map (·.2) = xs) (hF : ∀ q ∈ qs, e.F wm h q.1 q.2) (hw : wm ≤ lo) (hlo : lo ≤ h.size) (hlen : Nat.beq mm xs.length = true)
    (k : ∀ h', Up lo (fun _ => False) h h' → OwnS e wm lo h' (some ⟨h.size, 0, none⟩) (2 * mm) xs → WD X n wm rd ops sf (m + 1) h' l (Tr.set fr d (.slice (some ⟨h.size, 0, none⟩) xs.length (2 * mm))) Q) : WD X n wm rd ops sf m h (⟨some d, .buildSlice t mm ps, ty, p, af, g⟩ :: l) fr Q :=
  bs_gen (J := fun v h1 => WD X n wm rd ops sf (m + 1) h1 l (Tr.set fr d v) Q) lo (fun _ _ _ ha hE ht j => WD.sv (tg := false) hg hd ⟨_, ha, hE, fun _ => ht⟩ (.inl rfl) j) hu hs hz hzs hzl hm hp ho qs hv hq hF hw hlo hlen k
theorem WD.apN {d : Nat} {ts : Array TypeId} {x y : Operand} {by_ : Nat} {a a2 : Option Addr} {c c2 : Nat} {xs ys zs : List α} (lo : Nat) (hg : GuardOn ops ⟨some d, .call { callee := .builtin .append, args := #[x, y], argTypes := ts }, ty, p, af, g⟩ fr) (hd : Nat.blt d n = true)
    (hi : AppAt X.P ts e.sz by_) (hw : wm ≤ lo) (hlo : lo ≤ h.size) (hx : aev fr x = some (.slice a xs.length c)) (hy : aev fr y = some (.slice a2 ys.length c2)) (so : OwnS e wm lo h a c xs) (sr : Src e wm h a2 c2 ys) (ha : app by_ xs ys = some zs)
    (k : ∀ a' c' h', Up lo (BaseA a) h h' → OwnS e wm lo h' a' c' zs → (∀ i, BaseA a' i → BaseA a i ∨ i = h.size) → WD X n wm rd ops sf (m + 1) h' l (Tr.set fr d (.slice a' zs.length c')) Q) (hcm : cmpAll ops.toList m = true) :
    WD X n wm rd ops sf m h (⟨some d, .call { callee := .builtin .append, args := #[x, y], argTypes := ts }, ty, p, af, g⟩ :: l) fr Q :=
  ap_gen (J := fun v h1 => WD X n wm rd ops sf (m + 1) h1 l (Tr.set fr d v) Q) lo (fun _ _ _ ha hE j => WD.sv (tg := true) hg hd ⟨_, ha, hE, fun q => by cases q⟩ (.inr fun _ => Oth.all hcm) j) hi hw hlo hx hy so sr ha k
end
theorem WD.mv {d : Nat} {x : Operand} {v : Value} (hg : GuardOn ops ⟨some d, .move x, ty, p, af, g⟩ fr) (hd : Nat.blt d n = true) (hx : aev fr x = some v)
    (k : WD X n wm rd ops sf (m + 1) h l (Tr.set fr d (v)) Q) : WD X n wm rd ops sf m h (⟨some d, .move x, ty, p, af, g⟩ :: l) fr Q := WD.v hg hd (av_move hx) k
theorem WD.as {d : Nat} {x : Operand} {v : Value} (hg : GuardOn ops ⟨some d, .assign x, ty, p, af, g⟩ fr) (hd : Nat.blt d n = true) (hx : aev fr x = some v)
    (k : WD X n wm rd ops sf (m + 1) h l (Tr.set fr d (v)) Q) : WD X n wm rd ops sf m h (⟨some d, .assign x, ty, p, af, g⟩ :: l) fr Q := WD.v hg hd (av_assign hx) k
theorem WD.fld {d : Nat} {x : Operand} {t : TypeId} {f off b o : Nat} (hg : GuardOn ops ⟨some d, .fieldAddr t x f, ty, p, af, g⟩ fr) (hd : Nat.blt d n = true) (hf : FieldAt X.P t f off) (hx : aev fr x = some (.pointer (some ⟨b, o, none⟩)))
    (k : WD X n wm rd ops sf (m + 1) h l (Tr.set fr d (.pointer (some ⟨b, o + off, none⟩))) Q) : WD X n wm rd ops sf m h (⟨some d, .fieldAddr t x f, ty, p, af, g⟩ :: l) fr Q := WD.v hg hd (av_fld hf hx) k
theorem WD.nck {d : Nat} {x : Operand} {a : Addr} (hg : GuardOn ops ⟨some d, .nilCheck x, ty, p, af, g⟩ fr) (hd : Nat.blt d n = true) (hx : aev fr x = some (.pointer (some a)))
    (k : WD X n wm rd ops sf (m + 1) h l (Tr.set fr d (.pointer (some a))) Q) : WD X n wm rd ops sf m h (⟨some d, .nilCheck x, ty, p, af, g⟩ :: l) fr Q := WD.v hg hd (av_nck hx) k
theorem WD.ld {d : Nat} {x : Operand} {t : TypeId} {b o oo j : Nat} {vs : List Value} {v : Value} (hg : GuardOn ops ⟨some d, .load t x, ty, p, af, g⟩ fr) (hd : Nat.blt d n = true) (ht : isAggP X.P t = some false) (hx : aev fr x = some (.pointer (some ⟨b, oo, none⟩))) (ha : At h b o vs) (ho : oo = o + j) (hv : vs[j]? = some v)
    (k : WD X n wm rd ops sf (m + 1) h l (Tr.set fr d (v)) Q) : WD X n wm rd ops sf m h (⟨some d, .load t x, ty, p, af, g⟩ :: l) fr Q := WD.v hg hd (av_ld ht hx ha ho hv) k
theorem WD.ldA {d : Nat} {x : Operand} {t : TypeId} {b o oo j sz : Nat} {vs ws : List Value} (hg : GuardOn ops ⟨some d, .load t x, ty, p, af, g⟩ fr) (hd : Nat.blt d n = true) (ht : isAggP X.P t = some true) (hs : sizeP X.P t = some sz) (hx : aev fr x = some (.pointer (some ⟨b, oo, none⟩))) (ha : At h b o vs) (ho : oo = o + j) (hj : Nat.ble (j + sz) vs.length = true) (hv : (vs.drop j).take sz = ws)
    (k : WD X n wm rd ops sf (m + 1) h l (Tr.set fr d (.agg ws.toArray)) Q) : WD X n wm rd ops sf m h (⟨some d, .load t x, ty, p, af, g⟩ :: l) fr Q := WD.v hg hd (av_ldA ht hs hx ha ho hj hv) k
theorem WD.len {d : Nat} {x : Operand} {t e' : TypeId} {a : Option Addr} {mm cc : Nat} (hg : GuardOn ops ⟨some d, .call { callee := .builtin .len, args := #[x], argTypes := #[t] }, ty, p, af, g⟩ fr) (hd : Nat.blt d n = true) (hu : X.P.underlying t = some (.slice e')) (hx : aev fr x = some (.slice a mm cc))
    (k : WD X n wm rd ops sf (m + 1) h l (Tr.set fr d (.int .i64 mm)) Q) : WD X n wm rd ops sf m h (⟨some d, .call { callee := .builtin .len, args := #[x], argTypes := #[t] }, ty, p, af, g⟩ :: l) fr Q := WD.v hg hd (av_len hu hx) k
theorem WD.bin {d : Nat} {bo : BinOp} {x y : Operand} {t yt : TypeId} {a b v : Value} (hg : GuardOn ops ⟨some d, .binOp bo t x y yt, ty, p, af, g⟩ fr) (hd : Nat.blt d n = true) (hx : aev fr x = some a) (hy : aev fr y = some b) (hv : abin X.P bo t x y a b = some (.val v, .none))
    (k : WD X n wm rd ops sf (m + 1) h l (Tr.set fr d (v)) Q) : WD X n wm rd ops sf m h (⟨some d, .binOp bo t x y yt, ty, p, af, g⟩ :: l) fr Q := WD.v hg hd (av_bin hx hy hv) k
theorem At.mask {h : H} {b o : Nat} {vs : List Value} {Y : List Nat} (a : At h b o vs) (hb : ∀ y ∈ Y, b ≠ y) : At (mask Y h) b o vs := by
  obtain ⟨cs, own, z, h1, h2⟩ := a
  refine ⟨cs, own, z, ?_, h2⟩
  rw [mask_at, if_neg (fun hm => hb _ hm rfl)]
  exact h1
theorem Up.hid (lo : Nat) (Y : List Nat) (h : H) : Up lo (fun _ => False) h (unmask Y h (mask Y h)) :=
  ⟨by rw [unmask_size, mask_size]; exact Nat.le_refl _, fun i hi _ => by
    rw [unmask_at _ _ _ (by rw [mask_size]; exact Nat.le_refl _), mask_at]
    by_cases hy : i ∈ Y
    · rw [if_pos ⟨hy, hi⟩]
    · rw [if_neg (fun q => hy q.1), if_neg hy], fun _ e => e.elim⟩
theorem WD.vX {d : Nat} {op : Op} {v : Value} (Y : List Nat) (lo : Nat) (hg : GuardOn ops ⟨some d, op, ty, p, af, g⟩ fr) (hd : Nat.blt d n = true) (hY : ∀ x ∈ Y, x < h.size) (hh : heapless ⟨some d, op, ty, p, af, g⟩ = false) (ha : aop X (mask Y h) (aev fr) ⟨some d, op, ty, p, af, g⟩ = some (.val v, .none))
    (k : ∀ h', Up lo (fun _ => False) h h' → WD X n wm rd ops (sf.1, (m, Y) :: sf.2) (m + 1) h' l (Tr.set fr d v) Q) : WD X n wm rd ops sf m h (⟨some d, op, ty, p, af, g⟩ :: l) fr Q := by
  have hds : dstep X (fun _ => true) (fun _ => none) n wm none false ops.toList ⟨some d, op, ty, p, af, g⟩ fr (mask Y h) = some (none, v, mask Y h) := by
    unfold dstep
    dsimp only
    have e : (Nat.blt d n && allowed none d) = true := by rw [hd]; rfl
    rw [e, hg.1, hg.2, ha]
    rfl
  refine WD.consX (t := none) none Y rfl (fun hw => ?_) (fun d' e => by cases e; rwa [Nat.blt_eq] at hd) (fun q => by rw [hh] at q; cases q) (fun _ e => by cases e) (fun x j C e => by cases e) (fun _ => ⟨rfl, hY⟩) (k _ (Up.hid lo Y h))
  exact ⟨dstep_real (none_ok X) none_keep hds, (dstep_keep none_keep hds (by rw [mask_size]; exact hw)).1, fun x e => by cases e⟩
theorem WD.ldX {d : Nat} {x : Operand} {t : TypeId} {b o oo j : Nat} {vs : List Value} {v : Value} (Y : List Nat) (lo : Nat) (hY : ∀ y ∈ Y, y < h.size ∧ b ≠ y) (hg : GuardOn ops ⟨some d, .load t x, ty, p, af, g⟩ fr) (hd : Nat.blt d n = true) (ht : isAggP X.P t = some false) (hx : aev fr x = some (.pointer (some ⟨b, oo, none⟩))) (ha : At h b o vs) (ho : oo = o + j) (hv : vs[j]? = some v)
    (k : ∀ h', Up lo (fun _ => False) h h' → WD X n wm rd ops (sf.1, (m, Y) :: sf.2) (m + 1) h' l (Tr.set fr d v) Q) : WD X n wm rd ops sf m h (⟨some d, .load t x, ty, p, af, g⟩ :: l) fr Q := WD.vX Y lo hg hd (fun x hx => (hY x hx).1) rfl (av_ld ht hx (ha.mask fun y hy => (hY y hy).2) ho hv) k
theorem WD.stX {x y : Operand} {t : TypeId} {b o z sz : Nat} {cs cs' vs : List Value} {v : Value} (lo : Nat) (is : List Nat) (hg : GuardOn ops ⟨none, .store t x y, ty, p, af, g⟩ fr) (hs : sizeP X.P t = some sz) (hx : aev fr x = some (.pointer (some ⟨b, o, none⟩))) (hy : aev fr y = some v)
    (hr : h.at b = .row cs true z) (hb : lo ≤ b) (hw : wm ≤ lo) (hvs : v.cells.toList = vs) (hn : Nat.beq vs.length sz = true) (hl : Nat.ble (o + sz) cs.length = true) (hc : vs.all Value.oneCell' = true) (hv : splice cs o vs = cs')
    (k : ∀ h', Up lo (fun i => i = b) h h' → h'.at b = .row cs' true z → WD X n wm rd ops sf (m + 1) h' l fr Q) (hcm : cmpHid ops.toList m is = true) (hi : ∀ i ∈ is, ∃ X, (i, X) ∈ sf.2 ∧ b ∈ X ∧ i < m) : WD X n wm rd ops sf m h (⟨none, .store t x y, ty, p, af, g⟩ :: l) fr Q := by
  obtain ⟨e1, e2⟩ := st_ex (ty := ty) (p := p) (af := af) (g := g) (d := none) hs hx hy hr (Nat.le_trans hw hb) hvs (Nat.eq_of_beq_eq_true hn) (Nat.le_of_ble_eq_true hl) hc hv
  refine WD.step (v := undef) (pur := fun _ => true) (t := some b) (none_ok X) none_keep (fun d' e => by cases e) ?_ (fun x hx => by cases hx; exact Oth.hid is hcm hi) (k _ (Up.put hb (by rw [hr]; rfl)) (at_put_same (live_lt hr rfl) _))
  unfold dstep
  dsimp only
  rw [hg.1, hg.2, e1]
  dsimp only [Bool.not_true, cond_false, cond_true]
  rw [e2]; rfl
end Go.Abs
end
end
section
noncomputable section
namespace Go.Abs
open Go.Lf
variable {X : Ctx} {P : Program} {κ ν : Type} [DecidableEq κ]
structure KeyT (P : Program) (kt : TypeId) (kv : κ → Value) : Prop where
  pl : ∀ x, plain (kv x) = true
  ok : ∀ e x, okKey P e kt (kv x) = true
  same : ∀ x, Instr.sameBits 10000 (kv x) (kv x) = true
  eq : ∀ x y, pureRun P (Op.equal kt (kv x) (kv y)) = some (.ok (decide (x = y)))
  kind : ∃ u, P.underlying kt = some u ∧ ((∀ x y, Instr.sameNow u (kv x) (kv y) = none) ∨ ∀ x y, Instr.sameNow u (kv x) (kv y) = some (decide (x = y)))
def mkEs (kv : κ → Value) (vv : ν → Value) (l : List (κ × ν)) (bs : List Nat) : List MapEntry := List.zipWith (fun p b => ⟨kv p.1, vv p.2, b⟩) l bs
variable {kt : TypeId} {kv : κ → Value} {vv : ν → Value}
theorem find_asking (K : KeyT P kt kv) (k : κ) : ∀ (l : List (κ × ν)) (bs : List Nat) (i : Nat), bs.length = l.length → pureRun P (Instr.findAsking kt (kv k) (mkEs kv vv l bs) i) = some (.ok ((mfind l k).map fun q => (i + q.1, vv q.2))) := by
  intro l
  induction l with
  | nil => intro bs i _; rfl
  | cons p l ih =>
    intro bs i hb
    cases bs with
    | nil => cases hb
    | cons b bs =>
      show pureRun P (do if ← Op.equal kt (kv k) (kv p.1) then pure (some (i, vv p.2)) else Instr.findAsking kt (kv k) (mkEs kv vv l bs) (i + 1)) = _
      rw [prb (K.eq k p.1)]
      unfold mfind
      by_cases e : p.1 = k
      · rw [if_pos e, decide_eq_true e.symm]; rfl
      · rw [if_neg e, decide_eq_false (fun z => e z.symm)]
        show pureRun P (Instr.findAsking kt (kv k) (mkEs kv vv l bs) (i + 1)) = _
        rw [ih bs (i + 1) (by simpa using hb)]
        cases mfind l k with
        | none => rfl
        | some q => simp [Nat.add_assoc, Nat.add_comm 1]
theorem find_now {u : TypeDesc} (hs : ∀ x y, Instr.sameNow u (kv x) (kv y) = some (decide (x = y))) (k : κ) : ∀ (l : List (κ × ν)) (bs : List Nat) (i : Nat), bs.length = l.length → Instr.findNow u (kv k) (mkEs kv vv l bs) i = some ((mfind l k).map fun q => (i + q.1, vv q.2)) := by
  intro l
  induction l with
  | nil => intro bs i _; rfl
  | cons p l ih =>
    intro bs i hb
    cases bs with
    | nil => cases hb
    | cons b bs =>
      show (match Instr.sameNow u (kv k) (kv p.1) with | some true => some (some (i, vv p.2)) | some false => Instr.findNow u (kv k) (mkEs kv vv l bs) (i + 1) | none => none) = _
      rw [hs]
      unfold mfind
      by_cases e : p.1 = k
      · rw [if_pos e, decide_eq_true e.symm]; rfl
      · rw [if_neg e, decide_eq_false (fun z => e z.symm)]
        show Instr.findNow u (kv k) (mkEs kv vv l bs) (i + 1) = _
        rw [ih bs (i + 1) (by simpa using hb)]
        cases mfind l k with
        | none => rfl
        | some q => simp [Nat.add_assoc, Nat.add_comm 1]
theorem afind_mk (K : KeyT P kt kv) (k : κ) (l : List (κ × ν)) (bs : List Nat) (hb : bs.length = l.length) : afind P kt (kv k) (mkEs kv vv l bs) = some ((mfind l k).map fun q => (q.1, vv q.2)) := by
  obtain ⟨u, hu, hk⟩ := K.kind
  unfold afind Instr.findKey
  rw [prb (pr_underlying hu)]
  rcases hk with hk | hk
  · cases l with
    | nil => cases bs with
      | nil => rfl
      | cons => cases hb
    | cons p l =>
      cases bs with
      | nil => cases hb
      | cons b bs =>
        have : Instr.findNow u (kv k) (mkEs kv vv (p :: l) (b :: bs)) 0 = none := by
          show (match Instr.sameNow u (kv k) (kv p.1) with | some true => some (some (0, vv p.2)) | some false => Instr.findNow u (kv k) (mkEs kv vv l bs) (0 + 1) | none => none) = _
          rw [hk]
        rw [this]
        dsimp only
        rw [find_asking K k (p :: l) (b :: bs) 0 hb]
        simp
  · rw [find_now hk k l bs 0 hb]
    simp only [Nat.zero_add]; rfl
omit [DecidableEq κ] in
theorem mkEs_append {l l2 : List (κ × ν)} {bs b2 : List Nat} (hb : bs.length = l.length) : mkEs kv vv (l ++ l2) (bs ++ b2) = mkEs kv vv l bs ++ mkEs kv vv l2 b2 := by
  unfold mkEs
  rw [List.zipWith_append hb.symm]
omit [DecidableEq κ] in
theorem mkEs_get {l : List (κ × ν)} {bs : List Nat} {j : Nat} {p : κ × ν} {b : Nat} (h1 : l[j]? = some p) (h2 : bs[j]? = some b) : (mkEs kv vv l bs)[j]? = some ⟨kv p.1, vv p.2, b⟩ := by
  unfold mkEs; rw [List.getElem?_zipWith, h1, h2]
omit [DecidableEq κ] in
theorem mkEs_modify {l : List (κ × ν)} {bs : List Nat} (f : MapEntry → MapEntry) (g : κ × ν → κ × ν) (hfg : ∀ p b, f ⟨kv p.1, vv p.2, b⟩ = ⟨kv (g p).1, vv (g p).2, b⟩) (j : Nat) : (mkEs kv vv l bs).modify j f = mkEs kv vv (l.modify j g) bs := by
  induction l generalizing bs j with
  | nil => simp [mkEs]
  | cons p l ih =>
    cases bs with
    | nil => simp [mkEs]
    | cons b bs =>
      cases j with
      | zero => simp only [mkEs, List.zipWith_cons_cons, List.modify_zero_cons, hfg]
      | succ j => simp only [mkEs, List.zipWith_cons_cons, List.modify_succ_cons]; congr 1; exact ih j
structure MapAt (kv : κ → Value) (vv : ν → Value) (h : H) (m : Option Nat) (l : List (κ × ν)) : Prop where
  mem : (m = none ∧ l = []) ∨ ∃ i bs clk, m = some i ∧ h.at i = .map (mkEs kv vv l bs) clk ∧ bs.length = l.length ∧ bs.Nodup ∧ ∀ b ∈ bs, b < clk
structure MapS (kv : κ → Value) (vv : ν → Value) (wm : Nat) (h : H) (m : Option Nat) (l : List (κ × ν)) : Prop where
  at_ : MapAt kv vv h m l
  low : ∀ i, m = some i → i < wm
structure MapO (kv : κ → Value) (vv : ν → Value) (lo : Nat) (h : H) (m : Option Nat) (l : List (κ × ν)) : Prop where
  at_ : MapAt kv vv h m l
  low : ∀ i, m = some i → lo ≤ i
structure MapE (kv : κ → Value) (vv : ν → Value) (lo : Nat) (h : H) (m : Option Nat) (l : List (κ × ν)) (k : κ) (b : Nat) : Prop where
  mem : ∃ i bs clk q, m = some i ∧ lo ≤ i ∧ h.at i = .map (mkEs kv vv l bs) clk ∧ bs.length = l.length ∧ bs.Nodup ∧ (∀ b ∈ bs, b < clk) ∧ mfind l k = some q ∧ bs[q.1]? = some b
variable {wm lo : Nat} {h h' : H} {m : Option Nat} {l : List (κ × ν)}
theorem map_lt {i : Nat} {es : List MapEntry} {c : Nat} (e : h.at i = .map es c) : i < h.size := live_lt e rfl
omit [DecidableEq κ] in
theorem MapAt.lt (s : MapAt kv vv h m l) {i : Nat} (e : m = some i) : i < h.size := by
  rcases s.mem with ⟨q, _⟩ | ⟨j, bs, clk, q, h1, _⟩
  · rw [q] at e; cases e
  · rw [q] at e; cases e; exact map_lt h1
omit [DecidableEq κ] in
theorem MapAt.keep (s : MapAt kv vv h m l) (k : ∀ i, m = some i → h'.at i = h.at i) : MapAt kv vv h' m l :=
  ⟨s.mem.imp id fun ⟨i, bs, clk, q, h1, h2⟩ => ⟨i, bs, clk, q, by rw [k i q]; exact h1, h2⟩⟩
omit [DecidableEq κ] in
theorem MapS.fz (s : MapS kv vv wm h m l) (f : Fz wm h h') : MapS kv vv wm h' m l := ⟨s.at_.keep fun i e => f.low i (s.low i e) (s.at_.lt e), s.low⟩
omit [DecidableEq κ] in
theorem MapO.step {t : Nat → Prop} {lo' : Nat} (u : Up lo' t h h') (hn : ∀ i, m = some i → ¬ t i) (s : MapO kv vv lo h m l) : MapO kv vv lo h' m l := ⟨s.at_.keep fun i e => u.keep i (s.at_.lt e) (hn i e), s.low⟩
omit [DecidableEq κ] in
theorem MapAt.all (s : MapAt kv vv h m l) : MapS kv vv h.size h m l := ⟨s, fun _ e => s.lt e⟩
omit [DecidableEq κ] in
theorem MapS.up {wm' : Nat} (hw : wm ≤ wm') (s : MapS kv vv wm h m l) : MapS kv vv wm' h m l := ⟨s.at_, fun i e => Nat.lt_of_lt_of_le (s.low i e) hw⟩
omit [DecidableEq κ] in
theorem MapO.lower {lo' : Nat} (hl : lo' ≤ lo) (s : MapO kv vv lo h m l) : MapO kv vv lo' h m l := ⟨s.at_, fun i e => Nat.le_trans hl (s.low i e)⟩
omit [DecidableEq κ] in
theorem MapS.nil : MapS kv vv wm h none ([] : List (κ × ν)) := ⟨⟨.inl ⟨rfl, rfl⟩⟩, fun i e => by cases e⟩
omit [DecidableEq κ] in
theorem MapO.nil : MapO kv vv lo h none ([] : List (κ × ν)) := ⟨⟨.inl ⟨rfl, rfl⟩⟩, fun i e => by cases e⟩
omit [DecidableEq κ] in
theorem MapO.notBox {b : Nat} {cs : List Value} {own : Bool} {z : Nat} (s : MapAt kv vv h m l) (hb : h.at b = .row cs own z) : ¬ m = some b := fun e => by
  rcases s.mem with ⟨q, _⟩ | ⟨j, bs, clk, q, h1, _⟩
  · rw [q] at e; cases e
  · rw [q] at e; cases e; rw [hb] at h1; cases h1
omit [DecidableEq κ] in
theorem MapO.notRow {α : Type} {e : Rdr α} {wm2 lo2 : Nat} {a : Option Addr} {c : Nat} {xs : List α} (s : MapAt kv vv h m l) (so : OwnS e wm2 lo2 h a c xs) : ∀ i, BaseA a i → ¬ m = some i := fun i hb => by
  obtain ⟨o, h1⟩ := hb
  rcases so.mem with ⟨h2, _⟩ | ⟨j, o', cs, h2, _, h3, _⟩
  · rw [h1] at h2; cases h2
  · rw [h1] at h2; cases h2; exact MapO.notBox s h3
section
variable {ops : Array Oper} {ol : List Oper} {fr : Fr} {ds : List Deferred} {ty : TypeId} {p : String} {af : Array Edge} {g : Option (Nat × Bool)} {d : Option Tmp} {vt : TypeId} {ev : Operand → Option Value}
omit [DecidableEq κ] in
theorem amap_of (s : MapAt kv vv h m l) : ∃ bs c, amap h (.map m) = some (mkEs kv vv l bs, c) ∧ bs.length = l.length := by
  rcases s.mem with ⟨rfl, rfl⟩ | ⟨i, bs, clk, rfl, h1, h2, _⟩
  · exact ⟨[], 0, rfl, rfl⟩
  · refine ⟨bs, clk, ?_, h2⟩
    unfold amap
    dsimp only
    rw [h1]
theorem av_lkp {t : TypeId} {x y : Operand} {k : κ} {z : ν} (K : KeyT X.P kt kv) (hu : X.P.underlying t = some (.map kt vt)) (hz : zeroP X.P vt = some (vv z)) (hx : ev x = some (.map m)) (hy : ev y = some (kv k)) (s : MapAt kv vv h m l) :
    aop X h ev ⟨d, .lookup t x y false, ty, p, af, g⟩ = some (.val (vv ((mget l k).getD z)), .none) := by
  obtain ⟨bs, c, h1, h2⟩ := amap_of s
  show (match ev x, ev y with | some m, some k => vN (alookup X.P h t m k false) | _, _ => none) = _
  rw [hx, hy]
  dsimp only
  have : alookup X.P h t (.map m) (kv k) false = some (vv ((mget l k).getD z)) := by
    unfold alookup
    rw [hu, h1]
    dsimp only
    rw [K.ok, cond_true, afind_mk K k l bs h2]
    unfold mget
    cases mfind l k with
    | some q => rfl
    | none =>
      show (match zeroP X.P vt with | some z => some (bif false then Value.tuple #[z, .bool false] else z) | none => none) = _
      rw [hz]; rfl
  rw [this]; rfl
theorem av_lkp2 {t : TypeId} {x y : Operand} {k : κ} {z : ν} (K : KeyT X.P kt kv) (hu : X.P.underlying t = some (.map kt vt)) (hz : zeroP X.P vt = some (vv z)) (hx : ev x = some (.map m)) (hy : ev y = some (kv k)) (s : MapAt kv vv h m l) :
    aop X h ev ⟨d, .lookup t x y true, ty, p, af, g⟩ = some (.val (.tuple [vv ((mget l k).getD z), .bool (mget l k).isSome].toArray), .none) := by
  obtain ⟨bs, c, h1, h2⟩ := amap_of s
  show (match ev x, ev y with | some m, some k => vN (alookup X.P h t m k true) | _, _ => none) = _
  rw [hx, hy]
  dsimp only
  have : alookup X.P h t (.map m) (kv k) true = some (.tuple [vv ((mget l k).getD z), .bool (mget l k).isSome].toArray) := by
    unfold alookup
    rw [hu, h1]
    dsimp only
    rw [K.ok, cond_true, afind_mk K k l bs h2]
    unfold mget
    cases mfind l k with
    | some q => rfl
    | none =>
      show (match zeroP X.P vt with | some z => some (bif true then Value.tuple #[z, .bool false] else z) | none => none) = _
      rw [hz]; rfl
  rw [this]; rfl
theorem av_lkpx {t : TypeId} {x y : Operand} {k : κ} {z v : ν} {w : Value} (K : KeyT X.P kt kv) (hu : X.P.underlying t = some (.map kt vt)) (hz : zeroP X.P vt = some (vv z)) (hx : ev x = some (.map m)) (hy : ev y = some (kv k)) (s : MapAt kv vv h m l) (hv : pget l k z = some v) (hw : vv v = w) :
    aop X h ev ⟨d, .lookup t x y false, ty, p, af, g⟩ = some (.val w, .none) := by
  rw [av_lkp K hu hz hx hy s, Option.some.inj hv, hw]
theorem av_lkp2x {t : TypeId} {x y : Operand} {k : κ} {z : ν} {v : ν × Bool} {w : Value} (K : KeyT X.P kt kv) (hu : X.P.underlying t = some (.map kt vt)) (hz : zeroP X.P vt = some (vv z)) (hx : ev x = some (.map m)) (hy : ev y = some (kv k)) (s : MapAt kv vv h m l) (hv : pget2 l k z = some v) (hw : vv v.1 = w) :
    aop X h ev ⟨d, .lookup t x y true, ty, p, af, g⟩ = some (.val (.tuple [w, .bool v.2].toArray), .none) := by
  have := Option.some.inj hv
  subst this
  rw [av_lkp2 K hu hz hx hy s, hw]
theorem av_lkpy {t : TypeId} {x y : Operand} {k : κ} {z v : ν} {w : Value} {i : Nat} {bs : List Nat} {c : Nat} (K : KeyT X.P kt kv) (hu : X.P.underlying t = some (.map kt vt)) (hz : zeroP X.P vt = some (vv z)) (hx : ev x = some (.map (some i))) (hy : ev y = some (kv k)) (hi : h.at i = .map (mkEs kv vv l bs) c) (hb : bs.length = l.length) (hv : pget l k z = some v) (hw : vv v = w) :
    aop X h ev ⟨d, .lookup t x y false, ty, p, af, g⟩ = some (.val w, .none) := by
  have e := Option.some.inj hv
  show (match ev x, ev y with | some m, some k => vN (alookup X.P h t m k false) | _, _ => none) = _
  rw [hx, hy]
  dsimp only
  have : alookup X.P h t (.map (some i)) (kv k) false = some (vv ((mget l k).getD z)) := by
    have h1 : amap h (.map (some i)) = some (mkEs kv vv l bs, c) := by unfold amap; dsimp only; rw [hi]
    unfold alookup
    rw [hu, h1]
    dsimp only
    rw [K.ok, cond_true, afind_mk K k l bs hb]
    unfold mget
    cases mfind l k with
    | some q => rfl
    | none =>
      show (match zeroP X.P vt with | some z => some (bif false then Value.tuple #[z, .bool false] else z) | none => none) = _
      rw [hz]; rfl
  rw [this, e, hw]; rfl
theorem ent_tgt {fr : Fr} {t : TypeId} {x y : Operand} {i x0 : Nat} {v kvv : Value} {E : Eff} (hx : aev fr x = some (.map (some i))) (hy : aev fr y = some kvv) (ha : aop X h (aev fr) ⟨d, .mapEntry t x y, ty, p, af, g⟩ = some (.val v, E)) (ht : E.tgt = some x0) : x0 = i := by
  have ha : (match aev fr x, aev fr y with | some m, some k => vE (amapEntry X.P h t m k) | _, _ => none) = some (.val v, E) := ha
  rw [hx, hy] at ha
  try dsimp only at ha
  unfold amapEntry at ha
  cases hu : X.P.underlying t with
  | none => rw [hu] at ha; cases ha
  | some u =>
    rw [hu] at ha
    cases u <;> try (cases ha; done)
    try dsimp only at ha
    cases hm : amap h (.map (some i)) with
    | none => rw [hm] at ha; cases ha
    | some q =>
      obtain ⟨es, c⟩ := q
      rw [hm] at ha
      try dsimp only at ha
      rename_i kt et
      cases hk : okKey X.P false kt kvv <;> rw [hk] at ha <;> simp only [cond_false, cond_true] at ha
      · cases ha
      · cases hf : afind X.P kt kvv es with
        | none => rw [hf] at ha; cases ha
        | some r =>
          rw [hf] at ha
          cases r with
          | none =>
            try dsimp only at ha
            cases hz : zeroP X.P et with
            | none => rw [hz] at ha; cases ha
            | some z => rw [hz] at ha; cases ha; cases ht; rfl
          | some jv =>
            obtain ⟨j, v2⟩ := jv
            try dsimp only at ha
            cases he : es[j]? with
            | none => rw [he] at ha; cases ha
            | some e =>
              rw [he] at ha
              try dsimp only at ha
              cases hs : Instr.sameBits 10000 e.key kvv <;> rw [hs] at ha <;> simp only [cond_false, cond_true] at ha
              · cases ha
              · cases ha; cases ht; rfl
theorem mkm_sv {fr : Fr} {t : TypeId} : SV X wm ⟨d, .makeMap t none, ty, p, af, g⟩ fr h (.map (some h.size)) (h.push (.map [] 0)) false := ⟨.new (.map [] 0), rfl, rfl, fun _ => rfl⟩
omit [DecidableEq κ] in
theorem MapO.new (lo : Nat) (hl : lo ≤ h.size) : MapO kv vv lo (h.push (.map [] 0)) (some h.size) ([] : List (κ × ν)) :=
  ⟨⟨.inr ⟨h.size, [], 0, rfl, at_push_new h _, rfl, by simp, by simp⟩⟩, fun i e => by cases e; exact hl⟩
theorem eff_upd {i : Nat} {es es' : List MapEntry} {c c' : Nat} (hw : wm ≤ i) (h1 : h.at i = .map es c) : Eff.apply wm h (.upd i (.map es' c')) = some (h.put i (.map es' c')) := by
  show (bif Nat.ble wm i && (h.at i).own then some (h.put i _) else none) = _
  rw [h1, Nat.ble_eq_true_of_le hw]; rfl
theorem up_put {i : Nat} {es : List MapEntry} {c : Nat} {A : AObj} (hl : lo ≤ i) (h1 : h.at i = .map es c) : Up lo (fun j => some i = some j) h (h.put i A) :=
  ⟨Nat.le_refl _, fun j _ hn => at_put_other (fun q => hn (by rw [q])) A, fun j e => by cases e; exact ⟨hl, by rw [h1]; rfl⟩⟩
theorem upd_su {fr : Fr} {t : TypeId} {x y z : Operand} {k : κ} {v : ν} (K : KeyT X.P kt kv) (hu : X.P.underlying t = some (.map kt vt)) (hw : wm ≤ lo) (hx : aev fr x = some (.map m)) (hm : m.isSome = true) (hy : aev fr y = some (kv k)) (hz : aev fr z = some (vv v)) (s : MapO kv vv lo h m l) :
    ∃ h', SU X wm ⟨d, .mapUpdate t x y z, ty, p, af, g⟩ fr h h' true ∧ Up lo (fun j => m = some j) h h' ∧ MapO kv vv lo h' m (mset l k v) := by
  obtain ⟨i, rfl⟩ := Option.isSome_iff_exists.1 hm
  have hlo := s.low i rfl
  rcases s.at_.mem with ⟨q, _⟩ | ⟨j, bs, clk, q, h1, h2, h3, h4⟩
  · cases q
  · cases q
    have key : ∀ E, amapUpdate X.P h t (.map (some i)) (kv k) (vv v) = some E → aop X h (aev fr) ⟨d, .mapUpdate t x y z, ty, p, af, g⟩ = some (.skip, E) := fun E hE => by
      show (match aev fr x, aev fr y, aev fr z with | some m, some k, some x => sE (amapUpdate X.P h t m k x) | _, _, _ => none) = _
      rw [hx, hy, hz]; dsimp only; rw [hE]; rfl
    have ham : amap h (.map (some i)) = some (mkEs kv vv l bs, clk) := by unfold amap; dsimp only; rw [h1]
    cases e : mfind l k with
    | some q =>
      have hq := mfind_some e
      have hql : q.1 < bs.length := by rw [h2]; exact (List.getElem?_eq_some_iff.1 hq).1
      have hbq : bs[q.1]? = some bs[q.1] := List.getElem?_eq_getElem hql
      have hmod : (mkEs kv vv l bs).modify q.1 (fun e => { e with key := kv k, val := vv v }) = mkEs kv vv (l.modify q.1 fun p => (p.1, v)) bs := by
        have h5 : (mkEs kv vv l bs).modify q.1 (fun e => { e with key := kv k, val := vv v }) = mkEs kv vv (l.modify q.1 fun _ => (k, v)) bs := mkEs_modify _ _ (fun p b => rfl) _
        rw [h5]
        congr 1
        apply List.ext_getElem?
        intro n
        rw [List.getElem?_modify, List.getElem?_modify]
        by_cases hn : q.1 = n
        · subst hn; rw [hq]; simp
        · simp [hn]
      refine ⟨_, ⟨.upd i (.map (mkEs kv vv (l.modify q.1 fun p => (p.1, v)) bs) clk), key _ ?_, eff_upd (Nat.le_trans hw hlo) h1, fun z => by cases z⟩, up_put hlo h1, ⟨⟨.inr ⟨i, bs, clk, rfl, ?_, ?_, h3, h4⟩⟩, s.low⟩⟩
      · unfold amapUpdate
        rw [hu, ham]
        dsimp only
        rw [K.ok, cond_true, afind_mk K k l bs h2, e]
        dsimp only [Option.map_some]
        rw [mkEs_get hq hbq]
        dsimp only
        rw [K.same, cond_true, hmod]
      · rw [at_put_same (map_lt h1)]; unfold mset; rw [e]
      · unfold mset; rw [e]; simpa using h2
    | none =>
      refine ⟨_, ⟨.upd i (.map (mkEs kv vv (l ++ [(k, v)]) (bs ++ [clk])) (clk + 1)), key _ ?_, eff_upd (Nat.le_trans hw hlo) h1, fun z => by cases z⟩, up_put hlo h1, ⟨⟨.inr ⟨i, bs ++ [clk], clk + 1, rfl, ?_, ?_, ?_, ?_⟩⟩, s.low⟩⟩
      · unfold amapUpdate
        rw [hu, ham]
        dsimp only
        rw [K.ok, cond_true, afind_mk K k l bs h2, e, mkEs_append h2]; rfl
      · rw [at_put_same (map_lt h1)]; unfold mset; rw [e]
      · unfold mset; rw [e]; simp [h2]
      · rw [List.nodup_append]; exact ⟨h3, by simp, fun a ha b hb => by simp at hb; subst hb; exact Nat.ne_of_lt (h4 a ha)⟩
      · intro b hb
        rw [List.mem_append] at hb
        rcases hb with hb | hb
        · have := h4 b hb; omega
        · simp at hb; omega
theorem ent_sv {fr : Fr} {t : TypeId} {x y : Operand} {k : κ} {z : ν} (K : KeyT X.P kt kv) (hu : X.P.underlying t = some (.map kt vt)) (hzz : zeroP X.P vt = some (vv z)) (hw : wm ≤ lo) (hx : aev fr x = some (.map m)) (hm : m.isSome = true) (hy : aev fr y = some (kv k)) (s : MapO kv vv lo h m l) :
    ∃ h' b, SV X wm ⟨d, .mapEntry t x y, ty, p, af, g⟩ fr h (.tuple [vv ((mget l k).getD z), .int .i64 (b : Nat)].toArray) h' true ∧ Up lo (fun j => m = some j) h h' ∧ MapO kv vv lo h' m (ment l k z) ∧ MapE kv vv lo h' m (ment l k z) k b := by
  obtain ⟨i, rfl⟩ := Option.isSome_iff_exists.1 hm
  have hlo := s.low i rfl
  rcases s.at_.mem with ⟨q, _⟩ | ⟨j, bs, clk, q, h1, h2, h3, h4⟩
  · cases q
  · cases q
    have key : ∀ v E, amapEntry X.P h t (.map (some i)) (kv k) = some (v, E) → aop X h (aev fr) ⟨d, .mapEntry t x y, ty, p, af, g⟩ = some (.val v, E) := fun v E hE => by
      show (match aev fr x, aev fr y with | some m, some k => vE (amapEntry X.P h t m k) | _, _ => none) = _
      rw [hx, hy]; dsimp only; rw [hE]; rfl
    have ham : amap h (.map (some i)) = some (mkEs kv vv l bs, clk) := by unfold amap; dsimp only; rw [h1]
    cases e : mfind l k with
    | some q =>
      have hq := mfind_some e
      have hql : q.1 < bs.length := by rw [h2]; exact (List.getElem?_eq_some_iff.1 hq).1
      have hbq : bs[q.1]? = some bs[q.1] := List.getElem?_eq_getElem hql
      have hmod : (mkEs kv vv l bs).modify q.1 (fun e => { e with key := kv k }) = mkEs kv vv l bs := by
        apply List.ext_getElem?
        intro n
        rw [List.getElem?_modify]
        by_cases hn : q.1 = n
        · subst hn; rw [mkEs_get hq hbq]; simp
        · simp [hn]
      have hg : (mget l k).getD z = q.2 := by unfold mget; rw [e]; rfl
      have he : ment l k z = l := by unfold ment; rw [e]
      have hat : (h.put i (.map (mkEs kv vv l bs) clk)).at i = .map (mkEs kv vv l bs) clk := at_put_same (map_lt h1) _
      refine ⟨_, bs[q.1], ⟨.upd i (.map (mkEs kv vv l bs) clk), key _ _ ?_, eff_upd (Nat.le_trans hw hlo) h1, fun z => by cases z⟩, up_put hlo h1, ⟨⟨.inr ⟨i, bs, clk, rfl, ?_, ?_, h3, h4⟩⟩, s.low⟩, ⟨i, bs, clk, q, rfl, hlo, ?_, ?_, h3, h4, ?_, hbq⟩⟩
      · unfold amapEntry
        rw [hu, ham]
        dsimp only
        rw [K.ok, cond_true, afind_mk K k l bs h2, e]
        dsimp only [Option.map_some]
        rw [mkEs_get hq hbq]
        dsimp only
        rw [K.same, cond_true, hmod, hg]
      · rw [he]; exact hat
      · rw [he]; exact h2
      · rw [he]; exact hat
      · rw [he]; exact h2
      · rw [he]; exact e
    | none =>
      have hg : (mget l k).getD z = z := by unfold mget; rw [e]; rfl
      have he : ment l k z = l ++ [(k, z)] := by unfold ment; rw [e]
      have hat : (h.put i (.map (mkEs kv vv (l ++ [(k, z)]) (bs ++ [clk])) (clk + 1))).at i = .map (mkEs kv vv (l ++ [(k, z)]) (bs ++ [clk])) (clk + 1) := at_put_same (map_lt h1) _
      have hlen : (bs ++ [clk]).length = (l ++ [(k, z)]).length := by simp [h2]
      have hnd : (bs ++ [clk]).Nodup := by rw [List.nodup_append]; exact ⟨h3, by simp, fun a ha b hb => by simp at hb; subst hb; exact Nat.ne_of_lt (h4 a ha)⟩
      have hlt : ∀ b ∈ bs ++ [clk], b < clk + 1 := by
        intro b hb
        rw [List.mem_append] at hb
        rcases hb with hb | hb
        · have := h4 b hb; omega
        · simp at hb; omega
      refine ⟨_, clk, ⟨.upd i (.map (mkEs kv vv (l ++ [(k, z)]) (bs ++ [clk])) (clk + 1)), key _ _ ?_, eff_upd (Nat.le_trans hw hlo) h1, fun z => by cases z⟩, up_put hlo h1, ⟨⟨.inr ⟨i, bs ++ [clk], clk + 1, rfl, ?_, ?_, hnd, hlt⟩⟩, s.low⟩, ⟨i, bs ++ [clk], clk + 1, (l.length, z), rfl, hlo, ?_, ?_, hnd, hlt, ?_, ?_⟩⟩
      · unfold amapEntry
        rw [hu, ham]
        dsimp only
        rw [K.ok, cond_true, afind_mk K k l bs h2, e]
        dsimp only [Option.map_none]
        rw [hzz]
        dsimp only
        rw [mkEs_append h2, hg]; rfl
      · rw [he]; exact hat
      · rw [he]; exact hlen
      · rw [he]; exact hat
      · rw [he]; exact hlen
      · rw [he, mfind_append e]; simp [mfind]
      · rw [List.getElem?_append_right (by omega), h2]; simp
theorem est_su {fr : Fr} {t : TypeId} {x y z : Operand} {k : κ} {v : ν} {b : Nat} (hw : wm ≤ lo) (hx : aev fr x = some (.map m)) (hy : aev fr y = some (.int .i64 (b : Nat))) (hz : aev fr z = some (vv v)) (s : MapE kv vv lo h m l k b) :
    ∃ h', SU X wm ⟨d, .entryStore t x y z, ty, p, af, g⟩ fr h h' true ∧ Up lo (fun j => m = some j) h h' ∧ MapO kv vv lo h' m (mset l k v) := by
  obtain ⟨i, bs, clk, q, rfl, hlo, h1, h2, h3, h4, h5, h6⟩ := s.mem
  have hq := mfind_some h5
  have hfi : (mkEs kv vv l bs).findIdx? (fun e => (e.born : Int) == (b : Nat)) = some q.1 := by
    rw [List.findIdx?_eq_some_iff_getElem]
    have hql : q.1 < bs.length := (List.getElem?_eq_some_iff.1 h6).1
    have hel : q.1 < (mkEs kv vv l bs).length := by unfold mkEs; rw [List.length_zipWith]; omega
    have hborn : ∀ n (hn : n < (mkEs kv vv l bs).length), ∃ hb : n < bs.length, (mkEs kv vv l bs)[n].born = bs[n] := by
      intro n hn
      have hn' : n < l.length ∧ n < bs.length := by unfold mkEs at hn; rw [List.length_zipWith] at hn; omega
      exact ⟨hn'.2, by simp [mkEs]⟩
    refine ⟨hel, ?_, ?_⟩
    · obtain ⟨hb, e⟩ := hborn q.1 hel
      rw [e]
      have : bs[q.1] = b := by rw [List.getElem?_eq_getElem hb] at h6; exact Option.some.inj h6
      simp [this]
    · intro n hn
      obtain ⟨hb, e⟩ := hborn n (by omega)
      rw [e]
      have hbq : bs[q.1] = b := by rw [List.getElem?_eq_getElem hql] at h6; exact Option.some.inj h6
      have hne : bs[n] ≠ b := fun z => by
        rw [← hbq] at z
        have hp := List.pairwise_iff_getElem.1 h3 n q.1 hb hql hn
        exact hp z
      simp; omega
  have hmod : (mkEs kv vv l bs).modify q.1 (fun e => { e with val := vv v }) = mkEs kv vv (l.modify q.1 fun p => (p.1, v)) bs := mkEs_modify _ _ (fun p b => rfl) _
  refine ⟨_, ⟨.upd i (.map (mkEs kv vv (l.modify q.1 fun p => (p.1, v)) bs) clk), ?_, eff_upd (Nat.le_trans hw hlo) h1, fun z => by cases z⟩, up_put hlo h1, ⟨⟨.inr ⟨i, bs, clk, rfl, ?_, ?_, h3, h4⟩⟩, fun j e => by cases e; exact hlo⟩⟩
  · show (match aev fr x, aev fr y, aev fr z with | some m, some s, some x => sE (aentryStore h m s x) | _, _, _ => none) = _
    rw [hx, hy, hz]
    dsimp only
    have : aentryStore h (.map (some i)) (.int .i64 (b : Nat)) (vv v) = some (.upd i (.map (mkEs kv vv (l.modify q.1 fun p => (p.1, v)) bs) clk)) := by
      unfold aentryStore amap
      dsimp only
      rw [h1]
      dsimp only
      rw [hfi]
      dsimp only
      rw [hmod]
    rw [this]; rfl
  · rw [at_put_same (map_lt h1)]; unfold mset; rw [h5]
  · unfold mset; rw [h5]; simpa using h2
end
end Go.Abs
end
end
section
noncomputable section
namespace Go.Abs
open Go.Lf
variable {P : Program}
theorem pr_sizeOf {t : TypeId} {n : Nat} (hs : sizeP P t = some n) : pureRun P (sizeOf t) = some (.ok n) := by
  unfold sizeP at hs
  cases hi : P.info? t with
  | none => rw [hi] at hs; cases hs
  | some i =>
    rw [hi] at hs
    simp at hs
    have h1 : pureRun P (typeInfo t) = some (.ok i) := by
      show pureRun P (match P.info? t with | some i => pure i | none => stuck "no such type") = _
      rw [hi]; rfl
    unfold sizeOf
    rw [prb h1, hs]; rfl
theorem eq_arr2 {t et : TypeId} {a0 a1 b0 b1 : Int} {d : Nat} (hu : P.underlying t = some (.array 2 et)) (he : P.underlying et = some (.int .i64)) (hs : sizeP P et = some 1) (ha : isAggP P et = some false) :
    pureRun P (Op.equalIn (d + 2) t (.agg #[.int .i64 a0, .int .i64 a1]) (.agg #[.int .i64 b0, .int .i64 b1])) = some (.ok (a0 == b0 && a1 == b1)) := by
  unfold Op.equalIn
  rw [prb (pr_underlying hu)]
  dsimp only
  rw [prb (pr_sizeOf hs)]
  simp only [Std.Legacy.Range.forIn_eq_forIn_range']
  have e : List.range' 0 [:2].size = [0, 1] := rfl
  rw [e, List.forIn_cons]
  simp only [bind_assoc]
  have p0 : ∀ (x y : Int), pureRun P (part et #[.int .i64 x, .int .i64 y] (0 * 1)) = some (.ok (.int .i64 x)) := fun x y => part_cell ha rfl
  have p1 : ∀ (x y : Int), pureRun P (part et #[.int .i64 x, .int .i64 y] (1 * 1)) = some (.ok (.int .i64 y)) := fun x y => part_cell ha rfl
  rw [prb (p0 a0 a1), prb (p0 b0 b1), prb (eq_int he)]
  cases h0 : (a0 == b0) with
  | false => rfl
  | true =>
    simp only [Bool.not_true, Bool.false_eq_true, if_false, pure_bind]
    rw [List.forIn_cons]
    simp only [bind_assoc]
    rw [prb (p1 a0 a1), prb (p1 b0 b1), prb (eq_int he)]
    cases h1 : (a1 == b1) <;> rfl
theorem ck_int {e : Bool} {t : TypeId} {v : Value} {k : IntKind} {d : Nat} (hu : P.underlying t = some (.int k)) : pureRun P (Instr.checkKey e (d + 1) t v) = some (.ok ()) := by
  unfold Instr.checkKey
  rw [prb (pr_underlying hu)]; rfl
theorem ck_arr2 {e : Bool} {t et : TypeId} {a0 a1 : Int} {d : Nat} (hu : P.underlying t = some (.array 2 et)) (he : P.underlying et = some (.int .i64)) (hs : sizeP P et = some 1) (ha : isAggP P et = some false) :
    pureRun P (Instr.checkKey e (d + 2) t (.agg #[.int .i64 a0, .int .i64 a1])) = some (.ok ()) := by
  unfold Instr.checkKey
  rw [prb (pr_underlying hu)]
  dsimp only
  simp only [Std.Legacy.Range.forIn_eq_forIn_range']
  have e2 : List.range' 0 [:2].size = [0, 1] := rfl
  rw [e2, List.forIn_cons]
  simp only [bind_assoc]
  rw [prb (pr_sizeOf hs), prb (part_cell ha (off := 0 * 1) (v := .int .i64 a0) rfl), prb (ck_int he)]
  simp only [pure_bind]
  rw [List.forIn_cons]
  simp only [bind_assoc]
  rw [prb (pr_sizeOf hs), prb (part_cell ha (off := 1 * 1) (v := .int .i64 a1) rfl), prb (ck_int he)]; rfl
theorem KeyT.int {kt : TypeId} {k : IntKind} (hu : P.underlying kt = some (.int k)) : KeyT P kt (Value.int k) where
  pl := fun _ => rfl
  ok := fun e x => by
    unfold okKey
    rw [show (10000 : Nat) = 9999 + 1 from rfl, ck_int hu]; rfl
  same := fun x => by simp [Instr.sameBits]
  eq := fun x y => by
    have := eq_int (P := P) (d := 9999) (a := x) (b := y) hu
    exact this
  kind := ⟨_, hu, .inr fun x y => by simp only [Instr.sameNow, if_true]; rfl⟩
theorem KeyT.arr2 {kt et : TypeId} {κ : Type} [DecidableEq κ] {kv : κ → Value} (hu : P.underlying kt = some (.array 2 et)) (he : P.underlying et = some (.int .i64)) (hs : sizeP P et = some 1) (f0 f1 : κ → Int) (hk : ∀ x, kv x = .agg #[.int .i64 (f0 x), .int .i64 (f1 x)]) (hi : ∀ x y, x = y ↔ f0 x = f0 y ∧ f1 x = f1 y) : KeyT P kt kv := by
  have ha : isAggP P et = some false := by unfold isAggP; rw [he]
  refine ⟨fun x => by rw [hk]; rfl, fun e x => ?_, fun x => by rw [hk]; simp [Instr.sameBits], fun x y => ?_, _, hu, .inl fun x y => by rw [hk, hk]; rfl⟩
  · rw [hk]
    unfold okKey
    rw [show (10000 : Nat) = 9998 + 2 from rfl, ck_arr2 hu he hs ha]; rfl
  · rw [hk, hk]
    have := eq_arr2 (P := P) (d := 9998) (a0 := f0 x) (a1 := f1 x) (b0 := f0 y) (b1 := f1 y) hu he hs ha
    refine Eq.trans this ?_
    congr 2
    rw [Bool.eq_iff_iff, Bool.and_eq_true, beq_iff_eq, beq_iff_eq, decide_eq_true_iff, hi]
end Go.Abs
end
end
section
noncomputable section
namespace Go.Abs
open Go.Lf
variable {X : Ctx} {n wm lo : Nat} {Q : XX → Fs → Prop} {fr : Fr} {ds : List Deferred} {h : H}
theorem WC.rangeF {g : Operand} {ps : Array Tmp} {as_ bd : Code} {f : FuncId} {first cap : Array Value} (lo : Nat) (hg : aev fr g = some (.func (.func f) first cap)) (hf : (X.fns.get f).isSome = true)
    (k : ∀ h2, Up lo (fun _ => False) h h2 → h2.at h.size = .deferred → h2.at (h.size + 1) = .loop .ready none fr n ps as_ bd h.size → ∃ R : Value → H → Prop,
      WR X f (first.toList ++ [Value.func (.yield (h.size + 1)) #[] #[]] ++ cap.toList).toArray wm h2 R ∧ ∀ v h3, R v h3 → h3.at (h.size + 1) = .loop .ready none fr n ps as_ bd h.size ∧
        ∀ h4, (lo ≤ h.size + 1 → Up lo (fun i => i = h.size + 1) h3 h4) → Q .normal ⟨fr, ⟨.collected h.size, #[]⟩ :: ds, h4, none⟩) : WC X n wm none (.rangeFunc g ps as_ bd) ⟨fr, ds, h, none⟩ Q := by
  obtain ⟨fn, hf⟩ := Option.isSome_iff_exists.1 hf
  have hu : Up lo (fun _ => False) h ((h.push .deferred).push (.loop .ready none fr n ps as_ bd h.size)) := Up.of_grow lo (((Grow.refl h).push _).push _)
  have a1 : ((h.push .deferred).push (.loop .ready none fr n ps as_ bd h.size)).at h.size = .deferred := by rw [at_push_old (by simp), at_push_new]
  have a2 : ((h.push .deferred).push (.loop .ready none fr n ps as_ bd h.size)).at (h.size + 1) = .loop .ready none fr n ps as_ bd h.size := at_push_new (h.push .deferred) _
  obtain ⟨R, ⟨e, h3, ⟨v, rfl, hr⟩, hj⟩, kk⟩ := k _ hu a1 a2
  obtain ⟨hat, kq⟩ := kk v h3 hr
  have hown : (h3.at (h.size + 1)).own = true := by rw [hat]; rfl
  refine ⟨.normal, _, kq (h3.put (h.size + 1) (.loop .exhausted none fr n ps as_ bd h.size)) (fun hl => Up.put hl hown), ?_⟩
  refine code_iff.2 (evRange_sound (C := cfg X fun _ => false) (ih := oneJob (.call f _ wm _) (.fin (.ret v) h3)) (oneJob_ok hj) ?_)
  show evRange1 (cfg X fun _ => false) _ g n wm none (h.size + 1) ⟨fr, ⟨.collected h.size, #[]⟩ :: ds, (h.push .deferred).push (.loop .ready none fr n ps as_ bd h.size), none⟩ = _
  unfold evRange1
  dsimp only
  rw [hg]
  have hac : acall (cfg X fun _ => false).X ((h.push .deferred).push (.loop .ready none fr n ps as_ bd h.size)) (.func (.func f) first cap) [Value.func (.yield (h.size + 1)) #[] #[]] = some (.enter f (first.toList ++ [Value.func (.yield (h.size + 1)) #[] #[]] ++ cap.toList).toArray, .none) := by
    unfold acall
    have : (cfg X fun _ => false).X.fns.get f = some fn := hf
    dsimp only
    rw [this]
  dsimp only
  rw [hac]
  dsimp only
  unfold evRanged
  rw [oneJob_eq]
  dsimp only
  rw [hat]
  rfl
structure BdK (n lo l : Nat) (fr : Fr) (ps : Array Tmp) (as_ bd : Code) (df : Nat) (R : H → Prop) (e : XX) (s : Fs) : Prop where
  out : e = .normal ∧ s.h.at l = .loop .busy none fr n ps as_ bd df ∧ ∀ h', (lo ≤ l → Up lo (fun i => i = l) s.h h') → h'.at l = .loop .ready none fr n ps as_ bd df → R h'
structure AsK (X : Ctx) (n wm lo l : Nat) (fr : Fr) (ps : Array Tmp) (as_ bd : Code) (df : Nat) (R : H → Prop) (e : XX) (s : Fs) : Prop where
  out : e = .normal ∧ s.h.at l = .loop .ready none fr n ps as_ bd df ∧ ∀ h1, (lo ≤ l → Up lo (fun i => i = l) s.h h1) → h1.at l = .loop .busy none fr n ps as_ bd df → WC X n wm (some l) bd ⟨s.fr, s.ds, h1, s.wr⟩ (BdK n lo l fr ps as_ bd df R)
theorem BdK.mk' {l : Nat} {fr fr2 : Fr} {ps : Array Tmp} {as_ bd : Code} {df : Nat} {R : H → Prop} (h1 : h.at l = .loop .busy none fr n ps as_ bd df) (k : ∀ h', (lo ≤ l → Up lo (fun i => i = l) h h') → h'.at l = .loop .ready none fr n ps as_ bd df → R h') : BdK n lo l fr ps as_ bd df R .normal ⟨fr2, ds, h, none⟩ := ⟨⟨rfl, h1, k⟩⟩
theorem AsK.mk' {l : Nat} {fr fr2 : Fr} {ps : Array Tmp} {as_ bd : Code} {df : Nat} {R : H → Prop} (h1 : h.at l = .loop .ready none fr n ps as_ bd df) (k : ∀ h1, (lo ≤ l → Up lo (fun i => i = l) h h1) → h1.at l = .loop .busy none fr n ps as_ bd df → WC X n wm (some l) bd ⟨fr2, ds, h1, none⟩ (BdK n lo l fr ps as_ bd df R)) : AsK X n wm lo l fr ps as_ bd df R .normal ⟨fr2, ds, h, none⟩ := ⟨⟨rfl, h1, k⟩⟩
def RdOK (X : Ctx) (l : Nat) (args : Array Value) (wm : Nat) (h : H) (R : Bool → H → Prop) : Prop := ∃ b h', R b h' ∧ JobOK X (.round l args wm h) (.fin (.ret (.bool b)) h')
theorem RdOK.mk' {l : Nat} {args : List Value} {fr fr1 : Fr} {ps : Array Tmp} {as_ bd : Code} {df : Nat} {R : H → Prop} (lo : Nat) (hat : h.at l = .loop .ready none fr n ps as_ bd df) (hw : wm ≤ l) (hl : Nat.beq args.length ps.toList.length = true) (hs : setParams (ps.toList.zip args) n fr = some fr1)
    (k : WC X n wm (some l) as_ ⟨fr1, [], h, none⟩ (AsK X n wm lo l fr ps as_ bd df R)) : RdOK X l args.toArray wm h (fun b h' => b = true ∧ R h') := by
  obtain ⟨e1, s1, ⟨rfl, h1, k1⟩, j1⟩ := k
  have o1 : (s1.h.at l).own = true := by rw [h1]; rfl
  have s1l := live_lt h1 rfl
  obtain ⟨e2, s2, ⟨rfl, h2, k2⟩, j2⟩ := k1 (s1.h.put l (.loop .busy none fr n ps as_ bd df)) (fun hl => Up.put hl o1) (at_put_same s1l _)
  have o2 : (s2.h.at l).own = true := by rw [h2]; rfl
  refine ⟨true, s2.h.put l (.loop .ready none fr n ps as_ bd df), ⟨rfl, k2 _ (fun hl => Up.put hl o2) (at_put_same (live_lt h2 rfl) _)⟩, ?_⟩
  classical
  let ih : Job → Option Res := fun j => if j = .code as_ n wm (some l) ⟨fr1, [], h, none⟩ then some (.code .normal s1) else oneJob (.code bd n wm (some l) { s1 with h := s1.h.put l (.loop .busy none fr n ps as_ bd df) }) (.code .normal s2) j
  have HI : ∀ j r, ih j = some r → JobOK X j r := by
    intro j r e
    dsimp only [ih] at e
    split at e
    · rename_i hj; cases e; rw [hj]; exact j1
    · exact oneJob_ok (X := X) j2 j r e
  refine evRound_sound (C := cfg X fun _ => false) (ih := ih) HI ?_
  unfold evRound
  rw [hat]
  have hl' : Nat.beq args.toArray.toList.length ps.toList.length = true := hl
  dsimp only
  rw [Nat.ble_eq_true_of_le hw, hl']
  simp only [Bool.and_self, cond_true]
  have hs' : setParams (ps.toList.zip args.toArray.toList) n fr = some fr1 := hs
  rw [hs']
  dsimp only
  have i1 : ih (.code as_ n wm (some l) { fr := fr1, ds := [], h := h }) = some (.code .normal s1) := by dsimp only [ih]; rw [if_pos rfl]
  rw [i1]
  show evRound2 ih l bd n wm .normal s1 = _
  unfold evRound2
  dsimp only
  rw [h1]
  dsimp only
  have i2 : ih (.code bd n wm (some l) { s1 with h := s1.h.put l (.loop .busy none fr n ps as_ bd df) }) = some (.code .normal s2) := by
    dsimp only [ih]
    split
    · rename_i hj
      exfalso
      injection hj with _ _ _ _ hs
      have : ({ s1 with h := s1.h.put l (.loop .busy none fr n ps as_ bd df) } : Fs).h.at l = h.at l := by rw [hs]
      dsimp only at this
      rw [at_put_same s1l, hat] at this
      cases this
    · exact oneJob_eq _ _
  rw [i2]
  show evRound3 l .normal s2 = _
  unfold evRound3
  rw [h2]
section
variable {ops : Array Oper} {ol : List Oper} {d : Nat} {ty : TypeId} {p : String} {af : Array Edge} {g : Option (Nat × Bool)} {rd : Option Nat}
theorem WO.round {l : Nat} {args : Array Value} {E : Eff} {v : Value} {h1 h2 : H} {op : Op} (hg : GuardOn ops ⟨some d, op, ty, p, af, g⟩ fr) (hd : Nat.blt d n = true) (ha : aop X h (aev fr) ⟨some d, op, ty, p, af, g⟩ = some (.round l args, E)) (hE : E.apply wm h = some h1)
    (hc : JobOK X (.round l args wm h1) (.fin (.ret v) h2)) (k : WO X n wm rd ops ol ⟨Tr.set fr d v, ds, h2, none⟩ Q) : WO X n wm rd ops (⟨some d, op, ty, p, af, g⟩ :: ol) ⟨fr, ds, h, none⟩ Q := by
  have hd' : dstOk n (some d) = true := hd
  refine WO.cons (oneJob_ok hc) (s1 := ⟨Tr.set fr d v, ds, h2, none⟩) ?_ k
  unfold astep
  rw [hg.1, hg.2]
  dsimp only [Bool.not_true, cond_false, cond_true]
  rw [ha]
  dsimp only [Bool.not_true, cond_false, cond_true]
  rw [hE]
  unfold aupon
  dsimp only [withH_eq, cond_false]
  rw [oneJob_eq]
  dsimp only
  rw [aput_ok hd']
  rfl
theorem WO.yld {l : Nat} {fo : Operand} {xs : Array Operand} {ts : Array TypeId} {vs : List Value} {R : Bool → H → Prop} {st : LoopState} {pd : Option Code} {fr' : Fr} {n' : Nat} {ps : Array Tmp} {as_ bd : Code} {df : Nat}
    (hg : GuardOn ops ⟨some d, .call { callee := .value fo, args := xs, argTypes := ts }, ty, p, af, g⟩ fr) (hd : Nat.blt d n = true) (hf : aev fr fo = some (.func (.yield l) #[] #[])) (hx : evs (aev fr) xs.toList = some vs)
    (hat : h.at l = .loop st pd fr' n' ps as_ bd df) (hl : vs.length = ps.toList.length) (hr : RdOK X l vs.toArray wm h R) (k : ∀ b h', R b h' → WO X n wm rd ops ol ⟨Tr.set fr d (.bool b), ds, h', none⟩ Q) :
    WO X n wm rd ops (⟨some d, .call { callee := .value fo, args := xs, argTypes := ts }, ty, p, af, g⟩ :: ol) ⟨fr, ds, h, none⟩ Q := by
  obtain ⟨b, h', hR, hj⟩ := hr
  refine WO.round (E := .none) hg hd ?_ rfl hj (k b h' hR)
  rw [aop_value, hx]
  dsimp only
  rw [hf]
  dsimp only
  unfold acall
  dsimp only
  rw [hat]
  dsimp only
  rw [hl, Nat.beq_refl]; rfl
theorem WO.gsplit {o : Oper} {c : Bool} (_ : GuardIs ops o fr c) (h1 : c = true → WO X n wm rd ops (o :: ol) ⟨fr, ds, h, none⟩ Q) (h2 : c = false → WO X n wm rd ops (o :: ol) ⟨fr, ds, h, none⟩ Q) : WO X n wm rd ops (o :: ol) ⟨fr, ds, h, none⟩ Q := by
  cases c
  · exact h2 rfl
  · exact h1 rfl
theorem GuardIs.on {o : Oper} {c : Bool} (hg : GuardIs ops o fr c) (hc : c = true) : GuardOn ops o fr := ⟨hg.1, hg.2.trans hc⟩
theorem GuardIs.off {o : Oper} {c : Bool} (hg : GuardIs ops o fr c) (hc : c = false) : GuardOff ops o fr := ⟨hg.1, hg.2.trans hc⟩
end
structure RetL (X : Ctx) (fn : Func) (wm : Nat) (Q : AEnd → H → Prop) (e : XX) (s : Fs) : Prop where
  out : ∃ pm E h', xPM e = some pm ∧ Q E h' ∧ JobOK X (.leave fn wm pm s) (.fin E h')
theorem WF.enterL {f : FuncId} {fn : Func} {c : Code} {args : Array Value} {Q : AEnd → H → Prop} (hf : X.fns.get f = some fn) (hb : fn.body = some c) (hn : args.toList.length ≤ fn.ntmps)
    (k : WC X fn.ntmps wm none c { fr := frameOf args.toList 0 .nil, ds := [], h := h } (RetL X fn wm Q)) : WF X f args wm h Q := by
  obtain ⟨e, s', ⟨pm, E, h', hpm, hq, hj⟩, ka⟩ := k
  refine ⟨E, h', hq, ?_⟩
  intro ρ args' w hwm hr hv
  have hi : Inv ρ fn.ntmps { fr := frameOf args.toList 0 .nil, ds := [], h := h } { tmps := args' ++ Array.replicate (fn.ntmps - args'.size) undef, defers := [] } w :=
    ⟨hr, frameOf_sound hv hn, .nil⟩
  refine callsIn_of_wp_marks (X.ok f fn hf).1 hb trivial (wpIn_mono (ka ρ _ w Fence.wide hwm hi rfl) ?_)
  rintro e' a' w' ⟨ρ', he, hi', hst⟩
  cases he with
  | normal => cases hpm; exact hj ρ' _ a' .returning w' _ (Nat.le_trans hwm hst.size) hi' .ret (fun _ _ hp => PostF.trans hr.lt hst hp)
  | ret => cases hpm; exact hj ρ' _ a' .returning w' _ (Nat.le_trans hwm hst.size) hi' .ret (fun _ _ hp => PostF.trans hr.lt hst hp)
  | panic hv' => cases hpm; exact hj ρ' _ a' _ w' _ (Nat.le_trans hwm hst.size) hi' (.pan hv') (fun _ _ hp => PostF.trans hr.lt hst hp)
  | exit id => cases hpm
  | goto l => cases hpm
theorem WF.beginL {f : FuncId} {fn : Func} {c : Code} {args : List Value} {n : Nat} {R : AEnd → H → Prop} (hf : X.fns.get f = some fn) (hb : fn.body = some c) (hnt : fn.ntmps = n) (hn : args.length ≤ n)
    (k : WC X n wm none c ⟨frameOf args 0 .nil, [], h, none⟩ (RetL X fn wm R)) : WF X f args.toArray wm h R := by
  subst hnt
  exact WF.enterL hf hb hn k
theorem leave_nil {fn : Func} {v : Value} {wr : Option Nat} (hv : aresult X.P fn fr h = some v) : JobOK X (.leave fn wm .ret ⟨fr, [], h, wr⟩) (.fin (.ret v) h) := by
  refine evLeave_sound (C := cfg X fun _ => false) (ih := fun _ => none) (fun _ _ h => by cases h) ?_
  have hv' : aresult (cfg X fun _ => false).X.P fn fr h = some v := hv
  unfold evLeave
  simp only [hv']
theorem leave_col {fn : Func} {pm : PM} {r : Nat} {wr : Option Nat} {E : AEnd} {h' : H} (hat : h.at r = .deferred) (hw : wm ≤ r) (hj : JobOK X (.leave fn wm pm ⟨fr, ds, h.put r .dead, wr⟩) (.fin E h')) : JobOK X (.leave fn wm pm ⟨fr, ⟨.collected r, #[]⟩ :: ds, h, wr⟩) (.fin E h') := by
  refine evLeave_sound (C := cfg X fun _ => false) (ih := oneJob (.leave fn wm pm ⟨fr, ds, h.put r .dead, wr⟩) (.fin E h')) (oneJob_ok hj) ?_
  unfold evLeave
  dsimp only
  rw [hat]
  dsimp only
  rw [Nat.ble_eq_true_of_le hw, cond_true]
  exact oneJob_eq _ _
theorem RetL.gen {fn : Func} {R : Value → H → Prop} {rs : List ResultVar} {vs : List Value} {v : Value} (hr : fn.results.toList = rs) (hv : ares X.P fr h rs = some vs) (hl : (match vs with | [v] => v | vs => .tuple vs.toArray) = v) (k : R v h) : RetL X fn wm (fun e h' => ∃ v, e = .ret v ∧ R v h') .ret ⟨fr, [], h, none⟩ := by
  refine ⟨⟨.ret, .ret v, h, rfl, ⟨v, rfl, k⟩, leave_nil ?_⟩⟩
  unfold aresult
  rw [hr, hv, ← hl]
  match vs with
  | [] => rfl
  | [_] => rfl
  | _ :: _ :: _ => rfl
theorem RetL.col {fn : Func} {R : AEnd → H → Prop} {r : Nat} (lo : Nat) (hlo : lo ≤ r) (hat : h.at r = .deferred) (hw : wm ≤ r) (k : ∀ h', Up lo (fun i => i = r) h h' → RetL X fn wm R .ret ⟨fr, ds, h', none⟩) : RetL X fn wm R .ret ⟨fr, ⟨.collected r, #[]⟩ :: ds, h, none⟩ := by
  have hu : Up lo (fun i => i = r) h (h.put r .dead) := Up.put hlo (by rw [hat]; rfl)
  obtain ⟨pm, E, h', hpm, hq, hj⟩ := (k _ hu).out
  cases hpm
  exact ⟨⟨.ret, E, h', rfl, hq, leave_col hat hw hj⟩⟩
theorem RetL.nrm {fn : Func} {R : AEnd → H → Prop} {s : Fs} (k : RetL X fn wm R .ret s) : RetL X fn wm R .normal s := by
  obtain ⟨pm, E, h', hpm, hq⟩ := k.out
  cases hpm
  exact ⟨⟨.ret, E, h', rfl, hq⟩⟩
theorem MapO.calldj {κ ν κ2 ν2 : Type} [DecidableEq κ] [DecidableEq κ2] {kv : κ → Value} {vv : ν → Value} {kv2 : κ2 → Value} {vv2 : ν2 → Value} {lo2 : Nat} {h' : H} {m m2 : Option Nat} {l : List (κ × ν)} {l2 : List (κ2 × ν2)} (s : MapO kv vv h.size h' m l) (s2 : MapO kv2 vv2 lo2 h m2 l2) : ∀ i : Nat, m = some i → m2 = some i → False := fun i e1 e2 => by
  have h1 := s.low i e1
  have h2 := s2.at_.lt e2
  omega
section
variable {ops : Array Oper} {ol : List Oper} {d : Nat} {ty : TypeId} {p : String} {af : Array Edge} {g : Option (Nat × Bool)} {rd : Option Nat} {mm : Nat} {sf : SfT} {QQ : Fr → H → Prop} {κ ν : Type} [DecidableEq κ] {kt vt : TypeId} {kv : κ → Value} {vv : ν → Value} {m : Option Nat} {l : List (κ × ν)}
theorem WD.updN {t : TypeId} {x y z : Operand} {k : κ} {v : ν} (hg : GuardOn ops ⟨none, .mapUpdate t x y z, ty, p, af, g⟩ fr) (K : KeyT X.P kt kv) (hu : X.P.underlying t = some (.map kt vt)) (hw : wm ≤ lo) (hx : aev fr x = some (.map m)) (hm : m.isSome = true) (hy : aev fr y = some (kv k)) (hz : aev fr z = some (vv v)) (s : MapO kv vv lo h m l)
    (kk : ∀ h', Up lo (fun j => m = some j) h h' → MapO kv vv lo h' m (mset l k v) → WD X n wm rd ops sf (mm + 1) h' ol fr QQ) (hc : cmpAll ops.toList mm = true) : WD X n wm rd ops sf mm h (⟨none, .mapUpdate t x y z, ty, p, af, g⟩ :: ol) fr QQ := by
  obtain ⟨h', sv, u, ho⟩ := upd_su (d := none) (ty := ty) (p := p) (af := af) (g := g) K hu hw hx hm hy hz s
  exact WD.su hg sv (.inr fun _ => Oth.all hc) (kk h' u ho)
theorem WD.estN {t : TypeId} {x y z : Operand} {k : κ} {v : ν} {b : Nat} (hg : GuardOn ops ⟨none, .entryStore t x y z, ty, p, af, g⟩ fr) (hw : wm ≤ lo) (hx : aev fr x = some (.map m)) (hy : aev fr y = some (.int .i64 (b : Nat))) (hz : aev fr z = some (vv v)) (s : MapE kv vv lo h m l k b)
    (kk : ∀ h', Up lo (fun j => m = some j) h h' → MapO kv vv lo h' m (mset l k v) → WD X n wm rd ops sf (mm + 1) h' ol fr QQ) (hc : cmpAll ops.toList mm = true) : WD X n wm rd ops sf mm h (⟨none, .entryStore t x y z, ty, p, af, g⟩ :: ol) fr QQ := by
  obtain ⟨h', sv, u, ho⟩ := est_su (d := none) (ty := ty) (p := p) (af := af) (g := g) (t := t) hw hx hy hz s
  exact WD.su hg sv (.inr fun _ => Oth.all hc) (kk h' u ho)
end
structure SzLe (h h' : H) : Prop where
  size : h.size ≤ h'.size
theorem SzLe.step {lo : Nat} {t : Nat → Prop} {h h1 h2 : H} (s : SzLe h h1) (u : Up lo t h1 h2) : SzLe h h2 := ⟨Nat.le_trans s.size u.size⟩
theorem row_ne_loop {i j : Nat} {cs : List Value} {o : Bool} {z : Nat} {st : LoopState} {pd : Option Code} {fr : Fr} {n : Nat} {ps : Array Tmp} {as_ bd : Code} {df : Nat} (h1 : h.at i = .row cs o z) (h2 : h.at j = .loop st pd fr n ps as_ bd df) : i ≠ j := fun e => by subst e; rw [h1] at h2; cases h2
theorem own_ne_loop {α : Type} {e : Rdr α} {wm2 lo2 : Nat} {a : Option Addr} {c : Nat} {xs : List α} {j : Nat} {st : LoopState} {pd : Option Code} {fr : Fr} {n : Nat} {ps : Array Tmp} {as_ bd : Code} {df : Nat} (so : OwnS e wm2 lo2 h a c xs) (h2 : h.at j = .loop st pd fr n ps as_ bd df) : ∀ i, BaseA a i → ¬ i = j := fun i hb => by
  obtain ⟨o, h1⟩ := hb
  rcases so.mem with ⟨q, _⟩ | ⟨k, o', cs, q, _, h3, _⟩
  · rw [h1] at q; cases q
  · rw [h1] at q; cases q; exact row_ne_loop h3 h2
theorem map_ne_loop {κ ν : Type} {kv : κ → Value} {vv : ν → Value} {m : Option Nat} {l : List (κ × ν)} {j : Nat} {st : LoopState} {pd : Option Code} {fr : Fr} {n : Nat} {ps : Array Tmp} {as_ bd : Code} {df : Nat} (so : MapAt kv vv h m l) (h2 : h.at j = .loop st pd fr n ps as_ bd df) : ∀ i, m = some i → ¬ i = j := fun i e q => by
  subst q
  rcases so.mem with ⟨q, _⟩ | ⟨k, bs, clk, q, h3, _⟩
  · rw [q] at e; cases e
  · rw [q] at e; cases e; rw [h3] at h2; cases h2
theorem def_ne_loop {i j : Nat} {st : LoopState} {pd : Option Code} {fr : Fr} {n : Nat} {ps : Array Tmp} {as_ bd : Code} {df : Nat} (h1 : h.at i = .deferred) (h2 : h.at j = .loop st pd fr n ps as_ bd df) : i ≠ j := fun e => by subst e; rw [h1] at h2; cases h2
theorem row_ne_def {i j : Nat} {cs : List Value} {o : Bool} {z : Nat} (h1 : h.at i = .row cs o z) (h2 : h.at j = .deferred) : i ≠ j := fun e => by subst e; rw [h1] at h2; cases h2
theorem own_ne_def {α : Type} {e : Rdr α} {wm2 lo2 : Nat} {a : Option Addr} {c : Nat} {xs : List α} {j : Nat} (so : OwnS e wm2 lo2 h a c xs) (h2 : h.at j = .deferred) : ∀ i, BaseA a i → ¬ i = j := fun i hb => by
  obtain ⟨o, h1⟩ := hb
  rcases so.mem with ⟨q, _⟩ | ⟨k, o', cs, q, _, h3, _⟩
  · rw [h1] at q; cases q
  · rw [h1] at q; cases q; exact row_ne_def h3 h2
theorem map_ne_def {κ ν : Type} {kv : κ → Value} {vv : ν → Value} {m : Option Nat} {l : List (κ × ν)} {j : Nat} (so : MapAt kv vv h m l) (h2 : h.at j = .deferred) : ∀ i, m = some i → ¬ i = j := fun i e q => by
  subst q
  rcases so.mem with ⟨q, _⟩ | ⟨k, bs, clk, q, h3, _⟩
  · rw [q] at e; cases e
  · rw [q] at e; cases e; rw [h3] at h2; cases h2
theorem Up.at_ {lo : Nat} {t : Nat → Prop} {h h' : H} (u : Up lo t h h') {i : Nat} {A : AObj} (hA : h.at i = A) (hl : A.live = true) (hn : ¬ t i) : h'.at i = A := by rw [u.keep i (live_lt hA hl) hn, hA]
theorem jput {b : Nat} {cs : List Value} (hb : h.at b = .row cs true 0) : ∀ i, i = b → ∃ cs, h.at i = .row cs true 0 := fun i e => ⟨cs, by rw [e]; exact hb⟩
theorem Up.lower {lo lo' : Nat} {t : Nat → Prop} {h h' : H} (hl : lo' ≤ lo) (u : Up lo t h h') : Up lo' t h h' := ⟨u.size, u.keep, fun i z => ⟨Nat.le_trans hl (u.own i z).1, (u.own i z).2⟩⟩
theorem RdOK.imp {l : Nat} {args : Array Value} {R R' : Bool → H → Prop} (k : RdOK X l args wm h R) (hi : ∀ b h', R b h' → R' b h') : RdOK X l args wm h R' := let ⟨b, h', h1, h2⟩ := k; ⟨b, h', hi b h' h1, h2⟩
def YldAt (h : H) (l k : Nat) : Prop := ∃ st pd fr n ps as_ bd df, h.at l = .loop st pd fr n ps as_ bd df ∧ k = (ps : Array Tmp).toList.length
theorem WO.yld2 {ops : Array Oper} {ol : List Oper} {d : Nat} {ty : TypeId} {p : String} {af : Array Edge} {g : Option (Nat × Bool)} {rd : Option Nat} {l : Nat} {fo : Operand} {xs : Array Operand} {ts : Array TypeId} {vs : List Value} {R : Bool → H → Prop}
    (hg : GuardOn ops ⟨some d, .call { callee := .value fo, args := xs, argTypes := ts }, ty, p, af, g⟩ fr) (hd : Nat.blt d n = true) (hf : aev fr fo = some (.func (.yield l) #[] #[])) (hx : evs (aev fr) xs.toList = some vs)
    (hat : YldAt h l vs.length) (hr : RdOK X l vs.toArray wm h R) (k : ∀ b h', R b h' → WO X n wm rd ops ol ⟨Tr.set fr d (.bool b), ds, h', none⟩ Q) :
    WO X n wm rd ops (⟨some d, .call { callee := .value fo, args := xs, argTypes := ts }, ty, p, af, g⟩ :: ol) ⟨fr, ds, h, none⟩ Q := by
  obtain ⟨st, pd, fr', n', ps, as_, bd, df, h1, h2⟩ := hat
  exact WO.yld hg hd hf hx h1 h2 hr k
theorem WO.offO {ops : Array Oper} {ol : List Oper} {d : Nat} {op : Op} {ty : TypeId} {p : String} {af : Array Edge} {g : Option (Nat × Bool)} {rd : Option Nat} {c : Bool} (hg : GuardIs ops ⟨some d, op, ty, p, af, g⟩ fr c) (hc : c = false) (hd : Nat.blt d n = true) (k : WO X n wm rd ops ol ⟨Tr.set fr d undef, ds, h, none⟩ Q) :
    WO X n wm rd ops (⟨some d, op, ty, p, af, g⟩ :: ol) ⟨fr, ds, h, none⟩ Q := WO.o (hg.off hc) hd k
theorem av_mkf {ev : Operand → Option Value} {d : Option Tmp} {ty : TypeId} {p : String} {af : Array Edge} {g : Option (Nat × Bool)} {f : FuncId} {xs : Array Operand} {vs : List Value} (hx : evs ev xs.toList = some vs) : aop X h ev ⟨d, .makeFunc (.func f) #[] xs, ty, p, af, g⟩ = some (.val (.func (.func f) #[] vs.toArray), .none) := by
  show (bif isYield (.func f) then none else match evs ev [], evs ev xs.toList with | some vs, some us => some (AN.val (.func (.func f) vs.toArray us.toArray), Eff.none) | _, _ => none) = _
  rw [hx]; rfl
theorem Indep.map {es : List MapEntry} {c : Nat} (hp : ∀ e ∈ es, plain e.val = true) : Indep (.map es c) := by
  intro ρ ρ' w b d l ⟨h1, es', h2, h3⟩
  refine ⟨h1, es', h2, ?_⟩
  clear h2
  unfold EsR at h3 ⊢
  generalize es'.toList = xs at h3
  induction h3 with
  | nil => exact .nil
  | cons hk hpk hb hv t ih =>
    refine .cons hk hpk hb ?_ (ih fun e he => hp e (by simp [he]))
    have := VR.plain_eq (hp _ (by simp)) hv
    rw [this]
    exact VR.plain_refl (hp _ (by simp))
section
variable {ops : Array Oper} {ol : List Oper} {d : Nat} {ty : TypeId} {p : String} {af : Array Edge} {g : Option (Nat × Bool)} {rd : Option Nat} {mm : Nat} {sf : SfT} {QQ : Fr → H → Prop} {κ ν : Type} [DecidableEq κ] {kt vt : TypeId} {kv : κ → Value} {vv : ν → Value} {m : Option Nat} {l : List (κ × ν)}
def EntC (kv : κ → Value) (vv : ν → Value) (l : List (κ × ν)) (k : κ) (z : ν) : AObj → Prop := fun A => ∃ bs clk, A = .map (mkEs kv vv (ment l k z) bs) clk ∧ bs.length = (ment l k z).length
omit [DecidableEq κ] in
theorem mkEs_plain {bs : List Nat} (hp : ∀ x, plain (vv x) = true) : ∀ e ∈ mkEs kv vv l bs, plain e.val = true := by
  intro e he
  unfold mkEs at he
  obtain ⟨i, hi⟩ := List.mem_iff_getElem?.1 he
  rw [List.getElem?_zipWith] at hi
  split at hi
  · cases hi; exact hp _
  · cases hi
theorem WD.lkpP {t : TypeId} {x y : Operand} {k : κ} {z v : ν} {w : Value} {i : Nat} (hg : GuardOn ops ⟨some d, .lookup t x y false, ty, p, af, g⟩ fr) (hd : Nat.blt d n = true) (K : KeyT X.P kt kv) (hu : X.P.underlying t = some (.map kt vt)) (hz : zeroP X.P vt = some (vv z)) (hx : aev fr x = some (.map (some i))) (hy : aev fr y = some (kv k)) (s : MapAt kv vv h (some i) l) (hv : pget l k z = some v) (jj : Nat) (hw : vv v = w) (hp : ∀ x, plain (vv x) = true)
    (kk : WD X n wm rd ops ((mm, i, jj, EntC kv vv l k z) :: sf.1, sf.2) (mm + 1) h ol (Tr.set fr d w) QQ) : WD X n wm rd ops sf mm h (⟨some d, .lookup t x y false, ty, p, af, g⟩ :: ol) fr QQ := by
  have hil := s.lt rfl
  have hdd : ∀ d', (some d : Option Tmp) = some d' → d' < n := fun d' e => by cases e; rwa [Nat.blt_eq] at hd
  have step : ∀ h0 l0, MapAt kv vv h0 (some i) l0 → pget l0 k z = some v → dstep X (fun _ => true) (fun _ => none) n wm none false ops.toList ⟨some d, .lookup t x y false, ty, p, af, g⟩ fr h0 = some (none, w, h0) := by
    intro h0 l0 s0 v0
    have ha := av_lkpx (d := some d) (ty := ty) (p := p) (af := af) (g := g) K hu hz hx hy s0 v0 hw
    unfold dstep
    dsimp only
    have e : (Nat.blt d n && allowed none d) = true := by rw [hd]; rfl
    rw [e, hg.1, hg.2, ha]; rfl
  have real : ∀ h0 l0, MapAt kv vv h0 (some i) l0 → pget l0 k z = some v → StepOK X.P wm rd ops ⟨some d, .lookup t x y false, ty, p, af, g⟩ (fun _ => False) fr h0 w h0 := fun h0 l0 s0 v0 => by
    have := dstep_real (rd := rd) (none_ok X) none_keep (step h0 l0 s0 v0)
    rw [MOf_none] at this; exact this
  refine WD.consP (t := none) (v := w) (some (i, jj, EntC kv vv l k z)) (fun hw => ⟨?_, ?_, fun x e => by cases e⟩) hdd (fun q => by cases q) (fun _ e => by cases e) (fun x0 j0 C e => ?_) kk
  · rw [MOf_none]; exact real h l s hv
  · rw [MOf_none]; exact ⟨Nat.le_refl _, fun _ _ _ => rfl, fun _ _ x => x, fun _ _ x => x⟩
  · cases e
    rcases s.mem with ⟨q, _⟩ | ⟨i', bs, clk, q, h1, h2, _⟩
    · cases q
    · cases q
      refine ⟨rfl, rfl, hil, by rw [h1]; exact Indep.map (mkEs_plain hp), real h l s hv, fun A hA => ?_⟩
      obtain ⟨bs', clk', rfl, hb'⟩ := hA
      refine ⟨Indep.map (mkEs_plain hp), ?_⟩
      have hat : (h.put i (.map (mkEs kv vv (ment l k z) bs') clk')).at i = .map (mkEs kv vv (ment l k z) bs') clk' := at_put_same hil _
      have hv' : pget (ment l k z) k z = some v := by
        rw [← hv]; unfold pget; rw [mget_ment, if_pos rfl]; rfl
      have ha := av_lkpy (d := some d) (ty := ty) (p := p) (af := af) (g := g) K hu hz hx hy hat hb' hv' hw
      have hs : dstep X (fun _ => true) (fun _ => none) n wm none false ops.toList ⟨some d, .lookup t x y false, ty, p, af, g⟩ fr (h.put i (.map (mkEs kv vv (ment l k z) bs') clk')) = some (none, w, h.put i (.map (mkEs kv vv (ment l k z) bs') clk')) := by
        unfold dstep
        dsimp only
        have e : (Nat.blt d n && allowed none d) = true := by rw [hd]; rfl
        rw [e, hg.1, hg.2, ha]; rfl
      have := dstep_real (rd := rd) (none_ok X) none_keep hs
      rw [MOf_none] at this; exact this
theorem WD.entB {t : TypeId} {x y : Operand} {k : κ} {z : ν} {i i0 : Nat} (hg : GuardOn ops ⟨some d, .mapEntry t x y, ty, p, af, g⟩ fr) (hd : Nat.blt d n = true) (K : KeyT X.P kt kv) (hu : X.P.underlying t = some (.map kt vt)) (hzz : zeroP X.P vt = some (vv z)) (hw : wm ≤ lo) (hx : aev fr x = some (.map (some i))) (hy : aev fr y = some (kv k)) (s : MapO kv vv lo h (some i) l)
    (kk : ∀ h' (b : Nat), Up lo (fun j => some i = some j) h h' → MapO kv vv lo h' (some i) (ment l k z) → MapE kv vv lo h' (some i) (ment l k z) k b → WD X n wm rd ops sf (mm + 1) h' ol (Tr.set fr d (.tuple [vv ((mget l k).getD z), .int .i64 (b : Nat)].toArray)) QQ) (hc : cmpBut ops.toList mm i0 = true) (hm : (i0, i, mm, EntC kv vv l k z) ∈ sf.1) : WD X n wm rd ops sf mm h (⟨some d, .mapEntry t x y, ty, p, af, g⟩ :: ol) fr QQ := by
  obtain ⟨h', b, ⟨E, ha, hE, hT⟩, u, ho, he⟩ := ent_sv (d := some d) (ty := ty) (p := p) (af := af) (g := g) K hu hzz hw hx rfl hy s
  refine WD.step (pur := fun _ => true) (t := E.tgt) (none_ok X) none_keep (fun d' e => by cases e; rwa [Nat.blt_eq] at hd) ?_ (fun x0 hx0 => ?_) (kk h' b u ho he)
  · unfold dstep
    dsimp only
    have e : (Nat.blt d n && allowed none d) = true := by rw [hd]; rfl
    rw [e, hg.1, hg.2, ha]
    dsimp only [Bool.not_true, cond_false, cond_true]
    rw [hE]; rfl
  · have hC : EntC kv vv l k z (h'.at i) := by
      rcases ho.at_.mem with ⟨q, _⟩ | ⟨i', bs, clk, q, h1, h2, _⟩
      · cases q
      · cases q; exact ⟨bs, clk, h1, h2⟩
    by_cases hxi : x0 = i
    · subst hxi; exact Oth.but hc hm hC
    · exfalso
      have h1 := ent_tgt (d := some d) (ty := ty) (p := p) (af := af) (g := g) hx hy ha hx0
      exact hxi h1
end
end Go.Abs
end
end
section
namespace Go.Proofs.Ytekpjgmhkkjhgaa
structure WeighCell where
  name : Int
  root : Bool
  from_ : Int
  has : Int
  out : Int
  use : Bool
  deriving DecidableEq, Inhabited
structure WeighNote where
  kind : Int
  to_ : Int
  name : Int
  via : Int
  w : Int
  deriving DecidableEq, Inhabited
structure WeighWorld where
  cells : (List (List WeighCell))
  notes : (List WeighNote)
  names : Int
  freed : (List Int)
  deriving DecidableEq, Inhabited
structure WeighSum where
  at_ : Int
  name : Int
  out : Int
  held : Int
  deriving DecidableEq, Inhabited
structure Arr2Int where
  e0 : Int
  e1 : Int
  deriving DecidableEq, Inhabited
structure Store where
  machines : Int
  names : Int
  cells : (List (Arr2Int × WeighCell))
  notes : (List WeighNote)
  freed : (List Int)
  deriving DecidableEq, Inhabited
def eqWeighCell (x y : WeighCell) : Bool := [x.name == y.name, x.root == y.root, x.from_ == y.from_, x.has == y.has, x.out == y.out, x.use == y.use].all id
def eqWeighNote (x y : WeighNote) : Bool := [x.kind == y.kind, x.to_ == y.to_, x.name == y.name, x.via == y.via, x.w == y.w].all id
def eqWeighSum (x y : WeighSum) : Bool := [x.at_ == y.at_, x.name == y.name, x.out == y.out, x.held == y.held].all id
def eqArr2Int (x y : Arr2Int) : Bool := [x.e0 == y.e0, x.e1 == y.e1].all id
def f14L : Option Bool := some true
end Go.Proofs.Ytekpjgmhkkjhgaa
end
section
set_option maxRecDepth 100000
noncomputable section
namespace Go.Proofs.Ytekpjgmhkkjhgaa
open Go.Abs Go.Lf
def rWeighCell : Rdr WeighCell where
  sz := 6
  pos := by decide
  Par := Unit
  dflt := ()
  sh := fun _ x => [.int .i64 x.name, .bool x.root, .int .i64 x.from_, .int .i64 x.has, .int .i64 x.out, .bool x.use]
  len := fun _ _ => rfl
  one := fun _ _ => rfl
  F := fun _ _ _ _ => True
  mono := fun _ x => x
  up := fun _ x => x
def rWeighNote : Rdr WeighNote where
  sz := 5
  pos := by decide
  Par := Unit
  dflt := ()
  sh := fun _ x => [.int .i64 x.kind, .int .i64 x.to_, .int .i64 x.name, .int .i64 x.via, .int .i64 x.w]
  len := fun _ _ => rfl
  one := fun _ _ => rfl
  F := fun _ _ _ _ => True
  mono := fun _ x => x
  up := fun _ x => x
def rWeighWorld : Rdr WeighWorld where
  sz := 4
  pos := by decide
  Par := (Option Addr × Nat) × (Option Addr × Nat) × (Option Addr × Nat)
  dflt := ((none, 0), (none, 0), (none, 0))
  sh := fun p x => [.slice p.1.1 x.cells.length p.1.2, .slice p.2.1.1 x.notes.length p.2.1.2, .int .i64 x.names, .slice p.2.2.1 x.freed.length p.2.2.2]
  len := fun _ _ => rfl
  one := fun _ _ => rfl
  F := fun wm h p x => Sl (rSl rWeighCell) wm h p.1.1 p.1.2 x.cells ∧ Sl rWeighNote wm h p.2.1.1 p.2.1.2 x.notes ∧ Sl (rInt .i64) wm h p.2.2.1 p.2.2.2 x.freed
  mono := fun f ⟨y0, y1, y2⟩ => ⟨y0.mono f, y1.mono f, y2.mono f⟩
  up := fun f ⟨y0, y1, y2⟩ => ⟨y0.up f, y1.up f, y2.up f⟩
def rWeighSum : Rdr WeighSum where
  sz := 4
  pos := by decide
  Par := Unit
  dflt := ()
  sh := fun _ x => [.int .i64 x.at_, .int .i64 x.name, .int .i64 x.out, .int .i64 x.held]
  len := fun _ _ => rfl
  one := fun _ _ => rfl
  F := fun _ _ _ _ => True
  mono := fun _ x => x
  up := fun _ x => x
def rArr2Int : Rdr Arr2Int where
  sz := 2
  pos := by decide
  Par := Unit
  dflt := ()
  sh := fun _ x => [.int .i64 x.e0, .int .i64 x.e1]
  len := fun _ _ => rfl
  one := fun _ _ => rfl
  F := fun _ _ _ _ => True
  mono := fun _ x => x
  up := fun _ x => x
def wvArr2Int (x : Arr2Int) : Value := .agg [.int .i64 x.e0, .int .i64 x.e1].toArray
def wvWeighCell (x : WeighCell) : Value := .agg [.int .i64 x.name, .bool x.root, .int .i64 x.from_, .int .i64 x.has, .int .i64 x.out, .bool x.use].toArray
theorem und22 : XX.P.underlying 22 = some (.slice 59) := by kernel_rfl
theorem und23 : XX.P.underlying 23 = some (.slice 58) := by kernel_rfl
theorem und24 : XX.P.underlying 24 = some (.slice 3) := by kernel_rfl
theorem und43 : XX.P.underlying 43 = some (.slice 91) := by kernel_rfl
theorem und59 : XX.P.underlying 59 = some (.slice 61) := by kernel_rfl
theorem und95 : XX.P.underlying 95 = some (.map 113 61) := by kernel_rfl
theorem und110 : XX.P.underlying 110 = some (.map 113 3) := by kernel_rfl
theorem agg3 : isAggP XX.P 3 = some false := by kernel_rfl
theorem agg4 : isAggP XX.P 4 = some false := by kernel_rfl
theorem agg22 : isAggP XX.P 22 = some false := by kernel_rfl
theorem agg23 : isAggP XX.P 23 = some false := by kernel_rfl
theorem agg24 : isAggP XX.P 24 = some false := by kernel_rfl
theorem agg26 : isAggP XX.P 26 = some true := by kernel_rfl
theorem agg56 : isAggP XX.P 56 = some false := by kernel_rfl
theorem agg58 : isAggP XX.P 58 = some true := by kernel_rfl
theorem agg59 : isAggP XX.P 59 = some false := by kernel_rfl
theorem agg61 : isAggP XX.P 61 = some true := by kernel_rfl
theorem agg91 : isAggP XX.P 91 = some true := by kernel_rfl
theorem agg94 : isAggP XX.P 94 = some false := by kernel_rfl
theorem agg95 : isAggP XX.P 95 = some false := by kernel_rfl
theorem agg110 : isAggP XX.P 110 = some false := by kernel_rfl
theorem agg113 : isAggP XX.P 113 = some true := by kernel_rfl
theorem size3 : sizeP XX.P 3 = some 1 := by kernel_rfl
theorem size24 : sizeP XX.P 24 = some 1 := by kernel_rfl
theorem size26 : sizeP XX.P 26 = some 4 := by kernel_rfl
theorem size58 : sizeP XX.P 58 = some 5 := by kernel_rfl
theorem size59 : sizeP XX.P 59 = some 1 := by kernel_rfl
theorem size61 : sizeP XX.P 61 = some 6 := by kernel_rfl
theorem size91 : sizeP XX.P 91 = some 4 := by kernel_rfl
theorem size110 : sizeP XX.P 110 = some 1 := by kernel_rfl
theorem size113 : sizeP XX.P 113 = some 2 := by kernel_rfl
theorem fld26_0 : FieldAt XX.P 26 0 0 := FieldAt.of (by kernel_rfl)
theorem fld26_1 : FieldAt XX.P 26 1 1 := FieldAt.of (by kernel_rfl)
theorem fld26_2 : FieldAt XX.P 26 2 2 := FieldAt.of (by kernel_rfl)
theorem fld26_3 : FieldAt XX.P 26 3 3 := FieldAt.of (by kernel_rfl)
theorem fld58_0 : FieldAt XX.P 58 0 0 := FieldAt.of (by kernel_rfl)
theorem fld58_1 : FieldAt XX.P 58 1 1 := FieldAt.of (by kernel_rfl)
theorem fld58_2 : FieldAt XX.P 58 2 2 := FieldAt.of (by kernel_rfl)
theorem fld58_3 : FieldAt XX.P 58 3 3 := FieldAt.of (by kernel_rfl)
theorem fld58_4 : FieldAt XX.P 58 4 4 := FieldAt.of (by kernel_rfl)
theorem fld61_0 : FieldAt XX.P 61 0 0 := FieldAt.of (by kernel_rfl)
theorem fld61_1 : FieldAt XX.P 61 1 1 := FieldAt.of (by kernel_rfl)
theorem fld61_2 : FieldAt XX.P 61 2 2 := FieldAt.of (by kernel_rfl)
theorem fld61_3 : FieldAt XX.P 61 3 3 := FieldAt.of (by kernel_rfl)
theorem fld61_4 : FieldAt XX.P 61 4 4 := FieldAt.of (by kernel_rfl)
theorem fld61_5 : FieldAt XX.P 61 5 5 := FieldAt.of (by kernel_rfl)
theorem fld91_2 : FieldAt XX.P 91 2 2 := FieldAt.of (by kernel_rfl)
theorem fld91_3 : FieldAt XX.P 91 3 3 := FieldAt.of (by kernel_rfl)
theorem fld97_0 : FieldAt XX.P 97 0 0 := FieldAt.of (by kernel_rfl)
theorem fld97_1 : FieldAt XX.P 97 1 1 := FieldAt.of (by kernel_rfl)
theorem fld97_2 : FieldAt XX.P 97 2 2 := FieldAt.of (by kernel_rfl)
theorem fld97_3 : FieldAt XX.P 97 3 3 := FieldAt.of (by kernel_rfl)
theorem fld97_4 : FieldAt XX.P 97 4 4 := FieldAt.of (by kernel_rfl)
theorem zero3 : zeroP XX.P 3 = some (.int .i64 0) := by kernel_rfl
theorem zero24 : zeroP XX.P 24 = some (.slice none 0 0) := by kernel_rfl
theorem zero58 : zeroP XX.P 58 = some (.agg #[.int .i64 0, .int .i64 0, .int .i64 0, .int .i64 0, .int .i64 0]) := by kernel_rfl
theorem zero61 : zeroP XX.P 61 = some (.agg #[.int .i64 0, .bool false, .int .i64 0, .int .i64 0, .int .i64 0, .bool false]) := by kernel_rfl
theorem zero91 : zeroP XX.P 91 = some (.agg #[.int .i64 0, .int .i64 0, .int .i64 0, .int .i64 0]) := by kernel_rfl
theorem zero97 : zeroP XX.P 97 = some (.agg #[.int .i64 0, .int .i64 0, .map none, .slice none 0 0, .slice none 0 0]) := by kernel_rfl
theorem zero110 : zeroP XX.P 110 = some (.map none) := by kernel_rfl
theorem zero113 : zeroP XX.P 113 = some (.agg #[.int .i64 0, .int .i64 0]) := by kernel_rfl
theorem bld91 : BuildAt XX.P 91 [.int .i64 0, .int .i64 0, .int .i64 0, .int .i64 0] [(0, 1), (1, 1), (2, 1), (3, 1)] := ⟨_, _, zero91, rfl, Try.underlying91, by kernel_rfl⟩
theorem bld97 : BuildAt XX.P 97 [.int .i64 0, .int .i64 0, .map none, .slice none 0 0, .slice none 0 0] [(0, 1), (1, 1), (2, 1), (3, 1), (4, 1)] := ⟨_, _, zero97, rfl, Try.underlying97, by kernel_rfl⟩
theorem bld113 : BuildAr XX.P 113 [.int .i64 0, .int .i64 0] 1 := ⟨_, _, _, zero113, rfl, Try.underlying113, by kernel_rfl⟩
theorem app23_23 : AppAt XX.P #[23, 23] 5 40 := ⟨58, .agg #[.int .i64 0, .int .i64 0, .int .i64 0, .int .i64 0, .int .i64 0], by kernel_rfl⟩
theorem app24_24 : AppAt XX.P #[24, 24] 1 8 := ⟨3, .int .i64 0, by kernel_rfl⟩
theorem app43_43 : AppAt XX.P #[43, 43] 4 32 := ⟨91, .agg #[.int .i64 0, .int .i64 0, .int .i64 0, .int .i64 0], by kernel_rfl⟩
theorem eqs91 (x y : WeighSum) : EqOf XX.P 91 (rWeighSum.sh () x) (rWeighSum.sh () y) (eqWeighSum x y) :=
  ⟨by kernel_rfl, eq_struct (d := 9999) (bs := [x.at_ == y.at_, x.name == y.name, x.out == y.out, x.held == y.held]) Try.underlying91 (by kernel_rfl) ⟨⟨by decide, _, _, part_cell (by kernel_rfl) rfl, part_cell (by kernel_rfl) rfl, eq_int (by kernel_rfl)⟩, ⟨by decide, _, _, part_cell (by kernel_rfl) rfl, part_cell (by kernel_rfl) rfl, eq_int (by kernel_rfl)⟩, ⟨by decide, _, _, part_cell (by kernel_rfl) rfl, part_cell (by kernel_rfl) rfl, eq_int (by kernel_rfl)⟩, ⟨by decide, _, _, part_cell (by kernel_rfl) rfl, part_cell (by kernel_rfl) rfl, eq_int (by kernel_rfl)⟩, trivial⟩⟩
theorem key113 : KeyT XX.P 113 wvArr2Int := KeyT.arr2 (et := 3) (by kernel_rfl) (by kernel_rfl) (by kernel_rfl) (fun x => x.e0) (fun x => x.e1) (fun _ => rfl) (fun x y => by cases x; cases y; simp)
theorem has13 : (XX.fns.get 13).isSome = true := by kernel_rfl
theorem has14 : (XX.fns.get 14).isSome = true := by kernel_rfl
theorem has20 : (XX.fns.get 20).isSome = true := by kernel_rfl
theorem has25 : (XX.fns.get 25).isSome = true := by kernel_rfl
theorem has26 : (XX.fns.get 26).isSome = true := by kernel_rfl
theorem has27 : (XX.fns.get 27).isSome = true := by kernel_rfl
theorem has28 : (XX.fns.get 28).isSome = true := by kernel_rfl
theorem has29 : (XX.fns.get 29).isSome = true := by kernel_rfl
theorem has30 : (XX.fns.get 30).isSome = true := by kernel_rfl
theorem has53 : (XX.fns.get 53).isSome = true := by kernel_rfl
theorem has54 : (XX.fns.get 54).isSome = true := by kernel_rfl
theorem has56 : (XX.fns.get 56).isSome = true := by kernel_rfl
theorem has60 : (XX.fns.get 60).isSome = true := by kernel_rfl
theorem has61 : (XX.fns.get 61).isSome = true := by kernel_rfl
theorem has62 : (XX.fns.get 62).isSome = true := by kernel_rfl
theorem has68 : (XX.fns.get 68).isSome = true := by kernel_rfl
theorem has69 : (XX.fns.get 69).isSome = true := by kernel_rfl
theorem has70 : (XX.fns.get 70).isSome = true := by kernel_rfl
theorem has71 : (XX.fns.get 71).isSome = true := by kernel_rfl
theorem has72 : (XX.fns.get 72).isSome = true := by kernel_rfl
theorem has75 : (XX.fns.get 75).isSome = true := by kernel_rfl
theorem has86 : (XX.fns.get 86).isSome = true := by kernel_rfl
theorem has87 : (XX.fns.get 87).isSome = true := by kernel_rfl
theorem has88 : (XX.fns.get 88).isSome = true := by kernel_rfl
theorem has89 : (XX.fns.get 89).isSome = true := by kernel_rfl
theorem has90 : (XX.fns.get 90).isSome = true := by kernel_rfl
theorem has91 : (XX.fns.get 91).isSome = true := by kernel_rfl
theorem has98 : (XX.fns.get 98).isSome = true := by kernel_rfl
theorem has99 : (XX.fns.get 99).isSome = true := by kernel_rfl
theorem has100 : (XX.fns.get 100).isSome = true := by kernel_rfl
theorem has101 : (XX.fns.get 101).isSome = true := by kernel_rfl
theorem has110 : (XX.fns.get 110).isSome = true := by kernel_rfl
theorem has112 : (XX.fns.get 112).isSome = true := by kernel_rfl
theorem has113 : (XX.fns.get 113).isSome = true := by kernel_rfl
theorem has114 : (XX.fns.get 114).isSome = true := by kernel_rfl
theorem has124 : (XX.fns.get 124).isSome = true := by kernel_rfl
theorem ntmps5 : Try.f5.ntmps = 68 := rfl
theorem ntmps13 : Try.f13.ntmps = 34 := rfl
theorem ntmps20 : Try.f20.ntmps = 24 := rfl
theorem ntmps25 : Try.f25.ntmps = 58 := rfl
theorem ntmps26 : Try.f26.ntmps = 48 := rfl
theorem ntmps27 : Try.f27.ntmps = 65 := rfl
theorem ntmps28 : Try.f28.ntmps = 81 := rfl
theorem ntmps29 : Try.f29.ntmps = 26 := rfl
theorem ntmps30 : Try.f30.ntmps = 26 := rfl
theorem ntmps53 : Try.f53.ntmps = 15 := rfl
theorem ntmps54 : Try.f54.ntmps = 148 := rfl
theorem ntmps56 : Try.f56.ntmps = 48 := rfl
theorem ntmps60 : Try.f60.ntmps = 132 := rfl
theorem ntmps61 : Try.f61.ntmps = 18 := rfl
theorem ntmps62 : Try.f62.ntmps = 85 := rfl
theorem ntmps68 : Try.f68.ntmps = 92 := rfl
theorem ntmps69 : Try.f69.ntmps = 32 := rfl
theorem ntmps70 : Try.f70.ntmps = 92 := rfl
theorem ntmps71 : Try.f71.ntmps = 4 := rfl
theorem ntmps72 : Try.f72.ntmps = 30 := rfl
theorem ntmps75 : Try.f75.ntmps = 9 := rfl
theorem ntmps86 : Try.f86.ntmps = 8 := rfl
theorem ntmps87 : Try.f87.ntmps = 8 := rfl
theorem ntmps88 : Try.f88.ntmps = 60 := rfl
theorem ntmps89 : Try.f89.ntmps = 24 := rfl
theorem ntmps90 : Try.f90.ntmps = 51 := rfl
theorem ntmps91 : Try.f91.ntmps = 64 := rfl
theorem ntmps98 : Try.f98.ntmps = 70 := rfl
theorem ntmps99 : Try.f99.ntmps = 61 := rfl
theorem ntmps100 : Try.f100.ntmps = 40 := rfl
theorem ntmps101 : Try.f101.ntmps = 48 := rfl
theorem ntmps110 : Try.f110.ntmps = 42 := rfl
theorem ntmps112 : Try.f112.ntmps = 19 := rfl
theorem ntmps113 : Try.f113.ntmps = 67 := rfl
theorem ntmps114 : Try.f114.ntmps = 53 := rfl
theorem ntmps124 : Try.f124.ntmps = 15 := rfl
end Go.Proofs.Ytekpjgmhkkjhgaa
end
end
section
set_option linter.unusedVariables false
set_option linter.unusedSimpArgs false
namespace Go.Proofs.Ytekpjgmhkkjhgaa
open Go.Lf
def f53L (p0 : Int) (p1 : Int) (p2 : Int) : Option Bool :=
  some ((decide (p0 ≥ p1)) && (decide (p0 ≤ p2)))
def f61_b0 (p0 : (List Int)) (p1 : Int) : Int → (Int → Option Bool) → Option Bool := fun v7 next10 =>
  (bif decide (v7 < (p0.length : Int)) then (geti p0 v7).bind fun x11 => (bif (x11 == p1) then some true else next10 (w64 (v7 + 1))) else some false)
def f61L (F : Nat) (p0 : (List Int)) (p1 : Int) : Option Bool :=
  loop F (f61_b0 p0 p1) 0
def f72_b0 (p0 : WeighWorld) (p1 : Int) (p2 : Int) : Int → (Int → Option Int) → Option Int := fun v15 next21 =>
  (geti p0.cells p1).bind fun x22 => (bif decide (v15 < (x22.length : Int)) then (geti p0.cells p1).bind fun x27 => (geti x27 v15).bind fun x32 => (bif (x32.name == p2) then some v15 else next21 (w64 (v15 + 1))) else some (-1))
def f72L (F : Nat) (p0 : WeighWorld) (p1 : Int) (p2 : Int) : Option Int :=
  loop F (f72_b0 p0 p1 p2) 0
def f100_j0 (v17 : Int) (next23 : (Int × Int → Option Int)) : Int → Option Int := fun v29 =>
  next23 (v29, w64 (v17 + 1))
def f100_b0 (p0 : WeighWorld) (p1 : Int) (p2 : Int) : Int × Int → (Int × Int → Option Int) → Option Int := fun (v15, v17) next23 =>
  (bif decide (v17 < (p0.notes.length : Int)) then (geti p0.notes v17).bind fun x36 => (bif (((x36.kind == 3) && (x36.to_ == p1)) && (x36.name == p2)) then (f100_j0 v17 next23) (w64 (v15 + 1)) else (f100_j0 v17 next23) v15) else some v15)
def f100L (F : Nat) (p0 : WeighWorld) (p1 : Int) (p2 : Int) : Option Int :=
  loop F (f100_b0 p0 p1 p2) (0, 0)
def f69_j0 : Int → Option Int := fun v14 =>
  some v14
def f69L (F : Nat) (p0 : WeighWorld) (p1 : Int) (p2 : Int) : Option Int :=
  (f100L F p0 p1 p2).bind fun x10 => (f72L F p0 p1 p2).bind fun x11 => (bif decide (x11 ≥ 0) then (geti p0.cells p1).bind fun x16 => (geti x16 x11).bind fun x21 => (f69_j0) (w64 ((w64 (16 * x10)) + x21.out)) else (f69_j0) (w64 (16 * x10)))
def f30_b0 (p0 : (List Int)) (p1 : (List Int)) : Int → (Int → Option Bool) → Option Bool := fun v9 next13 =>
  (bif decide (v9 < (p0.length : Int)) then (geti p0 v9).bind fun x14 => (geti p1 v9).bind fun x17 => (bif (x14 != x17) then some false else next13 (w64 (v9 + 1))) else some true)
def f30L (F : Nat) (p0 : (List Int)) (p1 : (List Int)) : Option Bool :=
  (bif ((p0.length : Int) != (p1.length : Int)) then some false else loop F (f30_b0 p0 p1) 0)
def f112_b0 (p0 : (List Int)) (p1 : Int) : Int → (Int → Option Int) → Option Int := fun v8 next11 =>
  (bif decide (v8 < (p0.length : Int)) then (geti p0 v8).bind fun x12 => (bif (p1 == x12) then some v8 else next11 (w64 (v8 + 1))) else some (-1))
def f112L (F : Nat) (p0 : (List Int)) (p1 : Int) : Option Int :=
  loop F (f112_b0 p0 p1) 0
def f75L (F : Nat) (p0 : (List Int)) (p1 : Int) : Option Bool :=
  (f112L F p0 p1).bind fun x3 => some (decide (x3 ≥ 0))
def f98L (F : Nat) (p0 : WeighWorld) (p1 : Int) (p2 : WeighCell) : Option Bool :=
  (f53L p2.name 0 (w64 (p0.names - 1))).bind fun x14 => (gd (!(!x14)) (f53L p2.out (-16) 1000000) default).bind fun x15 => (gd (!(((!x14) || (!x15)) || ((!p2.use) && (p2.out == 0)))) (f61L F p0.freed p2.name) default).bind fun x16 => (bif ((((!x14) || (!x15)) || ((!p2.use) && (p2.out == 0))) || x16) then some false else (bif (p2.root || (p2.from_ == (-1))) then some ((p2.from_ == (-1)) && (p2.has == 0)) else (f53L p2.from_ 0 (w64 ((p0.cells.length : Int) - 1))).bind fun x17 => (gd (x17 && (p2.from_ != p1)) (f53L p2.has 1 1000000) default).bind fun x18 => some ((x17 && (p2.from_ != p1)) && x18)))
def f99L (F : Nat) (p0 : WeighWorld) (p1 : WeighNote) : Option Bool :=
  (f53L p1.to_ 0 (w64 ((p0.cells.length : Int) - 1))).bind fun x14 => (gd (!(!x14)) (f53L p1.name 0 (w64 (p0.names - 1))) default).bind fun x15 => (gd (!((!x14) || (!x15))) (f61L F p0.freed p1.name) default).bind fun x16 => (gd (!(((!x14) || (!x15)) || x16)) (f53L p1.w 1 1000000) default).bind fun x17 => (bif ((((!x14) || (!x15)) || x16) || (!x17)) then some false else (bif (p1.kind == 1) then (f53L p1.via 0 (w64 ((p0.cells.length : Int) - 1))).bind fun x18 => some x18 else (bif (p1.kind == 2) then some (p1.via == 0) else (bif (p1.kind == 3) then some ((p1.via == 0) && (p1.w == 16)) else some false))))
def f101_b0 (F : Nat) (p0 : WeighWorld) (p2 : Int) (p3 : Int) : Int × Int → (Int × Int → Option Bool) → Option Bool := fun (v12, v17) next23 =>
  (bif decide (v17 ≤ (p0.cells.length : Int)) then (bif (v12 == p2) then some true else (f72L F p0 v12 p3).bind fun x24 => (gd (!(decide (x24 < 0))) (geti p0.cells v12) default).bind fun x25 => (gd (!(decide (x24 < 0))) (geti x25 x24) default).bind fun x30 => (bif ((decide (x24 < 0)) || (decide (x30.from_ < 0))) then some false else (geti p0.cells v12).bind fun x33 => (geti x33 x24).bind fun x38 => next23 (x38.from_, w64 (v17 + 1)))) else some false)
def f101L (F : Nat) (p0 : WeighWorld) (p1 : Int) (p2 : Int) (p3 : Int) : Option Bool :=
  loop F (f101_b0 F p0 p2 p3) (p1, 0)
def f13_b0 (p0 : WeighWorld) : Int → (Int → Option Bool) → Option Bool := fun v13 next19 =>
  (bif decide (v13 < (p0.cells.length : Int)) then (geti p0.cells v13).bind fun x20 => (bif decide ((x20.length : Int) > 30) then some true else next19 (w64 (v13 + 1))) else some false)
def f13L (F : Nat) (p0 : WeighWorld) : Option Bool :=
  (bif (((decide ((p0.cells.length : Int) > 10)) || (decide ((p0.notes.length : Int) > 100))) || (decide ((p0.freed.length : Int) > 30))) then some true else loop F (f13_b0 p0) 0)
def f60_b2 (F : Nat) (p0 : WeighWorld) (v35 : Int) (next41 : (Int → Option Bool)) (x42 : (List WeighCell)) : Int → (Int → Option Bool) → Option Bool := fun v52 next59 =>
  (bif decide (v52 < (x42.length : Int)) then (geti x42 v52).bind fun x60 => (f98L F p0 v35 x60).bind fun x63 => (gd ((!(!x63)) && (decide (v52 > 0))) (geti x42 v52) default).bind fun x64 => (gd ((!(!x63)) && (decide (v52 > 0))) (geti x42 (w64 (v52 - 1))) default).bind fun x67 => (bif ((!x63) || ((decide (v52 > 0)) && (decide (x64.name ≤ x67.name)))) then some false else next59 (w64 (v52 + 1))) else next41 (w64 (v35 + 1)))
def f60_b3 (F : Nat) (p0 : WeighWorld) : Int → (Int → Option Bool) → Option Bool := fun v73 next79 =>
  (bif decide (v73 < (p0.notes.length : Int)) then (geti p0.notes v73).bind fun x80 => (f99L F p0 x80).bind fun x83 => (bif (!x83) then some false else next79 (w64 (v73 + 1))) else some true)
def f60_b1 (F : Nat) (p0 : WeighWorld) : Int → (Int → Option Bool) → Option Bool := fun v35 next41 =>
  (bif decide (v35 < (p0.cells.length : Int)) then (geti p0.cells v35).bind fun x42 => (bif decide ((x42.length : Int) > p0.names) then some false else loop F (f60_b2 F p0 v35 next41 x42) 0) else loop F (f60_b3 F p0) 0)
def f60_b0 (F : Nat) (p0 : WeighWorld) : Int → (Int → Option Bool) → Option Bool := fun v15 next21 =>
  (bif decide (v15 < (p0.freed.length : Int)) then (geti p0.freed v15).bind fun x22 => (f53L x22 0 (w64 (p0.names - 1))).bind fun x25 => (gd ((!(!x25)) && (decide (v15 > 0))) (geti p0.freed v15) default).bind fun x26 => (gd ((!(!x25)) && (decide (v15 > 0))) (geti p0.freed (w64 (v15 - 1))) default).bind fun x29 => (bif ((!x25) || ((decide (v15 > 0)) && (decide (x26 ≤ x29)))) then some false else next21 (w64 (v15 + 1))) else loop F (f60_b1 F p0) 0)
def f60L (F : Nat) (p0 : WeighWorld) : Option Bool :=
  (f53L (p0.cells.length : Int) 1 6).bind fun x10 => (gd (!(!x10)) (f53L p0.names 0 12) default).bind fun x11 => (bif ((((!x10) || (!x11)) || (decide ((p0.notes.length : Int) > 80))) || (decide ((p0.freed.length : Int) > p0.names))) then some false else loop F (f60_b0 F p0) 0)
def f70_j0 (v17 : Int) (next23 : (Int × Int → Option Int)) : Int → Option Int := fun v29 =>
  next23 (v29, w64 (v17 + 1))
def f70_j1 (v60 : Int) (next66 : (Int × Int → Option Int)) : Int → Option Int := fun v72 =>
  next66 (v72, w64 (v60 + 1))
def f70_b1 (p0 : WeighWorld) (p1 : Int) (p2 : Int) : Int × Int → (Int × Int → Option Int) → Option Int := fun (v58, v60) next66 =>
  (bif decide (v60 < (p0.notes.length : Int)) then (geti p0.notes v60).bind fun x79 => (bif ((x79.name == p2) && (((x79.kind == 1) && (x79.via == p1)) || ((x79.kind == 2) && (x79.to_ == p1)))) then (f70_j1 v60 next66) (w64 (v58 + x79.w)) else (f70_j1 v60 next66) v58) else some v58)
def f70_b0 (F : Nat) (p0 : WeighWorld) (p1 : Int) (p2 : Int) : Int × Int → (Int × Int → Option Int) → Option Int := fun (v15, v17) next23 =>
  (bif decide (v17 < (p0.cells.length : Int)) then (f72L F p0 v17 p2).bind fun x36 => (gd (decide (x36 ≥ 0)) (geti p0.cells v17) default).bind fun x37 => (gd (decide (x36 ≥ 0)) (geti x37 x36) default).bind fun x42 => (bif ((decide (x36 ≥ 0)) && (x42.from_ == p1)) then (geti p0.cells v17).bind fun x45 => (geti x45 x36).bind fun x50 => (f70_j0 v17 next23) (w64 (v15 + x50.has)) else (f70_j0 v17 next23) v15) else loop F (f70_b1 p0 p1 p2) (v15, 0))
def f70L (F : Nat) (p0 : WeighWorld) (p1 : Int) (p2 : Int) : Option Int :=
  loop F (f70_b0 F p0 p1 p2) (0, 0)
def f62_j1 (F : Nat) (p0 : WeighWorld) (p1 : Int) (v18 : Int) (next24 : (Int × Int × Int → Option Bool)) : Int × Int → Option Bool := fun (v44, v46) =>
  (f69L F p0 v18 p1).bind fun x53 => (f70L F p0 v18 p1).bind fun x54 => (gd (!(x53 != x54)) (f69L F p0 v18 p1) default).bind fun x55 => (bif ((x53 != x54) || (decide (x55 > 1000000))) then some false else next24 (v44, v46, w64 (v18 + 1)))
def f62_j0 (F : Nat) (p0 : WeighWorld) (p1 : Int) (v14 : Int) (v16 : Int) (v18 : Int) (next24 : (Int × Int × Int → Option Bool)) : Int → Option Bool := fun v34 =>
  (bif decide (v34 > 0) then (f62_j1 F p0 p1 v18 next24) (w64 (v14 + v34), v18) else (f62_j1 F p0 p1 v18 next24) (v14, v16))
def f62_b1 (F : Nat) (p0 : WeighWorld) (p1 : Int) (v16 : Int) : Int → (Int → Option Bool) → Option Bool := fun v69 next75 =>
  (bif decide (v69 < (p0.cells.length : Int)) then (f72L F p0 v69 p1).bind fun x76 => (gd (decide (x76 ≥ 0)) (f101L F p0 v69 v16 p1) default).bind fun x77 => (bif ((decide (x76 ≥ 0)) && (!x77)) then some false else next75 (w64 (v69 + 1))) else some true)
def f62_b0 (F : Nat) (p0 : WeighWorld) (p1 : Int) : Int × Int × Int → (Int × Int × Int → Option Bool) → Option Bool := fun (v14, v16, v18) next24 =>
  (bif decide (v18 < (p0.cells.length : Int)) then (f100L F p0 v18 p1).bind fun x25 => (f72L F p0 v18 p1).bind fun x26 => (gd (decide (x26 ≥ 0)) (geti p0.cells v18) default).bind fun x56 => (gd (decide (x26 ≥ 0)) (geti x56 x26) default).bind fun x61 => (bif ((decide (x26 ≥ 0)) && x61.root) then (f62_j0 F p0 p1 v14 v16 v18 next24) (w64 (x25 + 1)) else (f62_j0 F p0 p1 v14 v16 v18 next24) x25) else (bif (v14 != 1) then some false else loop F (f62_b1 F p0 p1 v16) 0))
def f62L (F : Nat) (p0 : WeighWorld) (p1 : Int) : Option Bool :=
  loop F (f62_b0 F p0 p1) (0, 0, 0)
def f20_b0 (F : Nat) (p0 : WeighWorld) : Int → (Int → Option Bool) → Option Bool := fun v14 next20 =>
  (bif decide (v14 < p0.names) then (f61L F p0.freed v14).bind fun x21 => (gd (!x21) (f62L F p0 v14) default).bind fun x22 => (bif ((!x21) && (!x22)) then some false else next20 (w64 (v14 + 1))) else some true)
def f20L (F : Nat) (p0 : WeighWorld) : Option Bool :=
  (f60L F p0).bind fun x10 => (bif (!x10) then some false else loop F (f20_b0 F p0) 0)
def f26_j0 (v34 : Int) (next41 : ((List WeighSum) × Int → Option ((List WeighSum) × Int))) : (List WeighSum) → Option ((List WeighSum) × Int) := fun v45 =>
  next41 (v45, w64 (v34 + 1))
def f26_b1 (F : Nat) (p0 : WeighWorld) (v18 : Int) (next25 : ((List WeighSum) × Int → Option ((List WeighSum) × Int))) : (List WeighSum) × Int → ((List WeighSum) × Int → Option ((List WeighSum) × Int)) → Option ((List WeighSum) × Int) := fun (v29, v34) next41 =>
  (bif decide (v34 < p0.names) then (f69L F p0 v18 v34).bind fun x56 => (f70L F p0 v18 v34).bind fun x57 => (bif ((x56 != 0) || (x57 != 0)) then (app 32 v29 [(WeighSum.mk v18 v34 x56 x57)]).bind fun z69 => (f26_j0 v34 next41) z69 else (f26_j0 v34 next41) v29) else next25 (v29, w64 (v18 + 1)))
def f26_b0 (F : Nat) (p0 : WeighWorld) : (List WeighSum) × Int → ((List WeighSum) × Int → Option ((List WeighSum) × Int)) → Option ((List WeighSum) × Int) := fun (v14, v18) next25 =>
  (bif decide (v18 < (p0.cells.length : Int)) then loop F (f26_b1 F p0 v18 next25) (v14, 0) else some (v14, 0))
def f26L (F : Nat) (p0 : WeighWorld) : Option ((List WeighSum) × Int) :=
  (f20L F p0).bind fun x10 => (bif (!x10) then some ([], 2) else loop F (f26_b0 F p0) ([], 0))
end Go.Proofs.Ytekpjgmhkkjhgaa
end
