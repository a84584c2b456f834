/- Names Part 9 of the proof. -/
import GoSem.Core.View
import Derived.Test.YtbnepjakjmnadaaGreatNa8
set_option linter.all false
set_option maxHeartbeats 2000000
section
namespace Go.Lf
def loop {α β : Type} : Nat → (α → (α → Option β) → Option β) → α → Option β
  | 0, _, _ => none
  | F + 1, body, a => body a (loop F body)
theorem loop_succ {α β : Type} (F : Nat) (body : α → (α → Option β) → Option β) (a : α) : loop (F + 1) body a = body a (loop F body) := rfl
def geti {α : Type} (l : List α) (k : Int) : Option α := bif decide (0 ≤ k) then l[k.toNat]? else none
theorem geti_nat {α : Type} (l : List α) (k : Nat) : geti l (k : Int) = l[k]? := by simp [geti]
theorem geti_some {α : Type} {l : List α} {k : Int} {x : α} (h : geti l k = some x) : (k.toNat : Int) = k ∧ k.toNat < l.length ∧ l[k.toNat]? = some x := by
  unfold geti at h
  by_cases hk : 0 ≤ k
  · rw [decide_eq_true hk, cond_true] at h
    exact ⟨by omega, (List.getElem?_eq_some_iff.1 h).1, h⟩
  · rw [decide_eq_false hk, cond_false] at h; cases h
def w64 (n : Int) : Int := Go.IntKind.i64.wrap n
theorem w64_id {n : Int} (h1 : -9223372036854775808 ≤ n) (h2 : n ≤ 9223372036854775807) : w64 n = n := by
  unfold w64 Go.IntKind.wrap
  have e1 : (2 ^ IntKind.i64.bits : Int) = 18446744073709551616 := by decide
  have e2 : (2 ^ (IntKind.i64.bits - 1) : Int) = 9223372036854775808 := by decide
  have e3 : IntKind.i64.signed = true := rfl
  rw [e1, e2, e3]
  dsimp only
  split
  · rename_i h; simp at h; omega
  · rename_i h; simp at h; omega
def quoL (a b : Int) : Option Int := bif b == 0 then none else some (w64 (a.tdiv b))
def remL (a b : Int) : Option Int := bif b == 0 then none else some (a.tmod b)
theorem quoL_some {a b c : Int} (h : quoL a b = some c) : b ≠ 0 ∧ c = w64 (a.tdiv b) := by
  unfold quoL at h
  cases e : b == 0 with
  | true => rw [e] at h; cases h
  | false => rw [e] at h; cases h; exact ⟨by simpa using e, rfl⟩
theorem remL_some {a b c : Int} (h : remL a b = some c) : b ≠ 0 ∧ c = a.tmod b := by
  unfold remL at h
  cases e : b == 0 with
  | true => rw [e] at h; cases h
  | false => rw [e] at h; cases h; exact ⟨by simpa using e, rfl⟩
def gd {α : Type} (g : Bool) (m : Option α) (d : α) : Option α := bif g then m else some d
theorem gd_true {α : Type} (m : Option α) (d : α) : gd true m d = m := rfl
def app {α : Type} (by_ : Nat) (xs ys : List α) : Option (List α) := bif Nat.ble ((2 * (xs.length + ys.length) + 1000) * by_) (2 ^ 47) then some (xs ++ ys) else none
theorem app_eq {α : Type} {by_ : Nat} {xs ys : List α} (h : (2 * (xs.length + ys.length) + 1000) * by_ ≤ 2 ^ 47) : app by_ xs ys = some (xs ++ ys) := by
  unfold app; rw [Nat.ble_eq_true_of_le h]; rfl
theorem app_some {α : Type} {by_ : Nat} {xs ys zs : List α} (h : app by_ xs ys = some zs) : zs = xs ++ ys ∧ (2 * (xs.length + ys.length) + 1000) * by_ ≤ 2 ^ 47 := by
  unfold app at h
  cases hb : Nat.ble ((2 * (xs.length + ys.length) + 1000) * by_) (2 ^ 47) <;> rw [hb] at h
  · cases h
  · cases h; exact ⟨rfl, Nat.le_of_ble_eq_true hb⟩
theorem bind_some {α β : Type} {m : Option α} {f : α → Option β} {r : β} (h : m.bind f = some r) : ∃ x, m = some x ∧ f x = some r := Option.bind_eq_some_iff.1 h
theorem gd_some {α β : Type} {g : Bool} {m : Option α} {d : α} {f : α → Option β} {r : β} (h : (gd g m d).bind f = some r) : ∃ x, (g = true → m = some x) ∧ f x = some r := by
  obtain ⟨x, h1, h2⟩ := bind_some h
  refine ⟨x, fun hg => ?_, h2⟩
  subst hg; exact h1
theorem cond_tt {α : Type} {c : Bool} {a b : α} {r : α} (hc : c = true) (h : (bif c then a else b) = r) : a = r := by subst hc; exact h
theorem cond_ff {α : Type} {c : Bool} {a b : α} {r : α} (hc : c = false) (h : (bif c then a else b) = r) : b = r := by subst hc; exact h
def mfind {κ ν : Type} [DecidableEq κ] : List (κ × ν) → κ → Option (Nat × ν)
  | [], _ => none
  | p :: l, k => if p.1 = k then some (0, p.2) else (mfind l k).map fun q => (q.1 + 1, q.2)
def mget {κ ν : Type} [DecidableEq κ] (l : List (κ × ν)) (k : κ) : Option ν := (mfind l k).map (·.2)
def mset {κ ν : Type} [DecidableEq κ] (l : List (κ × ν)) (k : κ) (x : ν) : List (κ × ν) := match mfind l k with
  | some q => l.modify q.1 fun p => (p.1, x)
  | none => l ++ [(k, x)]
def pget {κ ν : Type} [DecidableEq κ] (l : List (κ × ν)) (k : κ) (z : ν) : Option ν := some ((mget l k).getD z)
section
variable {κ ν : Type} [DecidableEq κ]
theorem mfind_some {l : List (κ × ν)} {k : κ} {q : Nat × ν} (h : mfind l k = some q) : l[q.1]? = some (k, q.2) := by
  induction l generalizing q with
  | nil => cases h
  | cons p l ih =>
    unfold mfind at h
    split at h
    · rename_i e; cases h; simp [← e]
    · cases e : mfind l k with
      | none => rw [e] at h; cases h
      | some q' => rw [e] at h; cases h; simpa using ih e
theorem mfind_none {l : List (κ × ν)} {k : κ} : mfind l k = none ↔ ∀ p ∈ l, p.1 ≠ k := by
  induction l with
  | nil => simp [mfind]
  | cons p l ih =>
    unfold mfind
    split
    · rename_i e; simp [e]
    · rename_i e; simp [e, ih]
theorem mfind_append {l l2 : List (κ × ν)} {k : κ} (h : mfind l k = none) : mfind (l ++ l2) k = (mfind l2 k).map fun q => (q.1 + l.length, q.2) := by
  induction l with
  | nil => cases e : mfind l2 k <;> simp [e]
  | cons p l ih =>
    rw [mfind_none] at h
    have h1 : p.1 ≠ k := h p (by simp)
    have h2 : mfind l k = none := mfind_none.2 fun q hq => h q (by simp [hq])
    rw [List.cons_append, mfind, if_neg h1, ih h2]
    cases e : mfind l2 k with
    | none => rfl
    | some q => simp [Nat.add_assoc]
theorem mfind_append_some {l l2 : List (κ × ν)} {k : κ} {q : Nat × ν} (h : mfind l k = some q) : mfind (l ++ l2) k = some q := by
  induction l generalizing q with
  | nil => cases h
  | cons p l ih =>
    rw [List.cons_append]
    unfold mfind at h ⊢
    split
    · rename_i e; rw [if_pos e] at h; exact h
    · rename_i e
      rw [if_neg e] at h
      cases e2 : mfind l k with
      | none => rw [e2] at h; cases h
      | some q' => rw [e2] at h; rw [ih e2]; exact h
theorem mfind_modify {l : List (κ × ν)} {k k' : κ} {q : Nat × ν} {x : ν} (h : mfind l k = some q) : (mfind (l.modify q.1 fun p => (p.1, x)) k').map (·.2) = if k' = k then some x else (mfind l k').map (·.2) := by
  induction l generalizing q with
  | nil => cases h
  | cons p l ih =>
    unfold mfind at h
    split at h
    · rename_i e
      cases h
      simp only [List.modify_zero_cons]
      unfold mfind
      dsimp only
      rw [e]
      by_cases hk : k = k'
      · subst hk; simp
      · rw [if_neg hk, if_neg hk, if_neg (fun z => hk z.symm)]
    · rename_i e
      cases e2 : mfind l k with
      | none => rw [e2] at h; cases h
      | some q' =>
        rw [e2] at h; cases h
        have := ih e2
        simp only [List.modify_succ_cons]
        unfold mfind
        by_cases hp : p.1 = k'
        · rw [if_pos hp, if_pos hp]
          have : ¬ k' = k := fun z => e (hp.trans z)
          rw [if_neg this]
        · rw [if_neg hp, if_neg hp, Option.map_map, Option.map_map]
          exact this
theorem mget_mset (l : List (κ × ν)) (k k' : κ) (x : ν) : mget (mset l k x) k' = if k' = k then some x else mget l k' := by
  unfold mset mget
  cases e : mfind l k with
  | some q => exact mfind_modify e
  | none =>
    dsimp only
    by_cases hk : k' = k
    · subst hk
      rw [if_pos rfl, mfind_append e]; simp [mfind]
    · rw [if_neg hk]
      cases e2 : mfind l k' with
      | some q => rw [mfind_append_some e2]
      | none =>
        rw [mfind_append e2]
        have : mfind [(k, x)] k' = none := by simp [mfind]; exact fun z => hk z.symm
        rw [this]; rfl
end
def lenS (x : Int) : Option Int := bif decide (0 ≤ x) && decide (x ≤ 12) then some ([0, 1, 2, 2, 3, 3, 3, 3, 4, 4, 4, 4, 4].getD x.toNat 0) else none
end Go.Lf
end
section
noncomputable section
namespace Go.Abs
open Go.Lf
structure Fz (wm : Nat) (h h' : H) : Prop where
  size : h.size ≤ h'.size
  keep : ∀ i cs own z, h.at i = .row cs own z → (i < wm ∨ own = false) → h'.at i = .row cs own z
  low : ∀ i, i < wm → i < h.size → h'.at i = h.at i
theorem Fz.refl (wm : Nat) (h : H) : Fz wm h h := ⟨Nat.le_refl _, fun _ _ _ _ e _ => e, fun _ _ _ => rfl⟩
theorem Fz.trans {wm : Nat} {a b c : H} (x : Fz wm a b) (y : Fz wm b c) : Fz wm a c :=
  ⟨Nat.le_trans x.size y.size, fun i cs own z e s => y.keep i cs own z (x.keep i cs own z e s) s, fun i h1 h2 => (y.low i h1 (Nat.lt_of_lt_of_le h2 x.size)).trans (x.low i h1 h2)⟩
structure Up (lo : Nat) (t : Nat → Prop) (h h' : H) : Prop where
  size : h.size ≤ h'.size
  keep : ∀ i, i < h.size → ¬ t i → h'.at i = h.at i
  own : ∀ i, t i → lo ≤ i ∧ (h.at i).own = true
theorem Up.fz {lo wm : Nat} {t : Nat → Prop} {h h' : H} (u : Up lo t h h') (hw : wm ≤ lo) : Fz wm h h' := by
  refine ⟨u.size, fun i cs own z e s => ?_, fun i h1 h2 => u.keep i h2 fun ht => by have := (u.own i ht).1; omega⟩
  rw [u.keep i (live_lt e rfl) ?_, e]
  intro ht
  obtain ⟨h1, h2⟩ := u.own i ht
  rw [e] at h2
  rcases s with s | s
  · omega
  · subst s; cases h2
theorem Up.of_grow {h h' : H} (lo : Nat) (g : Grow h h') : Up lo (fun _ => False) h h' := ⟨g.size, fun i hi _ => g.keep i hi, fun _ e => e.elim⟩
theorem Up.push (lo : Nat) (h : H) (A : AObj) : Up lo (fun _ => False) h (h.push A) := Up.of_grow lo ((Grow.refl h).push A)
theorem Up.put {lo : Nat} {h : H} {b : Nat} {A : AObj} (hl : lo ≤ b) (ho : (h.at b).own = true) : Up lo (fun i => i = b) h (h.put b A) :=
  ⟨Nat.le_refl _, fun i _ hn => at_put_other hn A, fun i e => by subst e; exact ⟨hl, ho⟩⟩
def At (h : H) (b o : Nat) (vs : List Value) : Prop := ∃ cs own z, h.at b = .row cs own z ∧ (cs.drop o).take vs.length = vs ∧ o + vs.length ≤ cs.length
def Stb (wm : Nat) (h : H) (b : Nat) : Prop := b < wm ∨ (h.at b).own = false
theorem At.box {h : H} {b : Nat} {vs : List Value} {own : Bool} {z : Nat} (hb : h.at b = .row vs own z) : At h b 0 vs := ⟨vs, own, z, hb, by simp, by omega⟩
theorem At.fz {wm : Nat} {h h' : H} {b o : Nat} {vs : List Value} (f : Fz wm h h') (s : Stb wm h b) (a : At h b o vs) : At h' b o vs := by
  obtain ⟨cs, own, z, h1, h2, h3⟩ := a
  exact ⟨cs, own, z, f.keep _ _ _ _ h1 (s.imp id fun e => by rw [h1] at e; exact e), h2, h3⟩
theorem At.cell {h : H} {b o j : Nat} {vs : List Value} {v : Value} (a : At h b o vs) (hv : vs[j]? = some v) : ∃ cs own z, h.at b = .row cs own z ∧ cs[o + j]? = some v := by
  obtain ⟨cs, own, z, h1, h2, h3⟩ := a
  refine ⟨cs, own, z, h1, ?_⟩
  have hj := (List.getElem?_eq_some_iff.1 hv).1
  rw [← h2, List.getElem?_take_of_lt hj, List.getElem?_drop] at hv
  exact hv
structure Rdr (α : Type) where
  sz : Nat
  pos : 0 < sz
  Par : Type
  dflt : Par
  sh : Par → α → List Value
  len : ∀ p x, (sh p x).length = sz
  one : ∀ p x, (sh p x).all Value.oneCell' = true
  F : Nat → H → Par → α → Prop
  mono : ∀ {wm h h' p x}, Fz wm h h' → F wm h p x → F wm h' p x
  up : ∀ {wm wm' h p x}, wm ≤ wm' → F wm h p x → F wm' h p x
def Nilish (a : Option Addr) (c : Nat) : Prop := (a = none ∧ c = 0) ∨ (a = some ⟨0, 0, some 0⟩ ∧ c = 0) ∨ ∃ i o, a = some ⟨i, o, none⟩
structure ElAt {α : Type} (e : Rdr α) (wm : Nat) (h : H) (cs : List Value) (o : Nat) (xs : List α) : Prop where
  len : o + xs.length * e.sz ≤ cs.length
  get : ∀ k x, xs[k]? = some x → ∃ q, (cs.drop (o + k * e.sz)).take e.sz = e.sh q x ∧ e.F wm h q x
theorem ElAt.mono {α : Type} {e : Rdr α} {wm : Nat} {h h' : H} {cs : List Value} {o : Nat} {xs : List α} (f : Fz wm h h') (a : ElAt e wm h cs o xs) : ElAt e wm h' cs o xs :=
  ⟨a.len, fun k x hk => let ⟨q, h1, h2⟩ := a.get k x hk; ⟨q, h1, e.mono f h2⟩⟩
theorem ElAt.up {α : Type} {e : Rdr α} {wm wm' : Nat} {h : H} {cs : List Value} {o : Nat} {xs : List α} (f : wm ≤ wm') (a : ElAt e wm h cs o xs) : ElAt e wm' h cs o xs :=
  ⟨a.len, fun k x hk => let ⟨q, h1, h2⟩ := a.get k x hk; ⟨q, h1, e.up f h2⟩⟩
structure Src {α : Type} (e : Rdr α) (wm : Nat) (h : H) (a : Option Addr) (c : Nat) (xs : List α) : Prop where
  max : xs.length ≤ 9223372036854775807
  cap : xs.length ≤ c / 2
  nl : Nilish a c
  mem : xs = [] ∨ ∃ i o cs own z, a = some ⟨i, o, none⟩ ∧ h.at i = .row cs own z ∧ ElAt e wm h cs o xs
structure Sl {α : Type} (e : Rdr α) (wm : Nat) (h : H) (a : Option Addr) (c : Nat) (xs : List α) : Prop where
  max : xs.length ≤ 9223372036854775807
  cap : xs.length ≤ c / 2
  nl : Nilish a c
  mem : xs = [] ∨ ∃ i o cs own z, a = some ⟨i, o, none⟩ ∧ h.at i = .row cs own z ∧ (i < wm ∨ own = false) ∧ ElAt e wm h cs o xs
structure OwnS {α : Type} (e : Rdr α) (wm lo : Nat) (h : H) (a : Option Addr) (c : Nat) (xs : List α) : Prop where
  max : xs.length ≤ 9223372036854775807
  mem : (a = none ∧ c = 0 ∧ xs = []) ∨ ∃ i o cs, a = some ⟨i, o, none⟩ ∧ lo ≤ i ∧ h.at i = .row cs true e.sz ∧ xs.length ≤ c / 2 ∧ o + (c / 2) * e.sz ≤ cs.length ∧ ElAt e wm h cs o xs
variable {α : Type} {e : Rdr α} {wm wm' lo : Nat} {h h' : H} {a : Option Addr} {c : Nat} {xs : List α}
theorem OwnS.nl (s : OwnS e wm lo h a c xs) : Nilish a c := by
  rcases s.mem with ⟨h1, h2, _⟩ | ⟨i, o, cs, h1, _⟩
  · exact .inl ⟨h1, h2⟩
  · exact .inr (.inr ⟨i, o, h1⟩)
theorem OwnS.cap (s : OwnS e wm lo h a c xs) : xs.length ≤ c / 2 := by
  rcases s.mem with ⟨_, _, h3⟩ | ⟨i, o, cs, h1, _, h3, h4, _⟩
  · subst h3; exact Nat.zero_le _
  · exact h4
theorem OwnS.src (s : OwnS e wm lo h a c xs) : Src e wm h a c xs := ⟨s.max, s.cap, s.nl, by
  rcases s.mem with ⟨_, _, h3⟩ | ⟨i, o, cs, h1, _, h3, _, _, h6⟩
  · exact .inl h3
  · exact .inr ⟨i, o, cs, true, _, h1, h3, h6⟩⟩
theorem Sl.mono (f : Fz wm h h') (s : Sl e wm h a c xs) : Sl e wm h' a c xs := ⟨s.max, s.cap, s.nl, s.mem.imp id fun ⟨i, o, cs, own, z, h1, h2, h3, h4⟩ => ⟨i, o, cs, own, z, h1, f.keep _ _ _ _ h2 h3, h3, h4.mono f⟩⟩
theorem Sl.up (f : wm ≤ wm') (s : Sl e wm h a c xs) : Sl e wm' h a c xs := ⟨s.max, s.cap, s.nl, s.mem.imp id fun ⟨i, o, cs, own, z, h1, h2, h3, h4⟩ => ⟨i, o, cs, own, z, h1, h2, h3.imp (fun x => by omega) id, h4.up f⟩⟩
theorem Src.sl (s : Src e wm h a c xs) (hw : wm ≤ h.size) : Sl e h.size h a c xs := ⟨s.max, s.cap, s.nl, s.mem.imp id fun ⟨i, o, cs, own, z, h1, h2, h4⟩ => ⟨i, o, cs, own, z, h1, h2, .inl (live_lt h2 rfl), h4.up hw⟩⟩
theorem Sl.nil : Sl e wm h none 0 ([] : List α) := ⟨by simp, by simp, .inl ⟨rfl, rfl⟩, .inl rfl⟩
theorem OwnS.nil : OwnS e wm lo h none 0 ([] : List α) := ⟨by simp, .inl ⟨rfl, rfl, rfl⟩⟩
def BaseA (a : Option Addr) (i : Nat) : Prop := ∃ o, a = some ⟨i, o, none⟩
theorem Sl.at_ {k : Int} {x : α} (s : Sl e wm h a c xs) (hk : geti xs k = some x) : ∃ i o q, a = some ⟨i, o, none⟩ ∧ At h i (o + k.toNat * e.sz) (e.sh q x) ∧ Stb wm h i ∧ e.F wm h q x := by
  obtain ⟨h1, h2, h3⟩ := geti_some hk
  rcases s.mem with z | ⟨i, o, cs, own, z, q1, q2, q4, q3⟩
  · subst z; simp at h2
  · obtain ⟨q, g1, g2⟩ := q3.get _ _ h3
    refine ⟨i, o, q, q1, ⟨cs, own, z, q2, by rw [e.len]; exact g1, ?_⟩, q4.imp id (fun z => by rw [q2]; exact z), g2⟩
    rw [e.len]
    have := q3.len
    have : (k.toNat + 1) * e.sz ≤ xs.length * e.sz := Nat.mul_le_mul_right _ h2
    rw [Nat.succ_mul] at this
    omega
def rInt (k : IntKind) : Rdr Int where
  sz := 1
  pos := Nat.one_pos
  Par := Unit
  dflt := ()
  sh := fun _ x => [.int k x]
  len := fun _ _ => rfl
  one := fun _ _ => rfl
  F := fun _ _ _ _ => True
  mono := fun _ x => x
  up := fun _ x => x
def rStr : Rdr ByteArray where
  sz := 1
  pos := Nat.one_pos
  Par := Unit
  dflt := ()
  sh := fun _ x => [.string x]
  len := fun _ _ => rfl
  one := fun _ _ => rfl
  F := fun _ _ _ _ => True
  mono := fun _ x => x
  up := fun _ x => x
def rSl {α : Type} (e : Rdr α) : Rdr (List α) where
  sz := 1
  pos := Nat.one_pos
  Par := Option Addr × Nat
  dflt := (none, 0)
  sh := fun p x => [.slice p.1 x.length p.2]
  len := fun _ _ => rfl
  one := fun _ _ => rfl
  F := fun wm h p x => Sl e wm h p.1 p.2 x
  mono := fun f x => x.mono f
  up := fun f x => x.up f
end Go.Abs
end
end
section
noncomputable section
namespace Go.Abs
open Go.Lf
variable {X : Ctx} {n wm : Nat} {rd : Option Nat} {s : Fs} {Q : XX → Fs → Prop}
theorem fhit (fr : Fr) (d : Nat) (v : Value) : Fr.at (Tr.set fr d v) d = v := by rw [at_set, if_pos rfl]
theorem fskip {fr : Fr} {d t : Nat} {v w : Value} (hn : Nat.beq t d = false) (k : Fr.at fr t = v) : Fr.at (Tr.set fr d w) t = v := by
  rw [at_set, if_neg (fun e => by rw [e, Nat.beq_refl] at hn; cases hn)]; exact k
theorem fs2 {fr : Fr} {a b t : Nat} {v x y : Value} (hn : (Nat.beq t a || Nat.beq t b) = false) (k : Fr.at fr t = v) : Fr.at (Tr.set (Tr.set fr b y) a x) t = v := by
  rw [Bool.or_eq_false_iff] at hn; exact fskip hn.1 (fskip hn.2 k)
theorem fs4 {fr : Fr} {a b c d t : Nat} {v x y z w : Value} (hn : ((Nat.beq t a || Nat.beq t b) || (Nat.beq t c || Nat.beq t d)) = false) (k : Fr.at fr t = v) : Fr.at (Tr.set (Tr.set (Tr.set (Tr.set fr d w) c z) b y) a x) t = v := by
  rw [Bool.or_eq_false_iff] at hn; exact fs2 hn.1 (fs2 hn.2 k)
theorem fs8 {fr : Fr} {a b c d a' b' c' d' t : Nat} {v x y z w x' y' z' w' : Value} (hn : (((Nat.beq t a || Nat.beq t b) || (Nat.beq t c || Nat.beq t d)) || ((Nat.beq t a' || Nat.beq t b') || (Nat.beq t c' || Nat.beq t d'))) = false) (k : Fr.at fr t = v) :
    Fr.at (Tr.set (Tr.set (Tr.set (Tr.set (Tr.set (Tr.set (Tr.set (Tr.set fr d' w') c' z') b' y') a' x') d w) c z) b y) a x) t = v := by
  rw [Bool.or_eq_false_iff] at hn; exact fs4 hn.1 (fs4 hn.2 k)
theorem fh {fr : Fr} {d : Nat} {v : Value} : Fr.at (Tr.set fr d v) d = v := fhit _ _ _
theorem evT {fr : Fr} {t : Nat} {v : Value} (h : fr.at t = v) (ha : isAny v = false) : aev fr (.tmp t) = some v := by rw [aev_tmp, h, ha]; rfl
theorem evG {fr : Fr} {t : Nat} {c : Bool} {v : Value} (h : fr.at t = cond c v undef) (ha : isAny v = false) : c = true → aev fr (.tmp t) = some v := fun hc => by
  rw [aev_tmp, h, hc, cond_true, ha]; rfl
theorem evC {fr : Fr} {v : Value} (h : plain v = true) : aev fr (.const v) = some v := by rw [aev_const, h]; rfl
theorem evGU {fr : Fr} {t : Nat} {c : Bool} {b : Bool} (h : fr.at t = cond c (.bool b) undef) : aev fr (.tmp t) = some (cond c (.bool b) undef) := by
  rw [aev_tmp, h]; cases c <;> rfl
theorem WC.condN {c : Operand} {a b : Code} {t : Bool} {fr : Fr} {ds : List Deferred} {h : H} (hc : aev fr c = some (.bool t)) (h1 : t = true → WC X n wm rd a ⟨fr, ds, h, none⟩ Q) (h2 : t = false → WC X n wm rd b ⟨fr, ds, h, none⟩ Q) : WC X n wm rd (.cond c a b) ⟨fr, ds, h, none⟩ Q := WC.cond (s := ⟨fr, ds, h, none⟩) hc h1 h2
theorem WL.lift {α β : Type} {c : Code} {body : α → (α → Option β) → Option β} {r : β} {F : Nat} {a : α} (hL : loop F body a = some r) (I : α → Fs → Prop) (init : I a s)
    (round : ∀ (next : α → Option β) a s, (∀ a' s', next a' = some r → I a' s' → WL X n wm rd c s' Q) → body a next = some r → I a s → WC X n wm rd c s (LoopK X n wm rd c Q)) : WL X n wm rd c s Q := by
  induction F generalizing a s with
  | zero => cases hL
  | succ F ih => exact WL.step (round _ _ _ (fun a' s' h1 h2 => ih h1 h2) hL init)
section
variable {h : H} {ev : Operand → Option Value} {d : Option Tmp} {ty : TypeId} {p : String} {af : Array Edge} {g : Option (Nat × Bool)}
theorem av_ld {x : Operand} {t : TypeId} {b o oo j : Nat} {vs : List Value} {v : Value} (ht : isAggP X.P t = some false) (hx : ev x = some (.pointer (some ⟨b, oo, none⟩))) (ha : At h b o vs) (ho : oo = o + j) (hv : vs[j]? = some v) :
    aop X h ev ⟨d, .load t x, ty, p, af, g⟩ = some (.val v, .none) := by
  obtain ⟨cs, own, z, h1, h2⟩ := ha.cell hv
  subst ho
  exact av_load1 ht hx h1 h2
theorem av_ix {α : Type} {xs : List α} {v : α} {x y : Operand} {t e : TypeId} {sz b o c : Nat} {a : Option Addr} {k : Int} (hu : X.P.underlying t = some (.slice e)) (hs : sizeP X.P e = some sz) (hx : ev x = some (.slice a xs.length c)) (hy : ev y = some (.int .i64 k)) (ha : a = some ⟨b, o, none⟩) (hk : geti xs k = some v) :
    aop X h ev ⟨d, .indexAddr t x y, ty, p, af, g⟩ = some (.val (.pointer (some ⟨b, o + k.toNat * sz, none⟩)), .none) := by
  obtain ⟨h1, h2, _⟩ := geti_some hk
  subst ha
  exact av_idx hu hs hx hy h1.symm h2
theorem abin_w {op : BinOp} {t : TypeId} {P : Program} {x y : Operand} {a b c : Int} (h1 : op = .add ∧ c = a + b ∨ op = .sub ∧ c = a - b ∨ op = .mul ∧ c = a * b) : abin P op t x y (.int .i64 a) (.int .i64 b) = some (.val (.int .i64 (w64 c)), .none) := abin_arith h1
theorem abin_addw {t : TypeId} {P : Program} {x y : Operand} {a b : Int} : abin P .add t x y (.int .i64 a) (.int .i64 b) = some (.val (.int .i64 (w64 (a + b))), .none) := abin_w (.inl ⟨rfl, rfl⟩)
theorem abin_subw {t : TypeId} {P : Program} {x y : Operand} {a b : Int} : abin P .sub t x y (.int .i64 a) (.int .i64 b) = some (.val (.int .i64 (w64 (a - b))), .none) := abin_w (.inr (.inl ⟨rfl, rfl⟩))
end
section
variable {ops : Array Oper} {l : List Oper} {fr : Fr} {ds : List Deferred} {h : H} {d : Nat} {ty : TypeId} {p : String} {af : Array Edge} {g : Option (Nat × Bool)} {c : Bool} {QQ : Fr → Prop}
end
abbrev WR (X : Ctx) (f : FuncId) (args : Array Value) (wm : Nat) (h : H) (R : Value → H → Prop) : Prop := WF X f args wm h (fun e h' => ∃ v, e = .ret v ∧ R v h')
theorem WF.pureR {f : FuncId} {args : Array Value} {h : H} {v : Value} (hp : plain v = true) (k : WR X f args h.size h (fun v' _ => v' = v)) : Pure X f args h v :=
  WF.pure hp (k.mono fun e h' ⟨v', h1, h2⟩ => by rw [h1, h2])
end Go.Abs
end
end
section
noncomputable section
namespace Go.Abs
open Go.Lf
variable {X : Ctx} {n wm : Nat} {rd : Option Nat} {Q : XX → Fs → Prop}
variable {ops : Array Oper} {l : List Oper} {fr : Fr} {ds : List Deferred} {h : H} {d : Nat} {ty : TypeId} {p : String} {af : Array Edge} {g : Option (Nat × Bool)}
section
variable {α : Type} {e : Rdr α} {lo : Nat} {h' : H}
theorem ElAt.nil {wm : Nat} {cs : List Value} {o : Nat} (hl : o ≤ cs.length) : ElAt e wm h cs o ([] : List α) := ⟨by simpa using hl, fun k x hk => by simp at hk⟩
theorem ElAt.of_list {wm : Nat} : ∀ (qs : List (e.Par × α)), (∀ q ∈ qs, e.F wm h q.1 q.2) → ElAt e wm h (qs.flatMap fun q => e.sh q.1 q.2) 0 (qs.map (·.2)) := by
  intro qs hq
  have hl : ∀ (qs : List (e.Par × α)), (qs.flatMap fun q => e.sh q.1 q.2).length = qs.length * e.sz := by
    intro qs
    induction qs with
    | nil => simp
    | cons q qs ih => rw [List.flatMap_cons, List.length_append, ih, e.len, List.length_cons, Nat.succ_mul]; omega
  refine ⟨by rw [hl]; simp, ?_⟩
  induction qs with
  | nil => intro k x hk; simp at hk
  | cons q qs ih =>
    intro k x hk
    cases k with
    | zero =>
      simp at hk; subst hk
      refine ⟨q.1, ?_, hq q (by simp)⟩
      rw [List.flatMap_cons, Nat.zero_mul, Nat.add_zero, List.drop_zero, List.take_append_of_le_length (by rw [e.len]; exact Nat.le_refl _), List.take_of_length_le (by rw [e.len]; exact Nat.le_refl _)]
    | succ k =>
      obtain ⟨q', h1, h2⟩ := ih (fun q hq' => hq q (by simp [hq'])) k x (by simpa using hk)
      refine ⟨q', ?_, h2⟩
      rw [← h1, List.flatMap_cons, List.drop_append, e.len, List.drop_of_length_le (by rw [e.len, Nat.succ_mul]; omega), List.nil_append]
      congr 2
      rw [Nat.succ_mul]; omega
theorem ElAt.cut {wm : Nat} {cs : List Value} {o : Nat} {xs : List α} (a : ElAt e wm h cs o xs) : ElAt e wm h ((cs.drop o).take (xs.length * e.sz)) 0 xs := by
  have hl := a.len
  refine ⟨by rw [List.length_take, List.length_drop]; omega, fun k x hk => ?_⟩
  obtain ⟨q, h1, h2⟩ := a.get k x hk
  refine ⟨q, ?_, h2⟩
  have hk' : k < xs.length := (List.getElem?_eq_some_iff.1 hk).1
  have : (k + 1) * e.sz ≤ xs.length * e.sz := Nat.mul_le_mul_right _ hk'
  rw [Nat.succ_mul] at this
  rw [← h1, List.drop_take, List.take_take, List.drop_drop, Nat.zero_add]
  congr 1; omega
theorem ElAt.uncut {wm : Nat} {cs : List Value} {o : Nat} {xs : List α} (hl : o + xs.length * e.sz ≤ cs.length) (a : ElAt e wm h ((cs.drop o).take (xs.length * e.sz)) 0 xs) : ElAt e wm h cs o xs := by
  refine ⟨hl, fun k x hk => ?_⟩
  obtain ⟨q, h1, h2⟩ := a.get k x hk
  refine ⟨q, ?_, h2⟩
  have hk' : k < xs.length := (List.getElem?_eq_some_iff.1 hk).1
  have : (k + 1) * e.sz ≤ xs.length * e.sz := Nat.mul_le_mul_right _ hk'
  rw [Nat.succ_mul] at this
  rw [← h1, List.drop_take, List.take_take, List.drop_drop, Nat.zero_add]
  congr 1; omega
theorem ElAt.append {wm : Nat} {as_ bs : List Value} {xs ys : List α} (hl : as_.length = xs.length * e.sz) (a : ElAt e wm h as_ 0 xs) (b : ElAt e wm h bs 0 ys) : ElAt e wm h (as_ ++ bs) 0 (xs ++ ys) := by
  have h1 := a.len
  have h2 := b.len
  refine ⟨by rw [List.length_append, List.length_append, Nat.add_mul]; omega, fun k x hk => ?_⟩
  rw [Nat.zero_add]
  by_cases hk' : k < xs.length
  · rw [List.getElem?_append_left hk'] at hk
    obtain ⟨q, q1, q2⟩ := a.get k x hk
    refine ⟨q, ?_, q2⟩
    have : (k + 1) * e.sz ≤ xs.length * e.sz := Nat.mul_le_mul_right _ hk'
    rw [Nat.succ_mul] at this
    rw [Nat.zero_add] at q1
    rw [← q1, List.drop_append, List.take_append_of_le_length (by rw [List.length_drop]; omega)]
  · rw [List.getElem?_append_right (by omega)] at hk
    obtain ⟨q, q1, q2⟩ := b.get _ x hk
    refine ⟨q, ?_, q2⟩
    have : xs.length * e.sz ≤ k * e.sz := Nat.mul_le_mul_right _ (by omega)
    rw [Nat.zero_add] at q1
    rw [← q1, List.drop_append, List.drop_of_length_le (by omega), List.nil_append, hl, Nat.sub_mul]
theorem ElAt.one {wm : Nat} {cs : List Value} {xs : List α} (hl : cs.length = xs.length * e.sz) (a : ElAt e wm h cs 0 xs) : cs.all Value.oneCell' = true := by
  rw [List.all_eq_true]
  intro v hv
  obtain ⟨j, hj⟩ := List.mem_iff_getElem?.1 hv
  have hjl : j < cs.length := (List.getElem?_eq_some_iff.1 hj).1
  have hp := e.pos
  have hk : j / e.sz < xs.length := Nat.div_lt_of_lt_mul (by rw [Nat.mul_comm, ← hl]; exact hjl)
  obtain ⟨q, q1, _⟩ := a.get (j / e.sz) xs[j / e.sz] (List.getElem?_eq_getElem hk)
  have hone := e.one q xs[j / e.sz]
  rw [List.all_eq_true] at hone
  refine hone v ?_
  rw [← q1, List.mem_iff_getElem?]
  refine ⟨j % e.sz, ?_⟩
  rw [List.getElem?_take_of_lt (Nat.mod_lt _ hp), List.getElem?_drop, Nat.zero_add]
  have : j / e.sz * e.sz + j % e.sz = j := Nat.div_add_mod' j e.sz
  rw [this]; exact hj
theorem reads_some (h : H) (i o m c sz : Nat) : Go.Abs.reads h (.slice (some ⟨i, o, none⟩) m c) sz = bif Nat.beq m 0 then some [] else
    match h.at i with
    | .row cs _ _ => bif Nat.ble (o + m * sz) cs.length then some ((cs.drop o).take (m * sz)) else none
    | _ => none := by cases i <;> cases o <;> rfl
theorem Src.reads {wm : Nat} {a : Option Addr} {c : Nat} {xs : List α} (s : Src e wm h a c xs) : ∃ vs, reads h (.slice a xs.length c) e.sz = some vs ∧ vs.length = xs.length * e.sz ∧ ElAt e wm h vs 0 xs := by
  rcases s.mem with z | ⟨i, o, cs, own, z, h1, h2, h3⟩
  · subst z
    refine ⟨[], ?_, by simp, ElAt.nil (by simp)⟩
    rcases s.nl with ⟨rfl, rfl⟩ | ⟨rfl, rfl⟩ | ⟨i, o, rfl⟩
    · rfl
    · rfl
    · rw [reads_some]; rfl
  · subst h1
    by_cases hx : xs = []
    · subst hx
      exact ⟨[], by rw [reads_some]; rfl, by simp, ElAt.nil (by simp)⟩
    · have hl := h3.len
      have hpos : 0 < xs.length := List.length_pos_iff.2 hx
      refine ⟨(cs.drop o).take (xs.length * e.sz), ?_, by rw [List.length_take, List.length_drop]; omega, h3.cut⟩
      rw [reads_some]
      have hb : Nat.beq xs.length 0 = false := by rw [Bool.eq_false_iff]; intro hh; have := Nat.eq_of_beq_eq_true hh; omega
      simp only [hb, cond_false, h2]
      rw [Nat.ble_eq_true_of_le hl]; rfl
theorem OwnS.mk' {wm : Nat} {h : H} {xs : List α} {vs : List Value} {i c : Nat} (hm : xs.length ≤ 9223372036854775807) (hlo : lo ≤ i) (hr : h.at i = .row vs true e.sz) (hc : xs.length ≤ c / 2) (hcl : (c / 2) * e.sz ≤ vs.length) (ha : ElAt e wm h vs 0 xs) : OwnS e wm lo h (some ⟨i, 0, none⟩) c xs :=
  ⟨hm, .inr ⟨i, 0, vs, rfl, hlo, hr, hc, by omega, ha⟩⟩
def AppAt (P : Program) (ts : Array TypeId) (sz by_ : Nat) : Prop := ∃ el z, appInfo P ts = some (el, sz, by_, z)
theorem ap_gen {K : Prop} {J : Value → H → Prop} {ts : Array TypeId} {x y : Operand} {by_ : Nat} {a a2 : Option Addr} {c c2 : Nat} {xs ys zs : List α} (lo : Nat) (k' : ∀ v E h1, aop X h (aev fr) ⟨some d, .call { callee := .builtin .append, args := #[x, y], argTypes := ts }, ty, p, af, g⟩ = some (.val v, E) → E.apply wm h = some h1 → J v h1 → K)
    (hi : AppAt X.P ts e.sz by_) (hw : wm ≤ lo) (hlo : lo ≤ h.size) (hx : aev fr x = some (.slice a xs.length c)) (hy : aev fr y = some (.slice a2 ys.length c2)) (so : OwnS e wm lo h a c xs) (sr : Src e wm h a2 c2 ys) (ha : app by_ xs ys = some zs)
    (k : ∀ a' c' h', Up lo (BaseA a) h h' → OwnS e wm lo h' a' c' zs → (∀ i, BaseA a' i → BaseA a i ∨ i = h.size) → J (.slice a' zs.length c') h') : K := by
  obtain ⟨rfl, hbd⟩ := app_some ha
  obtain ⟨el, z, hi⟩ := hi
  obtain ⟨new, n1, n2, n3⟩ := sr.reads
  have n4 := n3.one n2
  have hpos := e.pos
  have hev : evs (aev fr) (#[x, y] : Array Operand).toList = some [.slice a xs.length c, .slice a2 ys.length c2] := evs_cons hx (evs_cons hy evs_nil)
  have hls : lenS (.slice a2 ys.length c2) = ys.length := rfl
  have key : ∀ (v : Value) (E : Eff), aappend X.P h ts (.slice a xs.length c) (.slice a2 ys.length c2) = some (v, E) → aop X h (aev fr) ⟨some d, .call { callee := .builtin .append, args := #[x, y], argTypes := ts }, ty, p, af, g⟩ = some (.val v, E) := by
    intro v E hE
    rw [aop_builtin, hev]
    show vE (aappend X.P h ts (.slice a xs.length c) (.slice a2 ys.length c2)) = _
    rw [hE]; rfl
  have hbyle : by_ = 0 ∨ (2 * (xs.length + ys.length) + 1000) ≤ 2 ^ 47 := by
    rcases Nat.eq_zero_or_pos by_ with z | z
    · exact .inl z
    · right
      have : (2 * (xs.length + ys.length) + 1000) * 1 ≤ (2 * (xs.length + ys.length) + 1000) * by_ := Nat.mul_le_mul_left _ z
      rw [Nat.mul_one] at this
      exact Nat.le_trans this hbd
  have hby : 1 ≤ by_ := by
    unfold appInfo at hi
    split at hi
    · split at hi
      · split at hi
        · rename_i sz0 by0 z0 hs hb hz
          cases hc : (Nat.ble 1 sz0 && Nat.ble 1 by0 && Nat.beq z0.cells.toList.length sz0) <;> rw [hc] at hi <;> simp at hi
          obtain ⟨_, _, rfl, _⟩ := hi
          rw [Bool.and_eq_true, Bool.and_eq_true] at hc
          exact Nat.le_of_ble_eq_true hc.1.2
        · cases hi
      · cases hi
    · cases hi
  have hmax : (xs ++ ys).length ≤ 9223372036854775807 := by
    rw [List.length_append]
    rcases hbyle with z | z <;> omega
  have hle2 : (xs ++ ys).length = xs.length + ys.length := List.length_append
  rcases so.mem with ⟨rfl, rfl, rfl⟩ | ⟨i, o, cs, rfl, hlo2, hrow, hc1, hc2, hel⟩
  · -- of nothing
    by_cases hy0 : ys = []
    · subst hy0
      refine k' _ (.none) _ (key (.slice none 0 0) _ ?_) rfl ?_
      · unfold aappend; rw [hi]; dsimp only; rw [n1]; rfl
      · exact k none 0 h ⟨Nat.le_refl _, fun _ _ _ => rfl, fun i hb => by obtain ⟨o, hb⟩ := hb; cases hb⟩ OwnS.nil (fun i hb => by obtain ⟨o, hb⟩ := hb; cases hb)
    · have hyl : 0 < ys.length := List.length_pos_iff.2 hy0
      refine k' _ (.new (.row ([] ++ new) true e.sz)) _ (key (.slice (some ⟨h.size, 0, none⟩) ([] ++ ys).length (2 * ([] ++ ys).length + 1)) _ ?_) rfl ?_
      · unfold aappend; rw [hi]; dsimp only; rw [n1]; dsimp only
        rw [hls]
        have b1 : Nat.ble (([] : List α).length + ys.length) (0 / 2) = false := by rw [Bool.eq_false_iff]; intro q; have q := Nat.le_of_ble_eq_true q; rw [List.length_nil, Nat.zero_add, Nat.zero_div] at q; omega
        rw [b1, Nat.ble_eq_true_of_le hbd, n4]
        simp only [cond_false, Bool.and_self, cond_true]
        have b2 : reads h (.slice none ([] : List α).length 0) e.sz = some [] := rfl
        rw [b2]
        simp
      · refine k _ _ _ ⟨Nat.le_succ _, fun i hi _ => at_push_old hi _, fun i hb => by obtain ⟨o, hb⟩ := hb; cases hb⟩ ?_ (fun i hb => by obtain ⟨o, hb⟩ := hb; cases hb; exact .inr rfl)
        refine OwnS.mk' hmax hlo (at_push_new h _) (by simp only [List.nil_append]; omega) ?_ ?_
        · simp only [List.nil_append]; rw [n2]; have : (2 * ys.length + 1) / 2 = ys.length := by omega
          rw [this]; omega
        · simp only [List.nil_append]; exact n3.mono ((Up.push lo h _).fz hw)
  · have hown : (h.at i).own = true := by rw [hrow]; rfl
    have hil : i < h.size := live_lt hrow rfl
    have hxl : o + xs.length * e.sz ≤ cs.length := hel.len
    by_cases hroom : xs.length + ys.length ≤ c / 2
    · -- there is room
      by_cases hy0 : ys = []
      · subst hy0
        refine k' _ (.none) _ (key (.slice (some ⟨i, o, none⟩) xs.length c) _ ?_) rfl ?_
        · unfold aappend; rw [hi]; dsimp only; rw [n1]; dsimp only; rw [hls, Nat.ble_eq_true_of_le hroom]; rfl
        · have := k (some ⟨i, o, none⟩) c h ⟨Nat.le_refl _, fun _ _ _ => rfl, fun j hb => by obtain ⟨o', hb⟩ := hb; cases hb; exact ⟨hlo2, hown⟩⟩ (by simpa using so) (fun j hb => .inl hb)
          simpa using this
      · have hyl : 0 < ys.length := List.length_pos_iff.2 hy0
        have hfit : o + xs.length * e.sz + new.length ≤ cs.length := by
          rw [n2]
          have : (xs.length + ys.length) * e.sz ≤ c / 2 * e.sz := Nat.mul_le_mul_right _ hroom
          rw [Nat.add_mul] at this
          omega
        refine k' _ (.upd i (.row (splice cs (o + xs.length * e.sz) new) true e.sz)) (h.put i (.row (splice cs (o + xs.length * e.sz) new) true e.sz)) (key (.slice (some ⟨i, o, none⟩) (xs ++ ys).length c) _ ?_) ?_ ?_
        · unfold aappend; rw [hi]; dsimp only; rw [n1]; dsimp only; rw [hls, Nat.ble_eq_true_of_le hroom]
          have b1 : Nat.beq ys.length 0 = false := by rw [Bool.eq_false_iff]; intro q; have := Nat.eq_of_beq_eq_true q; omega
          rw [b1, hrow]
          simp only [cond_true, cond_false]
          rw [Nat.ble_eq_true_of_le hfit, n4, hle2]; rfl
        · show (bif Nat.ble wm i && (h.at i).own then some (h.put i _) else none) = _
          rw [hown, Nat.ble_eq_true_of_le (Nat.le_trans hw hlo2)]; rfl
        · have hu : Up lo (BaseA (some ⟨i, o, none⟩)) h (h.put i (.row (splice cs (o + xs.length * e.sz) new) true e.sz)) :=
            ⟨Nat.le_refl _, fun j _ hn => at_put_other (fun q => hn ⟨o, by rw [q]⟩) _, fun j hb => by obtain ⟨o', hb⟩ := hb; cases hb; exact ⟨hlo2, hown⟩⟩
          refine k _ _ _ hu ⟨hmax, .inr ⟨i, o, _, rfl, hlo2, at_put_same hil _, by rw [hle2]; exact hroom, ?_, ?_⟩⟩ (fun j hb => .inl hb)
          · simp only [splice, List.length_append, List.length_take, List.length_drop]; omega
          · refine ElAt.uncut ?_ (ElAt.mono (hu.fz hw) ?_)
            · simp only [splice, List.length_append, List.length_take, List.length_drop, Nat.add_mul, ← n2]; omega
            · have e1 : ((splice cs (o + xs.length * e.sz) new).drop o).take ((xs ++ ys).length * e.sz) = (cs.drop o).take (xs.length * e.sz) ++ new := by
                have l1 : (cs.take (o + xs.length * e.sz)).length = o + xs.length * e.sz := by rw [List.length_take]; omega
                unfold splice
                rw [List.append_assoc, List.drop_append_of_le_length (by omega), hle2, Nat.add_mul, ← n2, List.take_append]
                have l2 : ((cs.take (o + xs.length * e.sz)).drop o).length = xs.length * e.sz := by rw [List.length_drop, l1]; omega
                rw [l2, List.take_of_length_le (by rw [l2]; omega), List.drop_take]
                congr 1
                · congr 1; omega
                · have : xs.length * e.sz + new.length - xs.length * e.sz = new.length := by omega
                  rw [this, List.take_append_of_le_length (Nat.le_refl _), List.take_of_length_le (Nat.le_refl _)]
              rw [e1]
              exact ElAt.append (by rw [List.length_take, List.length_drop]; omega) hel.cut n3
    · -- it grows
      have b0 : Nat.ble (xs.length + ys.length) (c / 2) = false := by rw [Bool.eq_false_iff]; intro q; exact hroom (Nat.le_of_ble_eq_true q)
      have hold : reads h (.slice (some ⟨i, o, none⟩) xs.length c) e.sz = some ((cs.drop o).take (xs.length * e.sz)) := by
        rw [reads_some]
        cases hb : Nat.beq xs.length 0 with
        | true =>
          have := Nat.eq_of_beq_eq_true hb
          rw [this]; simp
        | false =>
          simp only [cond_false, hrow]
          rw [Nat.ble_eq_true_of_le hxl]; rfl
      have hol : ((cs.drop o).take (xs.length * e.sz)).length = xs.length * e.sz := by rw [List.length_take, List.length_drop]; omega
      have hrl : ((cs.drop o).take (xs.length * e.sz) ++ new).length = (xs ++ ys).length * e.sz := by rw [List.length_append, hol, n2, hle2, Nat.add_mul]
      have hcap : (2 * (xs ++ ys).length + 1) / 2 = (xs ++ ys).length := by omega
      cases hev2 : Nat.beq (c % 2) 0 with
      | true =>
        refine k' _ (.new (.row ((cs.drop o).take (xs.length * e.sz) ++ new) true e.sz)) _ (key (.slice (some ⟨h.size, 0, none⟩) (xs ++ ys).length (2 * (xs ++ ys).length + 1)) _ ?_) rfl ?_
        · unfold aappend; rw [hi]; dsimp only; rw [n1]; dsimp only; rw [hls, b0, Nat.ble_eq_true_of_le hbd, n4, hold, hev2, hle2]; rfl
        · refine k _ _ _ ⟨Nat.le_succ _, fun j hj _ => at_push_old hj _, fun j hb => by obtain ⟨o', hb⟩ := hb; cases hb; exact ⟨hlo2, hown⟩⟩ ?_ (fun j hb => by obtain ⟨o', hb⟩ := hb; cases hb; exact .inr rfl)
          refine OwnS.mk' hmax hlo (at_push_new h _) (by omega) (by rw [hcap, hrl]; exact Nat.le_refl _) ?_
          exact (ElAt.append hol hel.cut n3).mono ((Up.push lo h _).fz hw)
      | false =>
        refine k' _ (.grow i (.row ((cs.drop o).take (xs.length * e.sz) ++ new) true e.sz)) ((h.put i .dead).push (.row ((cs.drop o).take (xs.length * e.sz) ++ new) true e.sz)) (key (.slice (some ⟨h.size, 0, none⟩) (xs ++ ys).length (2 * (xs ++ ys).length + 1)) _ ?_) ?_ ?_
        · unfold aappend; rw [hi]; dsimp only; rw [n1]; dsimp only; rw [hls, b0, Nat.ble_eq_true_of_le hbd, n4, hold, hev2]
          simp only [cond_false, Bool.and_self, cond_true]
          rw [hrow]
          dsimp only
          rw [Nat.beq_refl, hle2]; rfl
        · show (bif Nat.ble wm i && (h.at i).own && true then some ((h.put i .dead).push _) else none) = _
          rw [hown, Nat.ble_eq_true_of_le (Nat.le_trans hw hlo2)]; rfl
        · have hu : Up lo (BaseA (some ⟨i, o, none⟩)) h ((h.put i .dead).push (.row ((cs.drop o).take (xs.length * e.sz) ++ new) true e.sz)) :=
            ⟨Nat.le_succ _, fun j hj hn => by rw [at_push_old (by simpa using hj), at_put_other (fun q => hn ⟨o, by rw [q]⟩)], fun j hb => by obtain ⟨o', hb⟩ := hb; cases hb; exact ⟨hlo2, hown⟩⟩
          refine k _ _ _ hu ?_ (fun j hb => by obtain ⟨o', hb⟩ := hb; cases hb; exact .inr rfl)
          refine OwnS.mk' hmax hlo (by have := at_push_new (h.put i .dead) (.row ((cs.drop o).take (xs.length * e.sz) ++ new) true e.sz); simpa using this) (by omega) (by rw [hcap, hrl]; exact Nat.le_refl _) ?_
          exact (ElAt.append hol hel.cut n3).mono (hu.fz hw)
end
theorem BaseA.none {i : Nat} : ¬ BaseA Option.none i := fun ⟨_, h⟩ => by cases h
section
variable {α : Type} {e : Rdr α} {lo : Nat} {h' : H}
end
end Go.Abs
end
end
section
noncomputable section
namespace Go.Abs
open Go.Lf
variable {X : Ctx} {P : Program}
theorem pureRun_bind2 {α β : Type} (s : Sem α) (f : α → Sem β) : pureRun P (s >>= f) = match pureRun P s with
    | some (.ok a) => pureRun P (f a)
    | some (.error v) => some (.error v)
    | none => none := by
  induction s with
  | pure a => rfl
  | program k ih => exact ih P
  | halt x => cases x <;> rfl
  | load | store | new | shape | freeze | frozen | getObj | setObj | choose | sys | mark => rfl
theorem prb {α β : Type} {s : Sem α} {f : α → Sem β} {a : α} (h : pureRun P s = some (.ok a)) : pureRun P (s >>= f) = pureRun P (f a) := by rw [pureRun_bind2, h]
theorem pr_underlying {t : TypeId} {u : TypeDesc} (h : P.underlying t = some u) : pureRun P (underlying t) = some (.ok u) := by
  show pureRun P (match P.underlying t with | some d => pure d | none => stuck "no such type") = _
  rw [h]; rfl
theorem eq_bool {t : TypeId} {a b : Bool} {d : Nat} (hu : P.underlying t = some .bool) : pureRun P (Op.equalIn (d + 1) t (.bool a) (.bool b)) = some (.ok (a == b)) := by
  unfold Op.equalIn
  rw [prb (pr_underlying hu)]; rfl
theorem eq_str {t : TypeId} {a b : ByteArray} {d : Nat} (hu : P.underlying t = some .string) : pureRun P (Op.equalIn (d + 1) t (.string a) (.string b)) = some (.ok (a == b)) := by
  unfold Op.equalIn
  rw [prb (pr_underlying hu)]; rfl
theorem aload_at1 {h : H} {t : TypeId} {b o oo j : Nat} {vs : List Value} {v : Value} (ht : isAggP P t = some false) (ha : At h b o vs) (ho : oo = o + j) (hv : vs[j]? = some v) : aload P h t (.pointer (some ⟨b, oo, none⟩)) = some v := by
  obtain ⟨cs, own, z, h1, h2⟩ := ha.cell hv
  subst ho
  exact Slc.load h1 ht h2
theorem ares_nil {fr : Fr} {h : H} : ares P fr h [] = some [] := rfl
theorem ares_tmp {fr : Fr} {h : H} {t : Nat} {v : Value} {rs : List ResultVar} {vs : List Value} (hv : aev fr (.tmp t) = some v) (hr : ares P fr h rs = some vs) : ares P fr h (.tmp t :: rs) = some (v :: vs) := by
  have e : ares1 P fr h (.tmp t) = some v := hv
  simp only [ares, e, hr]
theorem ares_cell {fr : Fr} {h : H} {a t : Nat} {p v : Value} {rs : List ResultVar} {vs : List Value} (hp : fr.at a = p) (hv : aload P h t p = some v) (hr : ares P fr h rs = some vs) : ares P fr h (.cell a t :: rs) = some (v :: vs) := by
  have e : ares1 P fr h (.cell a t) = some v := by show aload P h t (fr.at a) = some v; rw [hp]; exact hv
  simp only [ares, e, hr]
theorem RetK.gen1 {fn : Func} {R : Value → H → Prop} {fr : Fr} {h : H} {wr : Option Nat} {rs : List ResultVar} {v : Value} (hr : fn.results.toList = rs) (hv : ares X.P fr h rs = some [v]) (k : R v h) : RetK X fn (fun e h' => ∃ v, e = .ret v ∧ R v h') .ret ⟨fr, [], h, wr⟩ := by
  refine ⟨⟨rfl, v, ?_, v, rfl, k⟩⟩
  unfold aresult
  dsimp only
  rw [hr, hv]
theorem RetK.gen {fn : Func} {R : Value → H → Prop} {fr : Fr} {h : H} {wr : Option Nat} {rs : List ResultVar} {vs : List Value} (hr : fn.results.toList = rs) (hv : ares X.P fr h rs = some vs) (hl : Nat.beq vs.length 1 = false) (k : R (.tuple vs.toArray) h) : RetK X fn (fun e h' => ∃ v, e = .ret v ∧ R v h') .ret ⟨fr, [], h, wr⟩ := by
  refine ⟨⟨rfl, _, ?_, _, rfl, k⟩⟩
  unfold aresult
  dsimp only
  rw [hr, hv]
  match vs, hl with
  | [], _ => rfl
  | [_], h => cases h
  | _ :: _ :: _, _ => rfl
theorem abin_boolB {op : BinOp} {t : TypeId} {x y : Operand} {a b r : Bool} (hu : P.underlying t = some .bool) (h : op = .eql ∧ r = (a == b) ∨ op = .neq ∧ r = (a != b)) : abin P op t x y (.bool a) (.bool b) = some (.val (.bool r), .none) := by
  have hp : (plain (.bool a) && plain (.bool b)) = true := rfl
  have h2 : pureRun P (Op.equal t (.bool a) (.bool b)) = some (.ok (a == b)) := eq_bool (d := 9999) hu
  unfold abin
  rw [hp, cond_true]
  unfold pval
  rcases h with ⟨rfl, rfl⟩ | ⟨rfl, rfl⟩
  · have h1 : pureRun P (eqGuard .eql t x y (.bool a) (.bool b)) = some (.ok ()) := rfl
    rw [prb h1]
    have : pureRun P (binOp .eql t (.bool a) (.bool b)) = some (.ok (.bool (a == b))) := by
      show pureRun P (do pure (Value.bool (← Op.equal t (.bool a) (.bool b))) : Sem Value) = _
      rw [prb h2]; rfl
    rw [this]; rfl
  · have h1 : pureRun P (eqGuard .neq t x y (.bool a) (.bool b)) = some (.ok ()) := rfl
    rw [prb h1]
    have : pureRun P (binOp .neq t (.bool a) (.bool b)) = some (.ok (.bool (a != b))) := by
      show pureRun P (do pure (Value.bool (!(← Op.equal t (.bool a) (.bool b)))) : Sem Value) = _
      rw [prb h2]; rfl
    rw [this]; rfl
theorem abin_eqlB {t : TypeId} {x y : Operand} {a b : Bool} (hu : P.underlying t = some .bool) : abin P .eql t x y (.bool a) (.bool b) = some (.val (.bool (a == b)), .none) := abin_boolB hu (.inl ⟨rfl, rfl⟩)
end Go.Abs
end
end
section
noncomputable section
namespace Go.Abs
open Go.Lf
abbrev SfT := List (Nat × Nat × Nat × (AObj → Prop)) × List (Nat × List Nat)
variable {X : Ctx} {n wm : Nat} {rd : Option Nat} {ops : Array Oper} {l : List Oper} {fr : Fr} {ds : List Deferred} {h h1 : H} {ty : TypeId} {p : String} {af : Array Edge} {g : Option (Nat × Bool)} {m : Nat} {sf : SfT}
variable {Q : Fr → H → Prop}
def SU (X : Ctx) (wm : Nat) (o : Oper) (fr : Fr) (h : H) (h1 : H) (tg : Bool) : Prop := ∃ E, aop X h (aev fr) o = some (.skip, E) ∧ E.apply wm h = some h1 ∧ (tg = false → E.tgt = none)
theorem st_ex {x y : Operand} {t : TypeId} {b o z sz : Nat} {cs cs' vs : List Value} {v : Value} {d : Option Tmp} (hs : sizeP X.P t = some sz) (hx : aev fr x = some (.pointer (some ⟨b, o, none⟩))) (hy : aev fr y = some v)
    (hr : h.at b = .row cs true z) (hb : wm ≤ b) (hvs : v.cells.toList = vs) (hn : vs.length = sz) (hl : o + sz ≤ cs.length) (hc : vs.all Value.oneCell' = true) (hv : splice cs o vs = cs') :
    aop X h (aev fr) ⟨d, .store t x y, ty, p, af, g⟩ = some (.skip, .upd b (.row cs' true z)) ∧ (Eff.upd b (.row cs' true z)).apply wm h = some (h.put b (.row cs' true z)) := by
  subst hvs
  refine ⟨?_, ?_⟩
  · rw [aop_store, hx, hy]
    dsimp only
    have : astore X.P h t (.pointer (some ⟨b, o, none⟩)) v = some (.upd b (.row cs' true z)) := by
      unfold astore
      rw [hs]
      dsimp only
      rw [hr]
      dsimp only
      have h1 : Nat.beq v.cells.toList.length sz = true := by rw [hn]; exact Nat.beq_refl sz
      have h2 : Nat.ble (o + sz) cs.length = true := Nat.ble_eq_true_of_le hl
      rw [h1, h2, hc, hv]; rfl
    rw [this]; rfl
  · show (bif Nat.ble wm b && (h.at b).own then some (h.put b (.row cs' true z)) else none) = _
    rw [hr]
    have : Nat.ble wm b = true := Nat.ble_eq_true_of_le hb
    rw [this]; rfl
section
variable {α : Type} {e : Rdr α}
end
end Go.Abs
end
end
section
noncomputable section
namespace Go.Abs
open Go.Lf
variable {X : Ctx} {P : Program} {κ ν : Type} [DecidableEq κ]
structure KeyT (P : Program) (kt : TypeId) (kv : κ → Value) : Prop where
  pl : ∀ x, plain (kv x) = true
  ok : ∀ e x, okKey P e kt (kv x) = true
  same : ∀ x, Instr.sameBits 10000 (kv x) (kv x) = true
  eq : ∀ x y, pureRun P (Op.equal kt (kv x) (kv y)) = some (.ok (decide (x = y)))
  kind : ∃ u, P.underlying kt = some u ∧ ((∀ x y, Instr.sameNow u (kv x) (kv y) = none) ∨ ∀ x y, Instr.sameNow u (kv x) (kv y) = some (decide (x = y)))
def mkEs (kv : κ → Value) (vv : ν → Value) (l : List (κ × ν)) (bs : List Nat) : List MapEntry := List.zipWith (fun p b => ⟨kv p.1, vv p.2, b⟩) l bs
variable {kt : TypeId} {kv : κ → Value} {vv : ν → Value}
theorem find_asking (K : KeyT P kt kv) (k : κ) : ∀ (l : List (κ × ν)) (bs : List Nat) (i : Nat), bs.length = l.length → pureRun P (Instr.findAsking kt (kv k) (mkEs kv vv l bs) i) = some (.ok ((mfind l k).map fun q => (i + q.1, vv q.2))) := by
  intro l
  induction l with
  | nil => intro bs i _; rfl
  | cons p l ih =>
    intro bs i hb
    cases bs with
    | nil => cases hb
    | cons b bs =>
      show pureRun P (do if ← Op.equal kt (kv k) (kv p.1) then pure (some (i, vv p.2)) else Instr.findAsking kt (kv k) (mkEs kv vv l bs) (i + 1)) = _
      rw [prb (K.eq k p.1)]
      unfold mfind
      by_cases e : p.1 = k
      · rw [if_pos e, decide_eq_true e.symm]; rfl
      · rw [if_neg e, decide_eq_false (fun z => e z.symm)]
        show pureRun P (Instr.findAsking kt (kv k) (mkEs kv vv l bs) (i + 1)) = _
        rw [ih bs (i + 1) (by simpa using hb)]
        cases mfind l k with
        | none => rfl
        | some q => simp [Nat.add_assoc, Nat.add_comm 1]
theorem find_now {u : TypeDesc} (hs : ∀ x y, Instr.sameNow u (kv x) (kv y) = some (decide (x = y))) (k : κ) : ∀ (l : List (κ × ν)) (bs : List Nat) (i : Nat), bs.length = l.length → Instr.findNow u (kv k) (mkEs kv vv l bs) i = some ((mfind l k).map fun q => (i + q.1, vv q.2)) := by
  intro l
  induction l with
  | nil => intro bs i _; rfl
  | cons p l ih =>
    intro bs i hb
    cases bs with
    | nil => cases hb
    | cons b bs =>
      show (match Instr.sameNow u (kv k) (kv p.1) with | some true => some (some (i, vv p.2)) | some false => Instr.findNow u (kv k) (mkEs kv vv l bs) (i + 1) | none => none) = _
      rw [hs]
      unfold mfind
      by_cases e : p.1 = k
      · rw [if_pos e, decide_eq_true e.symm]; rfl
      · rw [if_neg e, decide_eq_false (fun z => e z.symm)]
        show Instr.findNow u (kv k) (mkEs kv vv l bs) (i + 1) = _
        rw [ih bs (i + 1) (by simpa using hb)]
        cases mfind l k with
        | none => rfl
        | some q => simp [Nat.add_assoc, Nat.add_comm 1]
theorem afind_mk (K : KeyT P kt kv) (k : κ) (l : List (κ × ν)) (bs : List Nat) (hb : bs.length = l.length) : afind P kt (kv k) (mkEs kv vv l bs) = some ((mfind l k).map fun q => (q.1, vv q.2)) := by
  obtain ⟨u, hu, hk⟩ := K.kind
  unfold afind Instr.findKey
  rw [prb (pr_underlying hu)]
  rcases hk with hk | hk
  · cases l with
    | nil => cases bs with
      | nil => rfl
      | cons => cases hb
    | cons p l =>
      cases bs with
      | nil => cases hb
      | cons b bs =>
        have : Instr.findNow u (kv k) (mkEs kv vv (p :: l) (b :: bs)) 0 = none := by
          show (match Instr.sameNow u (kv k) (kv p.1) with | some true => some (some (0, vv p.2)) | some false => Instr.findNow u (kv k) (mkEs kv vv l bs) (0 + 1) | none => none) = _
          rw [hk]
        rw [this]
        dsimp only
        rw [find_asking K k (p :: l) (b :: bs) 0 hb]
        simp
  · rw [find_now hk k l bs 0 hb]
    simp only [Nat.zero_add]; rfl
omit [DecidableEq κ] in
theorem mkEs_append {l l2 : List (κ × ν)} {bs b2 : List Nat} (hb : bs.length = l.length) : mkEs kv vv (l ++ l2) (bs ++ b2) = mkEs kv vv l bs ++ mkEs kv vv l2 b2 := by
  unfold mkEs
  rw [List.zipWith_append hb.symm]
omit [DecidableEq κ] in
theorem mkEs_get {l : List (κ × ν)} {bs : List Nat} {j : Nat} {p : κ × ν} {b : Nat} (h1 : l[j]? = some p) (h2 : bs[j]? = some b) : (mkEs kv vv l bs)[j]? = some ⟨kv p.1, vv p.2, b⟩ := by
  unfold mkEs; rw [List.getElem?_zipWith, h1, h2]
omit [DecidableEq κ] in
theorem mkEs_modify {l : List (κ × ν)} {bs : List Nat} (f : MapEntry → MapEntry) (g : κ × ν → κ × ν) (hfg : ∀ p b, f ⟨kv p.1, vv p.2, b⟩ = ⟨kv (g p).1, vv (g p).2, b⟩) (j : Nat) : (mkEs kv vv l bs).modify j f = mkEs kv vv (l.modify j g) bs := by
  induction l generalizing bs j with
  | nil => simp [mkEs]
  | cons p l ih =>
    cases bs with
    | nil => simp [mkEs]
    | cons b bs =>
      cases j with
      | zero => simp only [mkEs, List.zipWith_cons_cons, List.modify_zero_cons, hfg]
      | succ j => simp only [mkEs, List.zipWith_cons_cons, List.modify_succ_cons]; congr 1; exact ih j
structure MapAt (kv : κ → Value) (vv : ν → Value) (h : H) (m : Option Nat) (l : List (κ × ν)) : Prop where
  mem : (m = none ∧ l = []) ∨ ∃ i bs clk, m = some i ∧ h.at i = .map (mkEs kv vv l bs) clk ∧ bs.length = l.length ∧ bs.Nodup ∧ ∀ b ∈ bs, b < clk
structure MapS (kv : κ → Value) (vv : ν → Value) (wm : Nat) (h : H) (m : Option Nat) (l : List (κ × ν)) : Prop where
  at_ : MapAt kv vv h m l
  low : ∀ i, m = some i → i < wm
structure MapO (kv : κ → Value) (vv : ν → Value) (lo : Nat) (h : H) (m : Option Nat) (l : List (κ × ν)) : Prop where
  at_ : MapAt kv vv h m l
  low : ∀ i, m = some i → lo ≤ i
variable {wm lo : Nat} {h h' : H} {m : Option Nat} {l : List (κ × ν)}
theorem map_lt {i : Nat} {es : List MapEntry} {c : Nat} (e : h.at i = .map es c) : i < h.size := live_lt e rfl
omit [DecidableEq κ] in
theorem MapAt.lt (s : MapAt kv vv h m l) {i : Nat} (e : m = some i) : i < h.size := by
  rcases s.mem with ⟨q, _⟩ | ⟨j, bs, clk, q, h1, _⟩
  · rw [q] at e; cases e
  · rw [q] at e; cases e; exact map_lt h1
omit [DecidableEq κ] in
theorem MapAt.keep (s : MapAt kv vv h m l) (k : ∀ i, m = some i → h'.at i = h.at i) : MapAt kv vv h' m l :=
  ⟨s.mem.imp id fun ⟨i, bs, clk, q, h1, h2⟩ => ⟨i, bs, clk, q, by rw [k i q]; exact h1, h2⟩⟩
omit [DecidableEq κ] in
theorem MapS.fz (s : MapS kv vv wm h m l) (f : Fz wm h h') : MapS kv vv wm h' m l := ⟨s.at_.keep fun i e => f.low i (s.low i e) (s.at_.lt e), s.low⟩
omit [DecidableEq κ] in
theorem MapAt.all (s : MapAt kv vv h m l) : MapS kv vv h.size h m l := ⟨s, fun _ e => s.lt e⟩
section
variable {ops : Array Oper} {ol : List Oper} {fr : Fr} {ds : List Deferred} {ty : TypeId} {p : String} {af : Array Edge} {g : Option (Nat × Bool)} {d : Option Tmp} {vt : TypeId} {ev : Operand → Option Value}
omit [DecidableEq κ] in
theorem amap_of (s : MapAt kv vv h m l) : ∃ bs c, amap h (.map m) = some (mkEs kv vv l bs, c) ∧ bs.length = l.length := by
  rcases s.mem with ⟨rfl, rfl⟩ | ⟨i, bs, clk, rfl, h1, h2, _⟩
  · exact ⟨[], 0, rfl, rfl⟩
  · refine ⟨bs, clk, ?_, h2⟩
    unfold amap
    dsimp only
    rw [h1]
theorem av_lkp {t : TypeId} {x y : Operand} {k : κ} {z : ν} (K : KeyT X.P kt kv) (hu : X.P.underlying t = some (.map kt vt)) (hz : zeroP X.P vt = some (vv z)) (hx : ev x = some (.map m)) (hy : ev y = some (kv k)) (s : MapAt kv vv h m l) :
    aop X h ev ⟨d, .lookup t x y false, ty, p, af, g⟩ = some (.val (vv ((mget l k).getD z)), .none) := by
  obtain ⟨bs, c, h1, h2⟩ := amap_of s
  show (match ev x, ev y with | some m, some k => vN (alookup X.P h t m k false) | _, _ => none) = _
  rw [hx, hy]
  dsimp only
  have : alookup X.P h t (.map m) (kv k) false = some (vv ((mget l k).getD z)) := by
    unfold alookup
    rw [hu, h1]
    dsimp only
    rw [K.ok, cond_true, afind_mk K k l bs h2]
    unfold mget
    cases mfind l k with
    | some q => rfl
    | none =>
      show (match zeroP X.P vt with | some z => some (bif false then Value.tuple #[z, .bool false] else z) | none => none) = _
      rw [hz]; rfl
  rw [this]; rfl
theorem av_lkpx {t : TypeId} {x y : Operand} {k : κ} {z v : ν} {w : Value} (K : KeyT X.P kt kv) (hu : X.P.underlying t = some (.map kt vt)) (hz : zeroP X.P vt = some (vv z)) (hx : ev x = some (.map m)) (hy : ev y = some (kv k)) (s : MapAt kv vv h m l) (hv : pget l k z = some v) (hw : vv v = w) :
    aop X h ev ⟨d, .lookup t x y false, ty, p, af, g⟩ = some (.val w, .none) := by
  rw [av_lkp K hu hz hx hy s, Option.some.inj hv, hw]
theorem eff_upd {i : Nat} {es es' : List MapEntry} {c c' : Nat} (hw : wm ≤ i) (h1 : h.at i = .map es c) : Eff.apply wm h (.upd i (.map es' c')) = some (h.put i (.map es' c')) := by
  show (bif Nat.ble wm i && (h.at i).own then some (h.put i _) else none) = _
  rw [h1, Nat.ble_eq_true_of_le hw]; rfl
theorem up_put {i : Nat} {es : List MapEntry} {c : Nat} {A : AObj} (hl : lo ≤ i) (h1 : h.at i = .map es c) : Up lo (fun j => some i = some j) h (h.put i A) :=
  ⟨Nat.le_refl _, fun j _ hn => at_put_other (fun q => hn (by rw [q])) A, fun j e => by cases e; exact ⟨hl, by rw [h1]; rfl⟩⟩
theorem upd_su {fr : Fr} {t : TypeId} {x y z : Operand} {k : κ} {v : ν} (K : KeyT X.P kt kv) (hu : X.P.underlying t = some (.map kt vt)) (hw : wm ≤ lo) (hx : aev fr x = some (.map m)) (hm : m.isSome = true) (hy : aev fr y = some (kv k)) (hz : aev fr z = some (vv v)) (s : MapO kv vv lo h m l) :
    ∃ h', SU X wm ⟨d, .mapUpdate t x y z, ty, p, af, g⟩ fr h h' true ∧ Up lo (fun j => m = some j) h h' ∧ MapO kv vv lo h' m (mset l k v) := by
  obtain ⟨i, rfl⟩ := Option.isSome_iff_exists.1 hm
  have hlo := s.low i rfl
  rcases s.at_.mem with ⟨q, _⟩ | ⟨j, bs, clk, q, h1, h2, h3, h4⟩
  · cases q
  · cases q
    have key : ∀ E, amapUpdate X.P h t (.map (some i)) (kv k) (vv v) = some E → aop X h (aev fr) ⟨d, .mapUpdate t x y z, ty, p, af, g⟩ = some (.skip, E) := fun E hE => by
      show (match aev fr x, aev fr y, aev fr z with | some m, some k, some x => sE (amapUpdate X.P h t m k x) | _, _, _ => none) = _
      rw [hx, hy, hz]; dsimp only; rw [hE]; rfl
    have ham : amap h (.map (some i)) = some (mkEs kv vv l bs, clk) := by unfold amap; dsimp only; rw [h1]
    cases e : mfind l k with
    | some q =>
      have hq := mfind_some e
      have hql : q.1 < bs.length := by rw [h2]; exact (List.getElem?_eq_some_iff.1 hq).1
      have hbq : bs[q.1]? = some bs[q.1] := List.getElem?_eq_getElem hql
      have hmod : (mkEs kv vv l bs).modify q.1 (fun e => { e with key := kv k, val := vv v }) = mkEs kv vv (l.modify q.1 fun p => (p.1, v)) bs := by
        have h5 : (mkEs kv vv l bs).modify q.1 (fun e => { e with key := kv k, val := vv v }) = mkEs kv vv (l.modify q.1 fun _ => (k, v)) bs := mkEs_modify _ _ (fun p b => rfl) _
        rw [h5]
        congr 1
        apply List.ext_getElem?
        intro n
        rw [List.getElem?_modify, List.getElem?_modify]
        by_cases hn : q.1 = n
        · subst hn; rw [hq]; simp
        · simp [hn]
      refine ⟨_, ⟨.upd i (.map (mkEs kv vv (l.modify q.1 fun p => (p.1, v)) bs) clk), key _ ?_, eff_upd (Nat.le_trans hw hlo) h1, fun z => by cases z⟩, up_put hlo h1, ⟨⟨.inr ⟨i, bs, clk, rfl, ?_, ?_, h3, h4⟩⟩, s.low⟩⟩
      · unfold amapUpdate
        rw [hu, ham]
        dsimp only
        rw [K.ok, cond_true, afind_mk K k l bs h2, e]
        dsimp only [Option.map_some]
        rw [mkEs_get hq hbq]
        dsimp only
        rw [K.same, cond_true, hmod]
      · rw [at_put_same (map_lt h1)]; unfold mset; rw [e]
      · unfold mset; rw [e]; simpa using h2
    | none =>
      refine ⟨_, ⟨.upd i (.map (mkEs kv vv (l ++ [(k, v)]) (bs ++ [clk])) (clk + 1)), key _ ?_, eff_upd (Nat.le_trans hw hlo) h1, fun z => by cases z⟩, up_put hlo h1, ⟨⟨.inr ⟨i, bs ++ [clk], clk + 1, rfl, ?_, ?_, ?_, ?_⟩⟩, s.low⟩⟩
      · unfold amapUpdate
        rw [hu, ham]
        dsimp only
        rw [K.ok, cond_true, afind_mk K k l bs h2, e, mkEs_append h2]; rfl
      · rw [at_put_same (map_lt h1)]; unfold mset; rw [e]
      · unfold mset; rw [e]; simp [h2]
      · rw [List.nodup_append]; exact ⟨h3, by simp, fun a ha b hb => by simp at hb; subst hb; exact Nat.ne_of_lt (h4 a ha)⟩
      · intro b hb
        rw [List.mem_append] at hb
        rcases hb with hb | hb
        · have := h4 b hb; omega
        · simp at hb; omega
end
end Go.Abs
end
end
section
noncomputable section
namespace Go.Abs
open Go.Lf
variable {P : Program}
theorem ck_str {e : Bool} {t : TypeId} {v : Value} {d : Nat} (hu : P.underlying t = some .string) : pureRun P (Instr.checkKey e (d + 1) t v) = some (.ok ()) := by
  unfold Instr.checkKey
  rw [prb (pr_underlying hu)]; rfl
end Go.Abs
end
end
section
noncomputable section
namespace Go.Abs
open Go.Lf
variable {X : Ctx} {n wm lo : Nat} {Q : XX → Fs → Prop} {fr : Fr} {ds : List Deferred} {h : H}
def RdOK (X : Ctx) (l : Nat) (args : Array Value) (wm : Nat) (h : H) (R : Bool → H → Prop) : Prop := ∃ b h', R b h' ∧ JobOK X (.round l args wm h) (.fin (.ret (.bool b)) h')
section
variable {ops : Array Oper} {ol : List Oper} {d : Nat} {ty : TypeId} {p : String} {af : Array Edge} {g : Option (Nat × Bool)} {rd : Option Nat}
theorem WO.round {l : Nat} {args : Array Value} {E : Eff} {v : Value} {h1 h2 : H} {op : Op} (hg : GuardOn ops ⟨some d, op, ty, p, af, g⟩ fr) (hd : Nat.blt d n = true) (ha : aop X h (aev fr) ⟨some d, op, ty, p, af, g⟩ = some (.round l args, E)) (hE : E.apply wm h = some h1)
    (hc : JobOK X (.round l args wm h1) (.fin (.ret v) h2)) (k : WO X n wm rd ops ol ⟨Tr.set fr d v, ds, h2, none⟩ Q) : WO X n wm rd ops (⟨some d, op, ty, p, af, g⟩ :: ol) ⟨fr, ds, h, none⟩ Q := by
  have hd' : dstOk n (some d) = true := hd
  refine WO.cons (oneJob_ok hc) (s1 := ⟨Tr.set fr d v, ds, h2, none⟩) ?_ k
  unfold astep
  rw [hg.1, hg.2]
  dsimp only [Bool.not_true, cond_false, cond_true]
  rw [ha]
  dsimp only [Bool.not_true, cond_false, cond_true]
  rw [hE]
  unfold aupon
  dsimp only [withH_eq, cond_false]
  rw [oneJob_eq]
  dsimp only
  rw [aput_ok hd']
  rfl
theorem WO.yld {l : Nat} {fo : Operand} {xs : Array Operand} {ts : Array TypeId} {vs : List Value} {R : Bool → H → Prop} {st : LoopState} {pd : Option Code} {fr' : Fr} {n' : Nat} {ps : Array Tmp} {as_ bd : Code} {df : Nat}
    (hg : GuardOn ops ⟨some d, .call { callee := .value fo, args := xs, argTypes := ts }, ty, p, af, g⟩ fr) (hd : Nat.blt d n = true) (hf : aev fr fo = some (.func (.yield l) #[] #[])) (hx : evs (aev fr) xs.toList = some vs)
    (hat : h.at l = .loop st pd fr' n' ps as_ bd df) (hl : vs.length = ps.toList.length) (hr : RdOK X l vs.toArray wm h R) (k : ∀ b h', R b h' → WO X n wm rd ops ol ⟨Tr.set fr d (.bool b), ds, h', none⟩ Q) :
    WO X n wm rd ops (⟨some d, .call { callee := .value fo, args := xs, argTypes := ts }, ty, p, af, g⟩ :: ol) ⟨fr, ds, h, none⟩ Q := by
  obtain ⟨b, h', hR, hj⟩ := hr
  refine WO.round (E := .none) hg hd ?_ rfl hj (k b h' hR)
  rw [aop_value, hx]
  dsimp only
  rw [hf]
  dsimp only
  unfold acall
  dsimp only
  rw [hat]
  dsimp only
  rw [hl, Nat.beq_refl]; rfl
theorem WO.gsplit {o : Oper} {c : Bool} (_ : GuardIs ops o fr c) (h1 : c = true → WO X n wm rd ops (o :: ol) ⟨fr, ds, h, none⟩ Q) (h2 : c = false → WO X n wm rd ops (o :: ol) ⟨fr, ds, h, none⟩ Q) : WO X n wm rd ops (o :: ol) ⟨fr, ds, h, none⟩ Q := by
  cases c
  · exact h2 rfl
  · exact h1 rfl
theorem GuardIs.on {o : Oper} {c : Bool} (hg : GuardIs ops o fr c) (hc : c = true) : GuardOn ops o fr := ⟨hg.1, hg.2.trans hc⟩
theorem GuardIs.off {o : Oper} {c : Bool} (hg : GuardIs ops o fr c) (hc : c = false) : GuardOff ops o fr := ⟨hg.1, hg.2.trans hc⟩
end
structure RetL (X : Ctx) (fn : Func) (wm : Nat) (Q : AEnd → H → Prop) (e : XX) (s : Fs) : Prop where
  out : ∃ pm E h', xPM e = some pm ∧ Q E h' ∧ JobOK X (.leave fn wm pm s) (.fin E h')
theorem WF.enterL {f : FuncId} {fn : Func} {c : Code} {args : Array Value} {Q : AEnd → H → Prop} (hf : X.fns.get f = some fn) (hb : fn.body = some c) (hn : args.toList.length ≤ fn.ntmps)
    (k : WC X fn.ntmps wm none c { fr := frameOf args.toList 0 .nil, ds := [], h := h } (RetL X fn wm Q)) : WF X f args wm h Q := by
  obtain ⟨e, s', ⟨pm, E, h', hpm, hq, hj⟩, ka⟩ := k
  refine ⟨E, h', hq, ?_⟩
  intro ρ args' w hwm hr hv
  have hi : Inv ρ fn.ntmps { fr := frameOf args.toList 0 .nil, ds := [], h := h } { tmps := args' ++ Array.replicate (fn.ntmps - args'.size) undef, defers := [] } w :=
    ⟨hr, frameOf_sound hv hn, .nil⟩
  refine callsIn_of_wp_marks (X.ok f fn hf).1 hb trivial (wpIn_mono (ka ρ _ w Fence.wide hwm hi rfl) ?_)
  rintro e' a' w' ⟨ρ', he, hi', hst⟩
  cases he with
  | normal => cases hpm; exact hj ρ' _ a' .returning w' _ (Nat.le_trans hwm hst.size) hi' .ret (fun _ _ hp => PostF.trans hr.lt hst hp)
  | ret => cases hpm; exact hj ρ' _ a' .returning w' _ (Nat.le_trans hwm hst.size) hi' .ret (fun _ _ hp => PostF.trans hr.lt hst hp)
  | panic hv' => cases hpm; exact hj ρ' _ a' _ w' _ (Nat.le_trans hwm hst.size) hi' (.pan hv') (fun _ _ hp => PostF.trans hr.lt hst hp)
  | exit id => cases hpm
  | goto l => cases hpm
theorem WF.beginL {f : FuncId} {fn : Func} {c : Code} {args : List Value} {n : Nat} {R : AEnd → H → Prop} (hf : X.fns.get f = some fn) (hb : fn.body = some c) (hnt : fn.ntmps = n) (hn : args.length ≤ n)
    (k : WC X n wm none c ⟨frameOf args 0 .nil, [], h, none⟩ (RetL X fn wm R)) : WF X f args.toArray wm h R := by
  subst hnt
  exact WF.enterL hf hb hn k
theorem leave_nil {fn : Func} {v : Value} {wr : Option Nat} (hv : aresult X.P fn fr h = some v) : JobOK X (.leave fn wm .ret ⟨fr, [], h, wr⟩) (.fin (.ret v) h) := by
  refine evLeave_sound (C := cfg X fun _ => false) (ih := fun _ => none) (fun _ _ h => by cases h) ?_
  have hv' : aresult (cfg X fun _ => false).X.P fn fr h = some v := hv
  unfold evLeave
  simp only [hv']
theorem leave_col {fn : Func} {pm : PM} {r : Nat} {wr : Option Nat} {E : AEnd} {h' : H} (hat : h.at r = .deferred) (hw : wm ≤ r) (hj : JobOK X (.leave fn wm pm ⟨fr, ds, h.put r .dead, wr⟩) (.fin E h')) : JobOK X (.leave fn wm pm ⟨fr, ⟨.collected r, #[]⟩ :: ds, h, wr⟩) (.fin E h') := by
  refine evLeave_sound (C := cfg X fun _ => false) (ih := oneJob (.leave fn wm pm ⟨fr, ds, h.put r .dead, wr⟩) (.fin E h')) (oneJob_ok hj) ?_
  unfold evLeave
  dsimp only
  rw [hat]
  dsimp only
  rw [Nat.ble_eq_true_of_le hw, cond_true]
  exact oneJob_eq _ _
theorem RetL.gen {fn : Func} {R : Value → H → Prop} {rs : List ResultVar} {vs : List Value} {v : Value} (hr : fn.results.toList = rs) (hv : ares X.P fr h rs = some vs) (hl : (match vs with | [v] => v | vs => .tuple vs.toArray) = v) (k : R v h) : RetL X fn wm (fun e h' => ∃ v, e = .ret v ∧ R v h') .ret ⟨fr, [], h, none⟩ := by
  refine ⟨⟨.ret, .ret v, h, rfl, ⟨v, rfl, k⟩, leave_nil ?_⟩⟩
  unfold aresult
  rw [hr, hv, ← hl]
  match vs with
  | [] => rfl
  | [_] => rfl
  | _ :: _ :: _ => rfl
theorem RetL.col {fn : Func} {R : AEnd → H → Prop} {r : Nat} (lo : Nat) (hlo : lo ≤ r) (hat : h.at r = .deferred) (hw : wm ≤ r) (k : ∀ h', Up lo (fun i => i = r) h h' → RetL X fn wm R .ret ⟨fr, ds, h', none⟩) : RetL X fn wm R .ret ⟨fr, ⟨.collected r, #[]⟩ :: ds, h, none⟩ := by
  have hu : Up lo (fun i => i = r) h (h.put r .dead) := Up.put hlo (by rw [hat]; rfl)
  obtain ⟨pm, E, h', hpm, hq, hj⟩ := (k _ hu).out
  cases hpm
  exact ⟨⟨.ret, E, h', rfl, hq, leave_col hat hw hj⟩⟩
section
variable {ops : Array Oper} {ol : List Oper} {d : Nat} {ty : TypeId} {p : String} {af : Array Edge} {g : Option (Nat × Bool)} {rd : Option Nat} {mm : Nat} {sf : SfT} {QQ : Fr → H → Prop} {κ ν : Type} [DecidableEq κ] {kt vt : TypeId} {kv : κ → Value} {vv : ν → Value} {m : Option Nat} {l : List (κ × ν)}
end
theorem WO.offO {ops : Array Oper} {ol : List Oper} {d : Nat} {op : Op} {ty : TypeId} {p : String} {af : Array Edge} {g : Option (Nat × Bool)} {rd : Option Nat} {c : Bool} (hg : GuardIs ops ⟨some d, op, ty, p, af, g⟩ fr c) (hc : c = false) (hd : Nat.blt d n = true) (k : WO X n wm rd ops ol ⟨Tr.set fr d undef, ds, h, none⟩ Q) :
    WO X n wm rd ops (⟨some d, op, ty, p, af, g⟩ :: ol) ⟨fr, ds, h, none⟩ Q := WO.o (hg.off hc) hd k
section
variable {ops : Array Oper} {ol : List Oper} {d : Nat} {ty : TypeId} {p : String} {af : Array Edge} {g : Option (Nat × Bool)} {rd : Option Nat} {mm : Nat} {sf : SfT} {QQ : Fr → H → Prop} {κ ν : Type} [DecidableEq κ] {kt vt : TypeId} {kv : κ → Value} {vv : ν → Value} {m : Option Nat} {l : List (κ × ν)}
end
end Go.Abs
end
end
section
noncomputable section
namespace Go.Abs
open Go.Lf
theorem own_lt {h : H} {i : Nat} (e : (h.at i).own = true) : i < h.size := by
  rcases Nat.lt_or_ge i h.size with z | z
  · exact z
  · rw [H.at_ge z] at e; cases e
structure Ast (wm : Nat) where
  P : H → Prop
  fp : Nat → Prop
  loc : ∀ {h h' : H}, Fz wm h h' → (∀ i, fp i → h'.at i = h.at i) → P h → P h'
  own : ∀ {h : H} {i : Nat}, P h → fp i → wm ≤ i ∧ (h.at i).own = true
def Dj {wm : Nat} (A B : Ast wm) : Prop := ∀ i, A.fp i → B.fp i → False
theorem Dj.symm {wm : Nat} {A B : Ast wm} (h : Dj A B) : Dj B A := fun i a b => h i b a
structure Hold {wm : Nat} (G : List (Ast wm)) (h : H) : Prop where
  all : ∀ A ∈ G, A.P h
  dis : G.Pairwise Dj
def Fps {wm : Nat} (G : List (Ast wm)) (i : Nat) : Prop := ∃ A ∈ G, A.fp i
structure Sp (wm : Nat) (T : Nat → Prop) (h0 : H) (G : List (Ast wm)) (h : H) : Prop where
  wl : wm ≤ h0.size
  fz : Fz wm h0 h
  keep : ∀ i, i < h0.size → ¬ T i → h.at i = h0.at i
  hold : Hold G h
  inn : ∀ i, Fps G i → T i ∨ h0.size ≤ i
inductive Pk {α : Type} : List α → α → List α → Prop
  | z {A : α} {G : List α} : Pk (A :: G) A G
  | s {A B : α} {G G' : List α} : Pk G A G' → Pk (B :: G) A (B :: G')
theorem Pk.perm {α : Type} {G G' : List α} {A : α} (p : Pk G A G') : G.Perm (A :: G') := by
  induction p with
  | z => exact List.Perm.refl _
  | s _ ih => exact (List.Perm.cons _ ih).trans (List.Perm.swap _ _ _)
theorem Pk.mem {α : Type} {G G' : List α} {A : α} (p : Pk G A G') : A ∈ G := p.perm.mem_iff.2 (by simp)
inductive Sel {α : Type} : List α → List α → List α → Prop
  | n {G : List α} : Sel G [] G
  | c {A : α} {G G1 Ga Gr : List α} : Pk G A G1 → Sel G1 Ga Gr → Sel G (A :: Ga) Gr
theorem Sel.perm {α : Type} {G Ga Gr : List α} (p : Sel G Ga Gr) : G.Perm (Ga ++ Gr) := by
  induction p with
  | n => exact List.Perm.refl _
  | c p _ ih => exact p.perm.trans (List.Perm.cons _ ih)
section
variable {wm : Nat} {G Ga Gb Gr : List (Ast wm)} {h h' h0 : H} {T t : Nat → Prop} {A B : Ast wm}
theorem Hold.perm (p : G.Perm Ga) (s : Hold G h) : Hold Ga h := ⟨fun A m => s.all A (p.mem_iff.2 m), (p.pairwise_iff (fun h => Dj.symm h)).1 s.dis⟩
theorem Hold.left (s : Hold (Ga ++ Gr) h) : Hold Ga h := ⟨fun A m => s.all A (List.mem_append.2 (.inl m)), (List.pairwise_append.1 s.dis).1⟩
theorem Hold.right (s : Hold (Ga ++ Gr) h) : Hold Gr h := ⟨fun A m => s.all A (List.mem_append.2 (.inr m)), (List.pairwise_append.1 s.dis).2.1⟩
theorem Hold.nil : Hold ([] : List (Ast wm)) h := ⟨fun _ m => by simp at m, .nil⟩
theorem Hold.one (a : A.P h) : Hold [A] h := ⟨fun _ m => by rw [List.mem_singleton.1 m]; exact a, List.pairwise_singleton _ _⟩
theorem Fps.perm (p : G.Perm Ga) {i : Nat} (s : Fps G i) : Fps Ga i := let ⟨A, m, f⟩ := s; ⟨A, p.mem_iff.1 m, f⟩
theorem Hold.own (s : Hold G h) {i : Nat} (f : Fps G i) : wm ≤ i ∧ (h.at i).own = true := let ⟨A, m, f⟩ := f; A.own (s.all A m) f
theorem Sp.perm (p : G.Perm Ga) (s : Sp wm T h0 G h) : Sp wm T h0 Ga h := ⟨s.wl, s.fz, s.keep, s.hold.perm p, fun i f => s.inn i (f.perm p.symm)⟩
theorem Sp.size (s : Sp wm T h0 G h) : h0.size ≤ h.size := s.fz.size
theorem Sp.hw (s : Sp wm T h0 G h) : wm ≤ h.size := Nat.le_trans s.wl s.fz.size
theorem Sp.start (hw : wm ≤ h.size) (s : Hold G h) : Sp wm (Fps G) h G h := ⟨hw, Fz.refl _ _, fun _ _ _ => rfl, s, fun _ f => .inl f⟩
theorem Sp.step (s : Sp wm T h0 (Ga ++ Gr) h) (u : Up wm t h h') (ht : ∀ i, t i → Fps Ga i) (hb : Hold Gb h') (hf : ∀ i, Fps Gb i → Fps Ga i ∨ h.size ≤ i) : Sp wm T h0 (Gb ++ Gr) h' := by
  have hd := (List.pairwise_append.1 s.hold.dis).2.2
  have hsep : ∀ i, Fps Ga i → Fps Gr i → False := fun i ⟨A, m, f⟩ ⟨B, m', f'⟩ => hd A m B m' i f f'
  have hr := s.hold.right
  refine ⟨s.wl, s.fz.trans (u.fz (Nat.le_refl _)), fun i hi hn => ?_, ⟨fun A m => ?_, ?_⟩, fun i f => ?_⟩
  · have hnt : ¬ t i := fun q => by
      rcases s.inn i (by obtain ⟨A, m, f⟩ := ht i q; exact ⟨A, List.mem_append.2 (.inl m), f⟩) with z | z
      · exact hn z
      · omega
    rw [u.keep i (Nat.lt_of_lt_of_le hi s.size) hnt, s.keep i hi hn]
  · rcases List.mem_append.1 m with m | m
    · exact hb.all A m
    · exact A.loc (u.fz (Nat.le_refl _)) (fun i f => u.keep i (own_lt (A.own (hr.all A m) f).2) (fun q => hsep i (ht i q) ⟨A, m, f⟩)) (hr.all A m)
  · refine List.pairwise_append.2 ⟨hb.dis, hr.dis, fun B m A m' i f f' => ?_⟩
    rcases hf i ⟨B, m, f⟩ with z | z
    · exact hsep i z ⟨A, m', f'⟩
    · exact absurd (own_lt (A.own (hr.all A m') f').2) (Nat.not_lt_of_le z)
  · obtain ⟨A, m, f⟩ := f
    rcases List.mem_append.1 m with m | m
    · rcases hf i ⟨A, m, f⟩ with ⟨B, m', f'⟩ | z
      · exact s.inn i ⟨B, List.mem_append.2 (.inl m'), f'⟩
      · exact .inr (Nat.le_trans s.size z)
    · exact s.inn i ⟨A, List.mem_append.2 (.inr m), f⟩
theorem Sp.new (s : Sp wm T h0 Gr h) (u : Up wm (fun _ => False) h h') (hb : B.P h') (hf : ∀ i, B.fp i → h.size ≤ i) : Sp wm T h0 (B :: Gr) h' :=
  Sp.step (Ga := []) (Gb := [B]) s u (fun _ z => z.elim) (Hold.one hb) fun i ⟨A, m, f⟩ => by rw [List.mem_singleton.1 m] at f; exact .inr (hf i f)
theorem Sp.one (p : Pk G A Gr) (s : Sp wm T h0 G h) (u : Up wm t h h') (ht : ∀ i, t i → A.fp i) (hb : B.P h') (hf : ∀ i, B.fp i → A.fp i ∨ h.size ≤ i) : Sp wm T h0 (B :: Gr) h' :=
  Sp.step (Ga := [A]) (Gb := [B]) (s.perm p.perm) u (fun i q => ⟨A, by simp, ht i q⟩) (Hold.one hb) fun i ⟨C, m, f⟩ => by
    rw [List.mem_singleton.1 m] at f
    exact (hf i f).imp (fun z => ⟨A, by simp, z⟩) id
theorem Sp.get (s : Sp wm T h0 G h) (p : Pk G A Gr) : A.P h := s.hold.all A p.mem
theorem Sp.only (p : Sel G Ga Gr) (s : Sp wm T h0 G h) : Sp wm T h0 Ga h := by
  have s := s.perm p.perm
  exact ⟨s.wl, s.fz, s.keep, s.hold.left, fun i ⟨B, m, f⟩ => s.inn i ⟨B, by simp [m], f⟩⟩
theorem Sp.add (s : Sp wm T h0 G h) (ha : A.P h) (hf : ∀ i, ¬ A.fp i) : Sp wm T h0 (A :: G) h :=
  ⟨s.wl, s.fz, s.keep, ⟨fun B m => by rcases List.mem_cons.1 m with m | m; · rw [m]; exact ha
                                      · exact s.hold.all B m, List.pairwise_cons.2 ⟨fun B _ i f _ => hf i f, s.hold.dis⟩⟩, fun i ⟨B, m, f⟩ => by
    rcases List.mem_cons.1 m with m | m
    · rw [m] at f; exact absurd f (hf i)
    · exact s.inn i ⟨B, m, f⟩⟩
theorem Sp.call (p : Sel G Ga Gr) (s : Sp wm T h0 G h) (c : Sp wm (Fps Ga) h Gb h') : Sp wm T h0 (Gb ++ Gr) h' := by
  have s := s.perm p.perm
  exact Sp.step s ⟨c.size, c.keep, fun i f => s.hold.left.own f⟩ (fun _ q => q) c.hold c.inn
theorem Sp.hold_of (p : Sel G Ga Gr) (s : Sp wm T h0 G h) : Hold Ga h := (s.hold.perm p.perm).left
end
def bx (wm b : Nat) (cs : List Value) : Ast wm where
  P := fun h => h.at b = .row cs true 0 ∧ wm ≤ b
  fp := fun i => i = b
  loc := fun _ k ⟨h1, h2⟩ => ⟨by rw [k b rfl, h1], h2⟩
  own := fun ⟨h1, h2⟩ e => by subst e; exact ⟨h2, by rw [h1]; rfl⟩
def ow {α : Type} (wm : Nat) (e : Rdr α) (a : Option Addr) (n c : Nat) (xs : List α) : Ast wm where
  P := fun h => n = xs.length ∧ OwnS e wm wm h a c xs
  fp := BaseA a
  loc := fun f k ⟨h1, s⟩ => ⟨h1, s.max, s.mem.imp id fun ⟨i, o, cs, q1, q2, q3, q4, q5, q6⟩ => ⟨i, o, cs, q1, q2, by rw [k i ⟨o, q1⟩, q3], q4, q5, q6.mono f⟩⟩
  own := fun ⟨_, s⟩ ⟨o, e⟩ => by
    rcases s.mem with ⟨h1, _⟩ | ⟨i, o', cs, q1, q2, q3, _⟩
    · rw [h1] at e; cases e
    · rw [q1] at e; cases e; exact ⟨q2, by rw [q3]; rfl⟩
def mp {κ ν : Type} (wm : Nat) (kv : κ → Value) (vv : ν → Value) (m : Option Nat) (l : List (κ × ν)) : Ast wm where
  P := fun h => MapO kv vv wm h m l
  fp := fun i => m = some i
  loc := fun _ k s => ⟨s.at_.keep k, s.low⟩
  own := fun {h i} s e => ⟨s.low i e, by
    rcases s.at_.mem with ⟨q, _⟩ | ⟨j, bs, clk, q, h1, _⟩
    · rw [q] at e; cases e
    · rw [q] at e; cases e; rw [h1]; rfl⟩
def ob (wm b : Nat) (A : AObj) : Ast wm where
  P := fun h => h.at b = A ∧ wm ≤ b ∧ A.own = true
  fp := fun i => i = b
  loc := fun _ k ⟨h1, h2⟩ => ⟨by rw [k b rfl, h1], h2⟩
  own := fun ⟨h1, h2, h3⟩ e => by subst e; exact ⟨h2, by rw [h1]; exact h3⟩
section
variable {wm : Nat} {G Gr : List (Ast wm)} {h h0 : H} {T : Nat → Prop}
theorem Sp.atB {b : Nat} {cs : List Value} (s : Sp wm T h0 G h) (p : Pk G (bx wm b cs) Gr) : At h b 0 cs := At.box (s.get p).1
theorem Sp.osrc {α : Type} {e : Rdr α} {a : Option Addr} {n c : Nat} {xs : List α} (s : Sp wm T h0 G h) (p : Pk G (ow wm e a n c xs) Gr) : Src e wm h a c xs := (s.get p).2.src
theorem Sp.ord {α : Type} {e : Rdr α} {a : Option Addr} {n c : Nat} {xs : List α} (s : Sp wm T h0 G h) (p : Pk G (ow wm e a n c xs) Gr) : Sl e h.size h a c xs := (s.osrc p).sl s.hw
theorem Sp.on {α : Type} {e : Rdr α} {a : Option Addr} {n c : Nat} {xs : List α} (s : Sp wm T h0 G h) (p : Pk G (ow wm e a n c xs) Gr) : n = xs.length := (s.get p).1
theorem Sp.mrd {κ ν : Type} {kv : κ → Value} {vv : ν → Value} {m : Option Nat} {l : List (κ × ν)} (s : Sp wm T h0 G h) (p : Pk G (mp wm kv vv m l) Gr) : MapS kv vv h.size h m l := MapAt.all (s.get p).at_
theorem Sp.sl {α : Type} {e : Rdr α} {a : Option Addr} {c : Nat} {xs : List α} (s : Sp wm T h0 G h) (f : Sl e wm h0 a c xs) : Sl e wm h a c xs := f.mono s.fz
theorem Sp.slu {α : Type} {e : Rdr α} {a : Option Addr} {c : Nat} {xs : List α} (s : Sp wm T h0 G h) (f : Sl e wm h0 a c xs) : Sl e h.size h a c xs := (f.mono s.fz).up s.hw
end
end Go.Abs
end
end
section
noncomputable section
namespace Go.Abs
open Go.Lf
variable {X : Ctx} {n wm : Nat} {rd : Option Nat} {ops : Array Oper} {l : List Oper} {fr : Fr} {ds : List Deferred} {h h1 h2 : H} {ty : TypeId} {p : String} {af : Array Edge} {g : Option (Nat × Bool)} {m : Nat}
structure ST where
  s : List (Nat × (Nat → Prop))
  m : List (Nat × (Nat → Prop))
  p : List (Nat × Nat × Nat × (AObj → Prop))
variable {sf : ST} {Q : Fr → H → Prop}
end Go.Abs
end
end
section
noncomputable section
namespace Go.Abs
open Go.Lf
variable {X : Ctx} {n wm : Nat} {rd : Option Nat} {ops : Array Oper} {l : List Oper} {fr : Fr} {ds : List Deferred} {h h1 h2 h0 : H} {ty : TypeId} {p : String} {af : Array Edge} {g : Option (Nat × Bool)} {m : Nat}
variable {sf : ST} {Q : Fr → H → Prop}
theorem WO.w {Q : XX → Fs → Prop} {d : Nat} {op : Op} {v : Value} (hg : GuardOn ops ⟨some d, op, ty, p, af, g⟩ fr) (hd : Nat.blt d n = true) (ha : aop X h (aev fr) ⟨some d, op, ty, p, af, g⟩ = some (.val v, .none)) (k : WO X n wm rd ops l ⟨Tr.set fr d v, ds, h, none⟩ Q) :
    WO X n wm rd ops (⟨some d, op, ty, p, af, g⟩ :: l) ⟨fr, ds, h, none⟩ Q := WO.v hg hd ha rfl k
open Classical in
def HV (X : Ctx) (wm : Nat) (o : Oper) (fr : Fr) (h : H) (T : Nat → Prop) (K : Value → H → Prop) : Prop := ∃ v E h1, aop X h (aev fr) o = some (.val v, E) ∧ E.apply wm h = some h1 ∧ (∀ x, E.tgt = some x → T x) ∧ h.size ≤ h1.size ∧ K v h1
def HU (X : Ctx) (wm : Nat) (o : Oper) (fr : Fr) (h : H) (T : Nat → Prop) (K : H → Prop) : Prop := ∃ E h1, aop X h (aev fr) o = some (.skip, E) ∧ E.apply wm h = some h1 ∧ (∀ x, E.tgt = some x → T x) ∧ h.size ≤ h1.size ∧ K h1
theorem WO.hv {Q : XX → Fs → Prop} {d : Nat} {op : Op} {T : Nat → Prop} {K : Value → H → Prop} (hg : GuardOn ops ⟨some d, op, ty, p, af, g⟩ fr) (hd : Nat.blt d n = true) (s : HV X wm ⟨some d, op, ty, p, af, g⟩ fr h T K) (k : ∀ v h', K v h' → WO X n wm rd ops l ⟨Tr.set fr d v, ds, h', none⟩ Q) :
    WO X n wm rd ops (⟨some d, op, ty, p, af, g⟩ :: l) ⟨fr, ds, h, none⟩ Q := let ⟨v, _, h1, ha, hE, _, _, hk⟩ := s; WO.v hg hd ha hE (k v h1 hk)
theorem WO.hu {Q : XX → Fs → Prop} {op : Op} {T : Nat → Prop} {K : H → Prop} (hg : GuardOn ops ⟨none, op, ty, p, af, g⟩ fr) (s : HU X wm ⟨none, op, ty, p, af, g⟩ fr h T K) (k : ∀ h', K h' → WO X n wm rd ops l ⟨fr, ds, h', none⟩ Q) :
    WO X n wm rd ops (⟨none, op, ty, p, af, g⟩ :: l) ⟨fr, ds, h, none⟩ Q := let ⟨_, h1, ha, hE, _, _, hk⟩ := s; WO.u hg ha hE (k h1 hk)
theorem eff_new (h : H) {A : AObj} (hA : A.own = true) : Eff.apply wm h (.new A) = some (h.push A) := by show (bif A.own then some (h.push A) else none) = _; rw [hA]; rfl
def HN (X : Ctx) (wm : Nat) (o : Oper) (fr : Fr) (h : H) (K : Value → H → Prop) : Prop := ∃ v A, A.own = true ∧ (∀ g : H, g.size = h.size → aop X g (aev fr) o = some (.val v, .new A)) ∧ ∀ h', Up wm (fun _ => False) h h' → h'.at h.size = A → h'.size = h.size + 1 → K v h'
theorem WO.hn {Q : XX → Fs → Prop} {d : Nat} {op : Op} {K : Value → H → Prop} (hg : GuardOn ops ⟨some d, op, ty, p, af, g⟩ fr) (hd : Nat.blt d n = true) (s : HN X wm ⟨some d, op, ty, p, af, g⟩ fr h K) (k : ∀ v h', K v h' → WO X n wm rd ops l ⟨Tr.set fr d v, ds, h', none⟩ Q) :
    WO X n wm rd ops (⟨some d, op, ty, p, af, g⟩ :: l) ⟨fr, ds, h, none⟩ Q := let ⟨v, A, hA, ha, hk⟩ := s; WO.v hg hd (ha h rfl) (eff_new h hA) (k v _ (hk _ (Up.push wm h A) (at_push_new h A) (by simp)))
end Go.Abs
end
end
section
noncomputable section
namespace Go.Abs
open Go.Lf
variable {X : Ctx} {n wm : Nat} {rd : Option Nat} {ops : Array Oper} {l : List Oper} {fr : Fr} {ds : List Deferred} {h h1 h2 h0 : H} {ty : TypeId} {p : String} {af : Array Edge} {g : Option (Nat × Bool)} {m : Nat} {T : Nat → Prop} {G Gr Ga Gb : List (Ast wm)} {d : Nat} {sf : ST}
theorem s_box {x : Operand} {t : TypeId} {v : Value} {vs : List Value} (hS : Sp wm T h0 G h) (hx : aev fr x = some v) (hv : v.cells.toList = vs) :
    HN X wm ⟨some d, .box t x, ty, p, af, g⟩ fr h (fun v h' => ∃ b, h.size = b ∧ v = .pointer (some ⟨b, 0, none⟩) ∧ Sp wm T h0 (bx wm b vs :: G) h') := by
  subst hv
  refine ⟨.pointer (some ⟨h.size, 0, none⟩), .row v.cells.toList true 0, rfl, fun g' hz => ?_, fun h' u hat _ => ⟨h.size, rfl, rfl, hS.new u ⟨hat, hS.hw⟩ fun i e => Nat.le_of_eq e.symm⟩⟩
  rw [aop_box, hx]; dsimp only; rw [← hz]; rfl
theorem s_alc {t : TypeId} {v : Value} {vs : List Value} (hS : Sp wm T h0 G h) (hz : zeroP X.P t = some v) (hv : v.cells.toList = vs) :
    HN X wm ⟨some d, .alloc t, ty, p, af, g⟩ fr h (fun v h' => ∃ b, h.size = b ∧ v = .pointer (some ⟨b, 0, none⟩) ∧ Sp wm T h0 (bx wm b vs :: G) h') := by
  subst hv
  refine ⟨.pointer (some ⟨h.size, 0, none⟩), .row v.cells.toList true 0, rfl, fun g' hz' => ?_, fun h' u hat _ => ⟨h.size, rfl, rfl, hS.new u ⟨hat, hS.hw⟩ fun i e => Nat.le_of_eq e.symm⟩⟩
  rw [aop_alloc, hz]; dsimp only; rw [← hz']; rfl
theorem s_st {x y : Operand} {t : TypeId} {b o sz : Nat} {cs cs' vs : List Value} {v : Value} (hS : Sp wm T h0 G h) (pk : Pk G (bx wm b cs) Gr) (hs : sizeP X.P t = some sz) (hx : aev fr x = some (.pointer (some ⟨b, o, none⟩))) (hy : aev fr y = some v)
    (hvs : v.cells.toList = vs) (hn : Nat.beq vs.length sz = true) (hl : Nat.ble (o + sz) cs.length = true) (hc : vs.all Value.oneCell' = true) (hv : splice cs o vs = cs') :
    HU X wm ⟨none, .store t x y, ty, p, af, g⟩ fr h (fun i => i = b) (fun h' => Sp wm T h0 (bx wm b cs' :: Gr) h') := by
  obtain ⟨hr, hw⟩ := hS.get pk
  obtain ⟨e1, e2⟩ := st_ex (d := none) (ty := ty) (p := p) (af := af) (g := g) hs hx hy hr hw hvs (Nat.eq_of_beq_eq_true hn) (Nat.le_of_ble_eq_true hl) hc hv
  refine ⟨_, _, e1, e2, fun x hx => ?_, by simp, ?_⟩
  · simpa [Eff.tgt, eq_comm] using hx
  · exact hS.one pk (Up.put hw (by rw [hr]; rfl)) (fun i e => e) ⟨at_put_same (live_lt hr rfl) _, hw⟩ fun i e => .inl e
theorem av_lenO {x : Operand} {t e' : TypeId} {a : Option Addr} {mm cc : Nat} {k : Int} (hu : X.P.underlying t = some (.slice e')) (hx : aev fr x = some (.slice a mm cc)) (hk : (mm : Int) = k) :
    aop X h (aev fr) ⟨some d, .call { callee := .builtin .len, args := #[x], argTypes := #[t] }, ty, p, af, g⟩ = some (.val (.int .i64 k), .none) := by subst hk; exact av_len hu hx
section
variable {α : Type} {e : Rdr α}
theorem s_bs {t el : TypeId} {mm : Nat} {ps : Array (Nat × Operand)} {pvs : List (Nat × Value)} {z : Value} {zs : List Value} {xs : List α} (hS : Sp wm T h0 G h)
    (hu : X.P.underlying t = some (.slice el)) (hs : sizeP X.P el = some e.sz) (hz : zeroP X.P el = some z) (hzs : z.cells.toList = zs) (hzl : zs.length = e.sz) (hm : Nat.ble (mm * e.sz) 10000 = true) (hp : evp (aev fr) ps.toList = some pvs)
    (ho : fillOK (fun i => some (i * e.sz, e.sz)) (zrep zs mm).length pvs = true) (qs : List (e.Par × α)) (hv : fillR (fun i => i * e.sz) (zrep zs mm) pvs = qs.flatMap fun q => e.sh q.1 q.2) (hq : qs.map (·.2) = xs) (hF : ∀ q ∈ qs, e.F wm h q.1 q.2) (hlen : Nat.beq mm xs.length = true) :
    HN X wm ⟨some d, .buildSlice t mm ps, ty, p, af, g⟩ fr h (fun v h' => ∃ b, h.size = b ∧ v = .slice (some ⟨b, 0, none⟩) mm (2 * mm) ∧ Sp wm T h0 (ow wm e (some ⟨b, 0, none⟩) mm (2 * mm) xs :: G) h') := by
  have hlen := Nat.eq_of_beq_eq_true hlen
  subst hlen
  have hm' := Nat.le_of_ble_eq_true hm
  refine ⟨.slice (some ⟨h.size, 0, none⟩) xs.length (2 * xs.length), .row (qs.flatMap fun q => e.sh q.1 q.2) true e.sz, rfl, fun g' hz' => ?_, fun h' u hat _ => ⟨h.size, rfl, rfl, hS.new u ⟨rfl, ?_⟩ fun i ⟨o, e⟩ => by cases e; exact Nat.le_refl _⟩⟩
  · show (match evp (aev fr) ps.toList with
      | some ps => vE (aslit X.P g' t xs.length ps)
      | none => none) = _
    rw [hp]
    dsimp only
    unfold aslit
    rw [hu]; dsimp only
    rw [hs, hz]; dsimp only
    rw [hzs, hzl]
    have b1 : Nat.ble 1 e.sz = true := Nat.ble_eq_true_of_le e.pos
    rw [b1, hm, Nat.beq_refl]
    simp only [Bool.and_self, cond_true]
    rw [afill_eq (off := fun i => i * e.sz) (fun i p e => by cases e; rfl) _ _ ho, hv, hz']
    rfl
  · have hel := ElAt.of_list (h := h) (wm := wm) qs hF
    rw [hq] at hel
    have hl2 := hel.len
    have hmax : xs.length ≤ 9223372036854775807 := by
      have : xs.length * 1 ≤ xs.length * e.sz := Nat.mul_le_mul_left _ e.pos
      omega
    refine OwnS.mk' hmax hS.hw hat (by omega) ?_ (hel.mono (u.fz (Nat.le_refl _)))
    have : 2 * xs.length / 2 = xs.length := by omega
    rw [this]; omega
theorem aap_tgt {P : Program} {ts : Array TypeId} {a : Option Addr} {nn c : Nat} {y v : Value} {E : Eff} {x0 : Nat} (ha : aappend P h ts (.slice a nn c) y = some (v, E)) (ht : E.tgt = some x0) : BaseA a x0 := by
  unfold aappend at ha
  cases hi : appInfo P ts with
  | none => rw [hi] at ha; cases ha
  | some q =>
    obtain ⟨q1, sz, by_, q4⟩ := q
    rw [hi] at ha; dsimp only at ha
    cases hr : reads h y sz with
    | none => rw [hr] at ha; cases ha
    | some new =>
      rw [hr] at ha; dsimp only at ha
      cases hb : Nat.ble (nn + lenS y) (c / 2) with
      | true =>
        rw [hb, cond_true] at ha
        cases hz : Nat.beq (lenS y) 0 with
        | true => rw [hz, cond_true] at ha; cases ha; cases ht
        | false =>
          rw [hz, cond_false] at ha
          split at ha
          · split at ha
            · rw [Bool.cond_eq_ite] at ha
              split at ha
              · cases ha; cases ht; exact ⟨_, rfl⟩
              · cases ha
            · cases ha
          · cases ha
      | false =>
        rw [hb, cond_false] at ha
        cases hq : (Nat.ble ((2 * (nn + lenS y) + 1000) * by_) (2 ^ 47) && new.all Value.oneCell') with
        | false => rw [hq, cond_false] at ha; cases ha
        | true =>
          rw [hq, cond_true] at ha
          split at ha
          · cases hz : Nat.beq (c % 2) 0 with
            | true => rw [hz, cond_true] at ha; cases ha; cases ht
            | false =>
              rw [hz, cond_false] at ha
              split at ha
              · split at ha
                · rw [Bool.cond_eq_ite] at ha
                  split at ha
                  · cases ha; cases ht; exact ⟨_, rfl⟩
                  · cases ha
                · cases ha
              · cases ha
          · cases ha
theorem ap_tgt {ts : Array TypeId} {x y : Operand} {a : Option Addr} {nn c : Nat} {v w : Value} {E : Eff} {x0 : Nat} (hx : aev fr x = some (.slice a nn c)) (hy : aev fr y = some w) (ha : aop X h (aev fr) ⟨some d, .call { callee := .builtin .append, args := #[x, y], argTypes := ts }, ty, p, af, g⟩ = some (.val v, E)) (ht : E.tgt = some x0) : BaseA a x0 := by
  have hev : evs (aev fr) [x, y] = some [.slice a nn c, w] := evs_cons hx (evs_cons hy evs_nil)
  rw [aop_builtin] at ha
  have hev2 : evs (aev fr) (#[x, y] : Array Operand).toList = some [.slice a nn c, w] := hev
  rw [hev2] at ha
  replace ha : vE (aappend X.P h ts (.slice a nn c) w) = some (.val v, E) := ha
  cases hh : aappend X.P h ts (.slice a nn c) w with
  | none => rw [hh] at ha; cases ha
  | some q => rw [hh] at ha; obtain ⟨v', E'⟩ := q; cases ha; exact aap_tgt hh ht
theorem s_ap {ts : Array TypeId} {x y : Operand} {by_ : Nat} {a a2 : Option Addr} {nn n2 c c2 : Nat} {xs ys zs : List α} (hS : Sp wm T h0 G h) (pk : Pk G (ow wm e a nn c xs) Gr) (hi : AppAt X.P ts e.sz by_) (hx : aev fr x = some (.slice a nn c)) (hy : aev fr y = some (.slice a2 n2 c2)) (sr : Src e wm h a2 c2 ys) (hn : n2 = ys.length) (ha : app by_ xs ys = some zs) :
    HV X wm ⟨some d, .call { callee := .builtin .append, args := #[x, y], argTypes := ts }, ty, p, af, g⟩ fr h (BaseA a) (fun v h' => ∃ (a' : Option Addr) (c' : Nat), v = .slice a' zs.length c' ∧ Sp wm T h0 (ow wm e a' zs.length c' zs :: Gr) h') := by
  obtain ⟨h1, so⟩ := hS.get pk
  subst h1 hn
  refine ap_gen (K := HV X wm ⟨some d, .call { callee := .builtin .append, args := #[x, y], argTypes := ts }, ty, p, af, g⟩ fr h (BaseA a) (fun v h' => ∃ (a' : Option Addr) (c' : Nat), v = .slice a' zs.length c' ∧ Sp wm T h0 (ow wm e a' zs.length c' zs :: Gr) h'))
    (J := fun v h' => Up wm (BaseA a) h h' ∧ ∃ (a' : Option Addr) (c' : Nat), v = .slice a' zs.length c' ∧ Sp wm T h0 (ow wm e a' zs.length c' zs :: Gr) h') wm (fun v E h1 e1 e2 ⟨u, j⟩ => ⟨v, E, h1, e1, e2, fun x0 hx0 => ?_, u.size, j⟩) hi (Nat.le_refl _) hS.hw hx hy so sr ha
    (fun a' c' h' u so' hb => ⟨u, a', c', rfl, hS.one pk u (fun i q => q) ⟨rfl, so'⟩ fun i q => (hb i q).imp id fun z => Nat.le_of_eq z.symm⟩)
  exact ap_tgt hx hy e1 hx0
end
end Go.Abs
end
end
section
noncomputable section
namespace Go.Abs
open Go.Lf
variable {X : Ctx} {n wm : Nat} {rd : Option Nat} {ops : Array Oper} {l : List Oper} {fr : Fr} {ds : List Deferred} {h h1 h2 h0 : H} {ty : TypeId} {p : String} {af : Array Edge} {g : Option (Nat × Bool)} {m : Nat} {T : Nat → Prop} {G Gr Ga Gb : List (Ast wm)} {d : Nat} {sf : ST}
section
variable {P : Program} {t : TypeId} {i x0 : Nat} {k x : Value} {E : Eff}
theorem amu_tgt (ha : amapUpdate P h t (.map (some i)) k x = some E) (ht : E.tgt = some x0) : x0 = i := by
  unfold amapUpdate at ha
  split at ha
  · rename_i heq _
    cases heq
    rw [Bool.cond_eq_ite] at ha
    split at ha
    · split at ha
      · split at ha
        · rw [Bool.cond_eq_ite] at ha
          split at ha
          · cases ha; cases ht; rfl
          · cases ha
        · cases ha
      · cases ha; cases ht; rfl
      · cases ha
    · cases ha
  · cases ha
end
section
variable {κ ν : Type} [DecidableEq κ] {kt vt : TypeId} {kv : κ → Value} {vv : ν → Value} {i : Nat} {ll : List (κ × ν)}
theorem s_mkm {t : TypeId} (kv : κ → Value) (vv : ν → Value) (hS : Sp wm T h0 G h) :
    HN X wm ⟨some d, .makeMap t none, ty, p, af, g⟩ fr h (fun v h' => ∃ b, h.size = b ∧ v = .map (some b) ∧ Sp wm T h0 (mp wm kv vv (some b) [] :: G) h') :=
  ⟨.map (some h.size), .map [] 0, rfl, fun g' hz => by rw [← hz]; rfl, fun h' u hat _ => ⟨h.size, rfl, rfl, hS.new u ⟨⟨.inr ⟨h.size, [], 0, rfl, hat, rfl, by simp, by simp⟩⟩, fun i e => by cases e; exact hS.hw⟩ fun i e => by cases e; exact Nat.le_refl _⟩⟩
theorem s_upd {t : TypeId} {x y z : Operand} {k : κ} {v : ν} (hS : Sp wm T h0 G h) (pk : Pk G (mp wm kv vv (some i) ll) Gr) (K : KeyT X.P kt kv) (hu : X.P.underlying t = some (.map kt vt)) (hx : aev fr x = some (.map (some i))) (hy : aev fr y = some (kv k)) (hz : aev fr z = some (vv v)) :
    HU X wm ⟨none, .mapUpdate t x y z, ty, p, af, g⟩ fr h (fun j => j = i) (fun h' => Sp wm T h0 (mp wm kv vv (some i) (mset ll k v) :: Gr) h') := by
  obtain ⟨h', ⟨E, ha, hE, _⟩, u, ho⟩ := upd_su (d := none) (ty := ty) (p := p) (af := af) (g := g) K hu (Nat.le_refl wm) hx rfl hy hz (hS.get pk)
  refine ⟨E, h', ha, hE, fun x0 hx0 => ?_, u.size, hS.one pk u (fun j e => e) ho fun j e => .inl e⟩
  have ha' : (match aev fr x, aev fr y, aev fr z with | some m, some k, some x => sE (amapUpdate X.P h t m k x) | _, _, _ => none) = some (.skip, E) := ha
  rw [hx, hy, hz] at ha'
  dsimp only at ha'
  cases hh : amapUpdate X.P h t (.map (some i)) (kv k) (vv v) with
  | none => rw [hh] at ha'; cases ha'
  | some E' => rw [hh] at ha'; cases ha'; exact amu_tgt hh hx0
end
end Go.Abs
end
end
section
noncomputable section
namespace Go.Abs
open Go.Lf
variable {X : Ctx} {n wm : Nat} {rd : Option Nat} {ops : Array Oper} {l : List Oper} {fr : Fr} {ds : List Deferred} {h h1 h2 h0 : H} {ty : TypeId} {p : String} {af : Array Edge} {g : Option (Nat × Bool)} {m : Nat} {T : Nat → Prop} {G Gr Ga Gb : List (Ast wm)} {d : Nat} {sf : ST}
def CP {wm : Nat} (K : Value → List (Ast wm) → Prop) (Ga : List (Ast wm)) (h : H) : Value → H → Prop := fun v h' => ∃ Gb, K v Gb ∧ Sp wm (Fps Ga) h Gb h'
def Ent (X : Ctx) (fr : Fr) (o : Oper) (f : FuncId) (args : Array Value) : Prop := ∀ h : H, aop X h (aev fr) o = some (.enter f args, .none)
theorem Ent.fn {f : FuncId} {xs : Array Operand} {ts : Array TypeId} {vs : List Value} {d : Option Tmp} (hf : (X.fns.get f).isSome = true) (hx : evs (aev fr) xs.toList = some vs) : Ent X fr ⟨d, .call { callee := .value (.func f), args := xs, argTypes := ts }, ty, p, af, g⟩ f vs.toArray := fun h => by
  obtain ⟨fn, hf⟩ := Option.isSome_iff_exists.1 hf
  rw [aop_value, hx]
  dsimp only
  rw [aev_func]
  dsimp only
  exact acall_fn hf
theorem WO.en {Q : XX → Fs → Prop} {op : Op} {f : FuncId} {args : Array Value} {v : Value} {h2 : H} (hg : GuardOn ops ⟨some d, op, ty, p, af, g⟩ fr) (hd : Nat.blt d n = true) (he : Ent X fr ⟨some d, op, ty, p, af, g⟩ f args)
    (hc : JobOK X (.call f args wm h) (.fin (.ret v) h2)) (k : WO X n wm rd ops l ⟨Tr.set fr d v, ds, h2, none⟩ Q) : WO X n wm rd ops (⟨some d, op, ty, p, af, g⟩ :: l) ⟨fr, ds, h, none⟩ Q :=
  WO.call hg hd (he h) rfl hc k
theorem WO.cl {Q : XX → Fs → Prop} {op : Op} {f : FuncId} {args : Array Value} {K : Value → List (Ast wm) → Prop} (hg : GuardOn ops ⟨some d, op, ty, p, af, g⟩ fr) (hd : Nat.blt d n = true) (he : Ent X fr ⟨some d, op, ty, p, af, g⟩ f args) (hS : Sp wm T h0 G h) (pk : Sel G Ga Gr)
    (hc : ∀ g' : H, g'.size = h.size → Fz wm h g' → Hold Ga g' → WR X f args wm g' (CP K Ga g')) (k : ∀ v h' Gb, K v Gb → Sp wm T h0 (Gb ++ Gr) h' → WO X n wm rd ops l ⟨Tr.set fr d v, ds, h', none⟩ Q) :
    WO X n wm rd ops (⟨some d, op, ty, p, af, g⟩ :: l) ⟨fr, ds, h, none⟩ Q := by
  obtain ⟨e, h', ⟨v, rfl, Gb, hk, hs⟩, hj⟩ := hc h rfl (Fz.refl _ _) (hS.hold_of pk)
  exact WO.en hg hd he hj (k v h' Gb hk (hS.call pk hs))
open Classical in
theorem WO.cp {Q : XX → Fs → Prop} {op : Op} {f : FuncId} {args : Array Value} {v : Value} (hg : GuardOn ops ⟨some d, op, ty, p, af, g⟩ fr) (hd : Nat.blt d n = true) (he : Ent X fr ⟨some d, op, ty, p, af, g⟩ f args) (hj : Pure X f args h v) (k : WO X n wm rd ops l ⟨Tr.set fr d v, ds, h, none⟩ Q) :
    WO X n wm rd ops (⟨some d, op, ty, p, af, g⟩ :: l) ⟨fr, ds, h, none⟩ Q := WO.en hg hd he (hj wm) k
theorem WO.gcp {Q : XX → Fs → Prop} {op : Op} {f : FuncId} {args : Array Value} {v : Value} {c : Bool} (hg : GuardIs ops ⟨some d, op, ty, p, af, g⟩ fr c) (hd : Nat.blt d n = true) (he : c = true → Ent X fr ⟨some d, op, ty, p, af, g⟩ f args) (hj : c = true → Pure X f args h v) (k : WO X n wm rd ops l ⟨Tr.set fr d (cond c v undef), ds, h, none⟩ Q) :
    WO X n wm rd ops (⟨some d, op, ty, p, af, g⟩ :: l) ⟨fr, ds, h, none⟩ Q := by
  cases c
  · exact WO.offO hg rfl hd k
  · exact WO.cp hg hd (he rfl) (hj rfl) k
end Go.Abs
end
end
section
noncomputable section
namespace Go.Abs
open Go.Lf
theorem k0 {α : Type} {A : α} {G : List α} : Pk (A :: G) A G := .z
theorem k1 {α : Type} {A b : α} {G : List α} : Pk (b :: A :: G) A (b :: G) := .s k0
theorem k2 {α : Type} {A b c : α} {G : List α} : Pk (b :: c :: A :: G) A (b :: c :: G) := .s k1
theorem k3 {α : Type} {A b c d : α} {G : List α} : Pk (b :: c :: d :: A :: G) A (b :: c :: d :: G) := .s k2
theorem k4 {α : Type} {A b c d e : α} {G : List α} : Pk (b :: c :: d :: e :: A :: G) A (b :: c :: d :: e :: G) := .s k3
theorem k5 {α : Type} {A b c d e f : α} {G : List α} : Pk (b :: c :: d :: e :: f :: A :: G) A (b :: c :: d :: e :: f :: G) := .s k4
theorem k6 {α : Type} {A b c d e f g : α} {G : List α} : Pk (b :: c :: d :: e :: f :: g :: A :: G) A (b :: c :: d :: e :: f :: g :: G) := .s k5
theorem k7 {α : Type} {A b c d e f g h : α} {G : List α} : Pk (b :: c :: d :: e :: f :: g :: h :: A :: G) A (b :: c :: d :: e :: f :: g :: h :: G) := .s k6
theorem k8 {α : Type} {A b c d e f g h i : α} {G : List α} : Pk (b :: c :: d :: e :: f :: g :: h :: i :: A :: G) A (b :: c :: d :: e :: f :: g :: h :: i :: G) := .s k7
theorem k9 {α : Type} {A b c d e f g h i j : α} {G : List α} : Pk (b :: c :: d :: e :: f :: g :: h :: i :: j :: A :: G) A (b :: c :: d :: e :: f :: g :: h :: i :: j :: G) := .s k8
section
variable {wm : Nat} {G Ga Gr : List (Ast wm)} {h h0 : H} {T : Nat → Prop} {A B : Ast wm}
theorem Sp.nil {α : Type} (s : Sp wm T h0 G h) {e : Rdr α} : Sp wm T h0 (ow wm e none 0 0 ([] : List α) :: G) h := s.add ⟨rfl, OwnS.nil⟩ fun i => BaseA.none
theorem Sp.ms {κ ν : Type} {kv : κ → Value} {vv : ν → Value} {m : Option Nat} {l : List (κ × ν)} (s : Sp wm T h0 G h) (f : MapS kv vv wm h0 m l) : MapS kv vv wm h m l := f.fz s.fz
end
section
variable {X : Ctx} {h : H} {ev : Operand → Option Value} {d : Nat} {ty : TypeId} {p : String} {af : Array Edge} {g : Option (Nat × Bool)}
theorem av_ixn {α : Type} {xs : List α} {v : α} {x y : Operand} {t e : TypeId} {sz b o nn c : Nat} {a : Option Addr} {k : Int} (hu : X.P.underlying t = some (.slice e)) (hs : sizeP X.P e = some sz) (hx : ev x = some (.slice a nn c)) (hy : ev y = some (.int .i64 k)) (hn : nn = xs.length) (ha : a = some ⟨b, o, none⟩) (hk : geti xs k = some v) :
    aop X h ev ⟨some d, .indexAddr t x y, ty, p, af, g⟩ = some (.val (.pointer (some ⟨b, o + k.toNat * sz, none⟩)), .none) := by subst hn; exact av_ix hu hs hx hy ha hk
theorem av_pkT {q x y : Operand} {b : Bool} {v : Value} (hc : ev q = some (.bool b)) (hb : b = true) (hx : ev x = some v) : aop X h ev ⟨some d, .pick q x y, ty, p, af, g⟩ = some (.val v, .none) := by
  subst hb; rw [aop_pick, hc]; dsimp only; rw [hx]; rfl
theorem av_pkF {q x y : Operand} {b : Bool} {v : Value} (hc : ev q = some (.bool b)) (hb : b = false) (hy : ev y = some v) : aop X h ev ⟨some d, .pick q x y, ty, p, af, g⟩ = some (.val v, .none) := by
  subst hb; rw [aop_pick, hc]; dsimp only; rw [hy]; rfl
end
theorem WR.pureC {X : Ctx} {f : FuncId} {args : Array Value} {h : H} {v : Value} (hp : plain v = true) (k : WR X f args h.size h (CP (wm := h.size) (fun v' Gb => v' = v ∧ Gb = []) [] h)) : Pure X f args h v :=
  WF.pureR hp (k.mono fun _ _ ⟨v', h1, _, h2, _⟩ => ⟨v', h1, h2.1⟩)
end Go.Abs
end
end
section
noncomputable section
namespace Go.Abs
open Go.Lf
variable {X : Ctx} {n wm : Nat} {rd : Option Nat} {ops : Array Oper} {fr : Fr} {h h1 h2 h0 : H} {ty : TypeId} {p : String} {af : Array Edge} {g : Option (Nat × Bool)} {T : Nat → Prop} {G Gr Ga Gb : List (Ast wm)} {d : Nat}
section
variable {α : Type} {e : Rdr α}
end
end Go.Abs
end
end
section
noncomputable section
namespace Go.Abs
open Go.Lf
variable {X : Ctx} {n wm : Nat} {rd : Option Nat} {ops : Array Oper} {fr : Fr} {h h1 h2 h0 : H} {ty : TypeId} {p : String} {af : Array Edge} {g : Option (Nat × Bool)} {T : Nat → Prop} {G Gr Ga Gb : List (Ast wm)} {d : Nat}
structure Ne (α : Type) where
  sz : Nat
  pos : 0 < sz
  Par : Type
  dflt : Par
  sh : Par → α → List Value
  len : ∀ p x, (sh p x).length = sz
  one : ∀ p x, (sh p x).all Value.oneCell' = true
  as_ : (wm : Nat) → Par → α → List (Ast wm)
section
variable {α : Type} {e : Ne α}
def upd {β : Type} (ps : Nat → β) (i : Nat) (p : β) : Nat → β := fun k => if k = i then p else ps k
variable {a : Option Addr} {nn c : Nat} {ps : Nat → e.Par} {xs : List α}
end
end Go.Abs
end
end
section
noncomputable section
namespace Go.Abs
open Go.Lf
variable {X : Ctx} {n wm : Nat} {rd : Option Nat} {ops : Array Oper} {fr : Fr} {h h1 h2 h0 : H} {ty : TypeId} {p : String} {af : Array Edge} {g : Option (Nat × Bool)} {T : Nat → Prop} {G Gr Ga Gb : List (Ast wm)} {d : Nat}
section
variable {α : Type} {e : Ne α} {a : Option Addr} {nn c : Nat} {ps : Nat → e.Par} {xs : List α}
end
end Go.Abs
end
end
section
noncomputable section
namespace Go.Abs
open Go.Lf
variable {X : Ctx} {n wm : Nat} {rd : Option Nat} {ops : Array Oper} {l : List Oper} {fr : Fr} {h h1 h2 h0 : H} {ty : TypeId} {p : String} {af : Array Edge} {g : Option (Nat × Bool)} {T : Nat → Prop} {G Gr Ga Gb : List (Ast wm)} {d : Nat} {m : Nat} {sf : ST}
section
variable {α : Type} {e : Rdr α}
end
section
variable {α : Type} {e : Ne α}
end
end Go.Abs
end
end
section
noncomputable section
namespace Go.Abs
open Go.Lf
variable {X : Ctx} {n wm : Nat} {rd : Option Nat} {ops : Array Oper} {l : List Oper} {fr : Fr} {ds : List Deferred} {h h1 h2 h0 : H} {ty : TypeId} {p : String} {af : Array Edge} {g : Option (Nat × Bool)} {T : Nat → Prop} {G Gr Ga Gb : List (Ast wm)} {d : Nat} {m : Nat} {sf : ST}
section
variable {α : Type} {e : Rdr α} {a a1 : Option Addr} {nn c n1 c1 : Nat} {ps : Nat → Option Addr × Nat × Nat} {xs : List (List α)}
end
section
variable {κ ν : Type} [DecidableEq κ] {kt vt : TypeId} {kv : κ → Value} {vv : ν → Value} {i : Nat} {ll : List (κ × ν)} {Q : Fr → H → Prop}
end
theorem evFn {f : FuncId} : aev fr (.func f) = some (.func (.func f) #[] #[]) := aev_func fr f
end Go.Abs
end
end
section
noncomputable section
namespace Go.Abs
open Go.Lf
variable {X : Ctx} {h : H} {ev : Operand → Option Value} {d : Option Tmp} {ty : TypeId} {p : String} {af : Array Edge} {g : Option (Nat × Bool)} {P : Program}
theorem abin_pure {op : BinOp} {t : TypeId} {x y : Operand} {k : IntKind} {a b c : Int} (hb : binOp op t (.int k a) (.int k b) = pure (.int k c)) (hn : op ≠ .eql ∧ op ≠ .neq) : abin P op t x y (.int k a) (.int k b) = some (.val (.int k c), .none) := by
  have hp : (plain (.int k a) && plain (.int k b)) = true := rfl
  unfold abin
  rw [hp, cond_true]
  have hg : (do eqGuard op t x y (.int k a) (.int k b); binOp op t (.int k a) (.int k b) : Sem Value) = pure (.int k c) := by
    rw [hb]
    cases op <;> first | rfl | exact absurd rfl hn.1 | exact absurd rfl hn.2
  rw [hg]; rfl
theorem abin_quow {t : TypeId} {x y : Operand} {a b c : Int} (hc : quoL a b = some c) : abin P .quo t x y (.int .i64 a) (.int .i64 b) = some (.val (.int .i64 c), .none) := by
  obtain ⟨h1, rfl⟩ := quoL_some hc
  exact abin_pure (by simp [binOp, Op.intDiv, h1, w64]) ⟨by simp, by simp⟩
theorem abin_remw {t : TypeId} {x y : Operand} {k : IntKind} {a b c : Int} (hc : remL a b = some c) : abin P .rem t x y (.int k a) (.int k b) = some (.val (.int k c), .none) := by
  obtain ⟨h1, rfl⟩ := remL_some hc
  exact abin_pure (by simp [binOp, Op.intDiv, h1]) ⟨by simp, by simp⟩
theorem av_cvt {s t : TypeId} {x : Operand} {k k' : IntKind} {a : Int} {us : TypeDesc} (hs : X.P.underlying s = some us) (ht : X.P.underlying t = some (.int k')) (hx : ev x = some (.int k a)) : aop X h ev ⟨d, .convert s t x, ty, p, af, g⟩ = some (.val (.int k' (k'.wrap a)), .none) := by
  have : aop X h ev ⟨d, .convert s t x, ty, p, af, g⟩ = (match ev x with
    | some a => bif plain a then pN (pval X.P (convert s t a)) else vN (abytes X.P h s t a)
    | none => none) := rfl
  rw [this, hx]
  have hpl : plain (.int k a) = true := rfl
  dsimp only
  rw [hpl, cond_true]
  have hr : pureRun X.P (convert s t (.int k a)) = some (.ok (.int k' (k'.wrap a))) := by
    unfold convert
    rw [prb (pr_underlying hs), prb (pr_underlying ht)]
    rfl
  unfold pval
  rw [hr]; rfl
end Go.Abs
end
end
section
noncomputable section
namespace Go.Abs
open Go.Lf
variable {X : Ctx} {n wm : Nat} {rd : Option Nat} {ops : Array Oper} {ol : List Oper} {fr : Fr} {ds : List Deferred} {h h0 : H} {ty : TypeId} {p : String} {af : Array Edge} {g : Option (Nat × Bool)} {T : Nat → Prop} {G Gr : List (Ast wm)} {d : Nat} {l df : Nat} {LO : AObj} {ps : Array Tmp} {as_ bd : Code}
def bsy : AObj → AObj
  | .loop _ pd fr n ps as_ bd df => .loop .busy pd fr n ps as_ bd df
  | A => A
theorem ob_new {A : AObj} (hA : A.own = true) (s : Sp wm T h0 Gr h) : Sp wm T h0 (ob wm h.size A :: Gr) (h.push A) :=
  Sp.new s (Up.push wm h A) ⟨at_push_new h A, s.hw, hA⟩ fun i e => by have : i = h.size := e; omega
theorem WR.inlJ {f : FuncId} {args : Array Value} {K : Value → H → Prop} {α β : Type} {r : β} (I : α → Value → H → Prop) (j : α → Option β) (k : ∀ x v h', j x = some r → I x v h' → K v h') (hc : WR X f args wm h (fun v h' => ∃ x, j x = some r ∧ I x v h')) : WR X f args wm h K :=
  hc.mono fun _ h' ⟨v, e, x, h1, h2⟩ => ⟨v, e, k x v h' h1 h2⟩
theorem RetL.colS {fn : Func} {R : AEnd → H → Prop} (hS : Sp wm T h0 G h) (pk : Pk G (ob wm df .deferred) Gr) (k : ∀ h', Sp wm T h0 Gr h' → RetL X fn wm R .ret ⟨fr, ds, h', none⟩) : RetL X fn wm R .ret ⟨fr, ⟨.collected df, #[]⟩ :: ds, h, none⟩ := by
  obtain ⟨h1, h2, h3⟩ := hS.get pk
  refine RetL.col wm h2 h1 h2 fun h' u => k h' ?_
  exact Sp.step (Ga := [ob wm df .deferred]) (Gb := []) (hS.perm pk.perm) u (fun i e => ⟨_, List.mem_singleton.2 rfl, e⟩) Hold.nil fun i ⟨A, m, f⟩ => by simp at m
end Go.Abs
end
end
section
noncomputable section
namespace Go.Abs
open Go.Lf
variable {X : Ctx} {n wm : Nat} {rd : Option Nat} {ops : Array Oper} {l : List Oper} {fr : Fr} {ds : List Deferred} {h h1 h2 h0 : H} {ty : TypeId} {p : String} {af : Array Edge} {g : Option (Nat × Bool)} {m : Nat} {T : Nat → Prop} {G Gr Ga Gb : List (Ast wm)} {d : Nat} {sf : ST}
def HW (X : Ctx) (wm : Nat) (o : Oper) (fr : Fr) (h : H) (K : H → Prop) : Prop := ∃ v E h1, aop X h (aev fr) o = some (.val v, E) ∧ E.apply wm h = some h1 ∧ K h1
section
variable {α : Type} {e : Rdr α} {t el : TypeId} {x : Operand} {a : Option Addr} {nn c : Nat} {xs zs ws us : List α} {a1 a2 a3 : Int}
end
section
variable {κ ν : Type} [DecidableEq κ] {kt vt : TypeId} {kv : κ → Value} {vv : ν → Value} {i : Nat} {ll : List (κ × ν)}
end
end Go.Abs
end
end
section
noncomputable section
namespace Go.Abs
open Go.Lf
variable {X : Ctx} {n wm : Nat} {rd : Option Nat} {ops : Array Oper} {l : List Oper} {fr : Fr} {ds : List Deferred} {h h1 h2 h0 : H} {ty : TypeId} {p : String} {af : Array Edge} {g : Option (Nat × Bool)} {m : Nat} {T : Nat → Prop} {G Gr Ga Gb : List (Ast wm)} {d : Nat} {sf : ST}
section
variable {α : Type} {e : Rdr α} {t el : TypeId} {x : Operand} {a : Option Addr} {nn c : Nat} {xs zs ws us : List α} {a1 a2 a3 : Int}
end
end Go.Abs
end
end
section
noncomputable section
namespace Go.Abs
open Go.Lf
variable {X : Ctx} {n wm wm' : Nat} {fr : Fr} {h : H} {ty : TypeId} {p : String} {af : Array Edge} {g : Option (Nat × Bool)} {d : Nat}
section
variable {α : Type} {e : Rdr α} {t el : TypeId} {x : Operand} {a : Option Addr} {nn c : Nat} {xs zs : List α} {a2 : Int}
end
end Go.Abs
end
end
section
noncomputable section
namespace Go.Abs
open Go.Lf
variable {X : Ctx} {n wm : Nat} {rd : Option Nat} {ops : Array Oper} {l : List Oper} {fr : Fr} {ds : List Deferred} {h h1 h2 h0 : H} {ty : TypeId} {p : String} {af : Array Edge} {g : Option (Nat × Bool)} {T : Nat → Prop} {G Gr Ga Gb : List (Ast wm)} {d : Nat}
def pv (t : TypeId) (k : Int) : Value := .iface t (.int .i64 k)
section
variable {β : Type} {t : TypeId} {K : β → Value → List (Ast wm) → Prop} {f : FuncId} {args : Array Value}
end
section
variable {fn : Func} {R : AEnd → H → Prop} {s : Fs} {v : Value} {pm : PM}
end
section
end
end Go.Abs
end
end
section
noncomputable section
namespace Go.Abs
open Go.Lf
variable {X : Ctx} {n wm : Nat} {rd : Option Nat} {ops : Array Oper} {l : List Oper} {rest : Code}
section
variable {κ ν : Type} {kv : κ → Value} {vv : ν → Value} {ll : List (κ × ν)} {bs : List Nat}
end
section
variable {wm : Nat} {G Gr : List (Ast wm)} {h h0 : H} {T0 : Nat → Prop} {fr : Fr} {ds : List Deferred} {ty : TypeId} {p : String} {af : Array Edge} {g : Option (Nat × Bool)} {κ ν : Type} {kv : κ → Value} {vv : ν → Value} {ll : List (κ × ν)} {d : Nat}
end
end Go.Abs
end
end
section
noncomputable section
namespace Go.Abs
open Go.Lf
variable {X : Ctx} {n wm : Nat} {rd : Option Nat} {ops : Array Oper} {l : List Oper} {fr : Fr} {ds : List Deferred} {h h1 h2 h0 : H} {T : Nat → Prop} {G Gr Ga Gb : List (Ast wm)}
end Go.Abs
end
end
section
namespace Go.Lf
end Go.Lf
end
section
noncomputable section
namespace Go.Abs
open Go.Lf
variable {X : Ctx} {n wm : Nat} {rd : Option Nat} {ops : Array Oper} {l : List Oper} {rest : Code}
section
variable {wm : Nat} {G Gr : List (Ast wm)} {h h0 : H} {T0 : Nat → Prop} {fr : Fr} {ds : List Deferred} {κ ν : Type} {kv : κ → Value} {vv : ν → Value} {ll : List (κ × ν)} {d : Nat}
end
end Go.Abs
end
end
section
noncomputable section
namespace Go.Abs
open Go.Lf
variable {P : Program}
end Go.Abs
end
end
section
noncomputable section
namespace Go.Abs
open Go.Lf
variable {X : Ctx} {n wm : Nat} {rd : Option Nat} {ops : Array Oper} {ol : List Oper} {fr : Fr} {ds : List Deferred} {h h0 : H} {ty : TypeId} {p : String} {af : Array Edge} {g : Option (Nat × Bool)} {T : Nat → Prop} {G Gr : List (Ast wm)} {d : Nat} {l df : Nat} {LO : AObj} {ps : Array Tmp} {as_ bd : Code}
def dne (c : Code) : AObj → AObj
  | .loop _ _ fr n ps as_ bd df => .loop .done (some c) fr n ps as_ bd df
  | A => A
def lst (b : Bool) (c : Code) (A : AObj) : AObj := bif b then dne c A else A
inductive StopX : XX → Code → Prop
  | ret : StopX .ret .ret
  | exit (id : Nat) : StopX (.exit id) (.exit id)
structure BdS (n lo l : Nat) (fr : Fr) (ps : Array Tmp) (as_ bd : Code) (df : Nat) (R : Bool → H → Prop) (e : XX) (s : Fs) : Prop where
  out : s.h.at l = .loop .busy none fr n ps as_ bd df ∧
    ((e = .normal ∧ ∀ h', (lo ≤ l → Up lo (fun i => i = l) s.h h') → h'.at l = .loop .ready none fr n ps as_ bd df → R true h') ∨
     (∃ c, StopX e c ∧ ∀ h', (lo ≤ l → Up lo (fun i => i = l) s.h h') → h'.at l = .loop .done (some c) fr n ps as_ bd df → R false h'))
structure AsS (X : Ctx) (n wm lo l : Nat) (fr : Fr) (ps : Array Tmp) (as_ bd : Code) (df : Nat) (R : Bool → H → Prop) (e : XX) (s : Fs) : Prop where
  out : e = .normal ∧ s.h.at l = .loop .ready none fr n ps as_ bd df ∧ ∀ h1, (lo ≤ l → Up lo (fun i => i = l) s.h h1) → h1.at l = .loop .busy none fr n ps as_ bd df → WC X n wm (some l) bd ⟨s.fr, s.ds, h1, s.wr⟩ (BdS n lo l fr ps as_ bd df R)
theorem RdOK.mkS {l : Nat} {args : List Value} {fr fr1 : Fr} {ps : Array Tmp} {as_ bd : Code} {df : Nat} {R : Bool → H → Prop} (lo : Nat) (hat : h.at l = .loop .ready none fr n ps as_ bd df) (hw : wm ≤ l) (hl : Nat.beq args.length ps.toList.length = true) (hs : setParams (ps.toList.zip args) n fr = some fr1)
    (k : WC X n wm (some l) as_ ⟨fr1, [], h, none⟩ (AsS X n wm lo l fr ps as_ bd df R)) : RdOK X l args.toArray wm h R := by
  obtain ⟨e1, s1, ⟨rfl, h1, k1⟩, j1⟩ := k
  have o1 : (s1.h.at l).own = true := by rw [h1]; rfl
  have s1l := live_lt h1 rfl
  obtain ⟨e2, s2, ⟨h2, k2⟩, j2⟩ := k1 (s1.h.put l (.loop .busy none fr n ps as_ bd df)) (fun hl => Up.put hl o1) (at_put_same s1l _)
  have o2 : (s2.h.at l).own = true := by rw [h2]; rfl
  have s2l := live_lt h2 rfl
  have key : ∃ b A, R b (s2.h.put l A) ∧ evRound3 l e2 s2 = some (.fin (.ret (.bool b)) (s2.h.put l A)) := by
    rcases k2 with ⟨rfl, k2⟩ | ⟨c, hx, k2⟩
    · refine ⟨true, _, k2 _ (fun hl => Up.put hl o2) (at_put_same s2l _), ?_⟩
      unfold evRound3; rw [h2]
    · refine ⟨false, _, k2 _ (fun hl => Up.put hl o2) (at_put_same s2l _), ?_⟩
      unfold evRound3; rw [h2]; cases hx <;> rfl
  obtain ⟨b, A, hR, hev⟩ := key
  refine ⟨b, s2.h.put l A, hR, ?_⟩
  classical
  let ih : Job → Option Res := fun j => if j = .code as_ n wm (some l) ⟨fr1, [], h, none⟩ then some (.code .normal s1) else oneJob (.code bd n wm (some l) { s1 with h := s1.h.put l (.loop .busy none fr n ps as_ bd df) }) (.code e2 s2) j
  have HI : ∀ j r, ih j = some r → JobOK X j r := by
    intro j r e
    dsimp only [ih] at e
    split at e
    · rename_i hj; cases e; rw [hj]; exact j1
    · exact oneJob_ok (X := X) j2 j r e
  refine evRound_sound (C := cfg X fun _ => false) (ih := ih) HI ?_
  unfold evRound
  rw [hat]
  have hl' : Nat.beq args.toArray.toList.length ps.toList.length = true := hl
  dsimp only
  rw [Nat.ble_eq_true_of_le hw, hl']
  simp only [Bool.and_self, cond_true]
  have hs' : setParams (ps.toList.zip args.toArray.toList) n fr = some fr1 := hs
  rw [hs']
  dsimp only
  have i1 : ih (.code as_ n wm (some l) { fr := fr1, ds := [], h := h }) = some (.code .normal s1) := by dsimp only [ih]; rw [if_pos rfl]
  rw [i1]
  show evRound2 ih l bd n wm .normal s1 = _
  unfold evRound2
  dsimp only
  rw [h1]
  dsimp only
  have i2 : ih (.code bd n wm (some l) { s1 with h := s1.h.put l (.loop .busy none fr n ps as_ bd df) }) = some (.code e2 s2) := by
    dsimp only [ih]
    split
    · rename_i hj
      exfalso
      injection hj with _ _ _ _ hs
      have : ({ s1 with h := s1.h.put l (.loop .busy none fr n ps as_ bd df) } : Fs).h.at l = h.at l := by rw [hs]
      dsimp only at this
      rw [at_put_same s1l, hat] at this
      cases this
    · exact oneJob_eq _ _
  rw [i2]
  exact hev
theorem WO.yldS {Q : XX → Fs → Prop} {fo : Operand} {xs : Array Operand} {ts : Array TypeId} {vs : List Value} {n2 : Nat} {fr2 fr1 : Fr} {as2 bd2 : Code} (hg : GuardOn ops ⟨some d, .call { callee := .value fo, args := xs, argTypes := ts }, ty, p, af, g⟩ fr) (hd : Nat.blt d n = true) (hf : aev fr fo = some (.func (.yield l) #[] #[])) (hx : evs (aev fr) xs.toList = some vs)
    (hS : Sp wm T h0 G h) (pk : Pk G (ob wm l LO) Gr) (hLO : LO = .loop .ready none fr2 n2 ps as2 bd2 df) (hl : Nat.beq vs.length ps.toList.length = true) (hs : setParams (ps.toList.zip vs) n2 fr2 = some fr1)
    (k : WC X n2 wm (some l) as2 ⟨fr1, [], h, none⟩ (AsS X n2 wm wm l fr2 ps as2 bd2 df (fun b h' => WO X n wm rd ops ol ⟨Tr.set fr d (.bool b), ds, h', none⟩ Q))) :
    WO X n wm rd ops (⟨some d, .call { callee := .value fo, args := xs, argTypes := ts }, ty, p, af, g⟩ :: ol) ⟨fr, ds, h, none⟩ Q := by
  obtain ⟨h1, h2, h3⟩ := hS.get pk
  have hat := h1.trans hLO
  exact WO.yld hg hd hf hx hat (Nat.eq_of_beq_eq_true hl) (RdOK.mkS (lo := wm) hat h2 hl hs k) fun b h' hk => hk
theorem AsS.sp {fr2 : Fr} {R : Bool → H → Prop} (hLO : LO = .loop .ready none fr n ps as_ bd df) (hS : Sp wm T h0 G h) (pk : Pk G (ob wm l LO) Gr) (k : ∀ h1, Sp wm T h0 (ob wm l (bsy LO) :: Gr) h1 → WC X n wm (some l) bd ⟨fr2, ds, h1, none⟩ (BdS n wm l fr ps as_ bd df R)) : AsS X n wm wm l fr ps as_ bd df R .normal ⟨fr2, ds, h, none⟩ := by
  obtain ⟨h1, h2, h3⟩ := hS.get pk
  refine ⟨⟨rfl, h1.trans hLO, fun h' u e => k h' ?_⟩⟩
  exact hS.one pk (u h2) (fun _ q => q) ⟨by rw [e, hLO]; rfl, h2, by rw [hLO]; rfl⟩ fun _ q => .inl q
theorem BdS.sp {fr2 : Fr} {R : Bool → H → Prop} (hLO : LO = .loop .ready none fr n ps as_ bd df) (hS : Sp wm T h0 G h) (pk : Pk G (ob wm l (bsy LO)) Gr) (k : ∀ h1, Sp wm T h0 (ob wm l LO :: Gr) h1 → R true h1) : BdS n wm l fr ps as_ bd df R .normal ⟨fr2, ds, h, none⟩ := by
  obtain ⟨h1, h2, h3⟩ := hS.get pk
  refine ⟨⟨h1.trans (by rw [hLO]; rfl), .inl ⟨rfl, fun h' u e => k h' ?_⟩⟩⟩
  exact hS.one pk (u h2) (fun _ q => q) ⟨by rw [e, hLO], h2, by rw [hLO]; rfl⟩ fun _ q => .inl q
theorem BdS.stop {fr2 : Fr} {R : Bool → H → Prop} {e : XX} {c : Code} (hx : StopX e c) (hLO : LO = .loop .ready none fr n ps as_ bd df) (hS : Sp wm T h0 G h) (pk : Pk G (ob wm l (bsy LO)) Gr) (k : ∀ h1, Sp wm T h0 (ob wm l (lst true c LO) :: Gr) h1 → R false h1) : BdS n wm l fr ps as_ bd df R e ⟨fr2, ds, h, none⟩ := by
  obtain ⟨h1, h2, h3⟩ := hS.get pk
  refine ⟨⟨h1.trans (by rw [hLO]; rfl), .inr ⟨c, hx, fun h' u e => k h' ?_⟩⟩⟩
  exact hS.one pk (u h2) (fun _ q => q) ⟨by rw [e, hLO]; rfl, h2, by rw [hLO]; rfl⟩ fun _ q => .inl q
structure RgS (X : Ctx) (wm l : Nat) (fr : Fr) (n : Nat) (ps : Array Tmp) (as_ bd : Code) (df : Nat) (ds : List Deferred) (Q : XX → Fs → Prop) (h : H) : Prop where
  low : wm ≤ l
  k : (h.at l = .loop .ready none fr n ps as_ bd df ∧ ∀ h', Up wm (fun i => i = l) h h' → Q .normal ⟨fr, ⟨.collected df, #[]⟩ :: ds, h', none⟩) ∨
    (∃ c, h.at l = .loop .done (some c) fr n ps as_ bd df ∧ ∀ h', Up wm (fun i => i = l) h h' → WC X n wm none c ⟨fr, ⟨.collected df, #[]⟩ :: ds, h', none⟩ Q)
theorem RgS.sp {Q : XX → Fs → Prop} (hLO : LO = .loop .ready none fr n ps as_ bd df) (hS : Sp wm T h0 G h) (pk : Pk G (ob wm l LO) Gr) (k : ∀ h', Sp wm T h0 Gr h' → Q .normal ⟨fr, ⟨.collected df, #[]⟩ :: ds, h', none⟩) : RgS X wm l fr n ps as_ bd df ds Q h := by
  obtain ⟨h1, h2, h3⟩ := hS.get pk
  refine ⟨h2, .inl ⟨h1.trans hLO, fun h' u => k h' ?_⟩⟩
  exact Sp.step (Ga := [ob wm l LO]) (Gb := []) (hS.perm pk.perm) u (fun i e => ⟨_, List.mem_singleton.2 rfl, e⟩) Hold.nil fun i ⟨A, m, f⟩ => by simp at m
theorem RgS.stop {Q : XX → Fs → Prop} {c : Code} (hLO : LO = .loop .ready none fr n ps as_ bd df) (hS : Sp wm T h0 G h) (pk : Pk G (ob wm l (lst true c LO)) Gr) (k : ∀ h', Sp wm T h0 Gr h' → WC X n wm none c ⟨fr, ⟨.collected df, #[]⟩ :: ds, h', none⟩ Q) : RgS X wm l fr n ps as_ bd df ds Q h := by
  obtain ⟨h1, h2, h3⟩ := hS.get pk
  refine ⟨h2, .inr ⟨c, h1.trans (by rw [hLO]; rfl), fun h' u => k h' ?_⟩⟩
  exact Sp.step (Ga := [ob wm l (lst true c LO)]) (Gb := []) (hS.perm pk.perm) u (fun i e => ⟨_, List.mem_singleton.2 rfl, e⟩) Hold.nil fun i ⟨A, m, f⟩ => by simp at m
theorem WC.rangeS {Q : XX → Fs → Prop} {gg : Operand} {f : FuncId} {first cap : List Value} (hS : Sp wm T h0 G h) (hg : aev fr gg = some (.func (.func f) first.toArray cap.toArray)) (hf : (X.fns.get f).isSome = true)
    (k : ∀ h' l df LO, LO = AObj.loop .ready none fr n ps as_ bd df → Sp wm T h0 (ob wm l LO :: ob wm df .deferred :: G) h' → WR X f (first ++ ([Value.func (.yield l) #[] #[]] ++ cap)).toArray wm h' (fun _ h2 => RgS X wm l fr n ps as_ bd df ds Q h2)) :
    WC X n wm none (.rangeFunc gg ps as_ bd) ⟨fr, ds, h, none⟩ Q := by
  have s1 : Sp wm T h0 (ob wm h.size .deferred :: G) (h.push .deferred) := ob_new rfl hS
  have s2 : Sp wm T h0 (ob wm (h.size + 1) (.loop .ready none fr n ps as_ bd h.size) :: ob wm h.size .deferred :: G) ((h.push .deferred).push (.loop .ready none fr n ps as_ bd h.size)) := by
    have := ob_new (A := .loop .ready none fr n ps as_ bd h.size) rfl s1
    rwa [H.size_push] at this
  obtain ⟨fn, hf⟩ := Option.isSome_iff_exists.1 hf
  obtain ⟨e, h3, ⟨v, rfl, hr⟩, hj⟩ := k _ _ _ _ rfl s2
  have hac : acall (cfg X fun _ => false).X ((h.push .deferred).push (.loop .ready none fr n ps as_ bd h.size)) (.func (.func f) first.toArray cap.toArray) [Value.func (.yield (h.size + 1)) #[] #[]] = some (.enter f (first ++ ([Value.func (.yield (h.size + 1)) #[] #[]] ++ cap)).toArray, .none) := by
    unfold acall
    have : (cfg X fun _ => false).X.fns.get f = some fn := hf
    dsimp only
    rw [this]
    simp only [List.append_assoc]
  rcases hr.k with ⟨hat, hk⟩ | ⟨c, hat, hk⟩
  · refine ⟨.normal, _, hk (h3.put (h.size + 1) (.loop .exhausted none fr n ps as_ bd h.size)) (Up.put hr.low (by rw [hat]; rfl)), ?_⟩
    refine code_iff.2 (evRange_sound (C := cfg X fun _ => false) (ih := oneJob (.call f _ wm _) (.fin (.ret v) h3)) (oneJob_ok hj) ?_)
    show evRange1 (cfg X fun _ => false) _ gg n wm none (h.size + 1) ⟨fr, ⟨.collected h.size, #[]⟩ :: ds, (h.push .deferred).push (.loop .ready none fr n ps as_ bd h.size), none⟩ = _
    unfold evRange1
    dsimp only
    rw [hg]
    dsimp only
    rw [hac]
    dsimp only
    unfold evRanged
    rw [oneJob_eq]
    dsimp only
    rw [hat]
    rfl
  · obtain ⟨e2, s2, hq, hj2⟩ := hk (h3.put (h.size + 1) (.loop .exhausted (some c) fr n ps as_ bd h.size)) (Up.put hr.low (by rw [hat]; rfl))
    refine ⟨e2, s2, hq, ?_⟩
    classical
    let ih : Job → Option Res := fun j => if j = .code c n wm none ⟨fr, ⟨.collected h.size, #[]⟩ :: ds, h3.put (h.size + 1) (.loop .exhausted (some c) fr n ps as_ bd h.size), none⟩ then some (.code e2 s2) else oneJob (.call f (first ++ ([Value.func (.yield (h.size + 1)) #[] #[]] ++ cap)).toArray wm ((h.push .deferred).push (.loop .ready none fr n ps as_ bd h.size))) (.fin (.ret v) h3) j
    have HI : ∀ j r, ih j = some r → JobOK X j r := by
      intro j r e
      dsimp only [ih] at e
      split at e
      · rename_i hj'; cases e; rw [hj']; exact hj2
      · exact oneJob_ok (X := X) hj j r e
    refine code_iff.2 (evRange_sound (C := cfg X fun _ => false) (ih := ih) HI ?_)
    show evRange1 (cfg X fun _ => false) _ gg n wm none (h.size + 1) ⟨fr, ⟨.collected h.size, #[]⟩ :: ds, (h.push .deferred).push (.loop .ready none fr n ps as_ bd h.size), none⟩ = _
    unfold evRange1
    dsimp only
    rw [hg]
    dsimp only
    rw [hac]
    dsimp only
    unfold evRanged
    have i1 : ih (.call f (first ++ ([Value.func (.yield (h.size + 1)) #[] #[]] ++ cap)).toArray wm ((h.push .deferred).push (.loop .ready none fr n ps as_ bd h.size))) = some (.fin (.ret v) h3) := by
      dsimp only [ih]
      split
      · rename_i hj'; cases hj'
      · exact oneJob_eq _ _
    rw [i1]
    dsimp only
    rw [hat]
    show ih (.code c n wm none _) = _
    dsimp only [ih]
    rw [if_pos rfl]
theorem s_ins {κ ν : Type} [DecidableEq κ] {kv : κ → Value} {vv : ν → Value} {kt vt : TypeId} {i : Nat} {ll : List (κ × ν)} {t : TypeId} {x y z : Operand} {k : κ} {v : ν} (hS : Sp wm T h0 G h) (pk : Pk G (mp wm kv vv (some i) ll) Gr) (K : KeyT X.P kt kv) (hu : X.P.underlying t = some (.map kt vt)) (hx : aev fr x = some (.map (some i))) (hy : aev fr y = some (kv k)) (hz : aev fr z = some (vv v)) :
    HU X wm ⟨none, .insert t x y z, ty, p, af, g⟩ fr h (fun j => j = i) (fun h' => Sp wm T h0 (mp wm kv vv (some i) (mset ll k v) :: Gr) h') :=
  s_upd (ty := ty) (p := p) (af := af) (g := g) hS pk K hu hx hy hz
section
variable {sf : ST} {m : Nat}
end
theorem cond_no {β : Type} {b : Bool} {x : Option β} {r : β} (h : (bif b then none else x) = some r) : b = false ∧ x = some r := by
  cases b
  · exact ⟨rfl, h⟩
  · cases h
theorem bool_cases (b : Bool) : b = true ∨ b = false := by cases b <;> simp
end Go.Abs
end
end
section
noncomputable section
namespace Go.Abs
open Go.Lf
section
variable {X : Ctx} {n wm : Nat} {G G1 G2 Gr : List (Ast wm)} {h h0 : H} {T : Nat → Prop} {df : Nat} {L : List Nat} {fr : Fr} {ds : List Deferred}
end
end Go.Abs
end
end
section
noncomputable section
namespace Go.Abs
open Go.Lf
variable {X : Ctx} {n wm wm' : Nat} {rd : Option Nat} {ops : Array Oper} {ol : List Oper} {m : Nat} {sf : ST} {fr : Fr} {h h0 : H} {ty : TypeId} {p : String} {af : Array Edge} {g : Option (Nat × Bool)} {T : Nat → Prop} {G Gr : List (Ast wm)} {d : Nat}
section
variable {α : Type} {e : Rdr α} {a a1 a2 : Option Addr} {nn c n1 c1 n2 c2 : Nat} {ps : Nat → Option Addr × Nat × Nat} {xs : List (List α)}
end
section
variable {α : Type} {e : Rdr α} {t el : TypeId} {x : Operand} {a : Option Addr} {nn c : Nat} {xs zs : List α} {a1 : Int}
end
end Go.Abs
end
end
section
namespace Go.Lf
open Go
def strAt (s : ByteArray) (i : Int) : Option Int :=
  match (if 0 ≤ i then s[i.toNat]? else none) with
  | some b => some b.toNat
  | none => none
def strB (xs : List Int) : Option ByteArray :=
  match xs with
  | [] => none
  | _ :: _ => some ⟨(xs.map fun n => UInt8.ofNat n.toNat).toArray⟩
def strCat (a b : ByteArray) : Option ByteArray := if ((a.size + b.size : Nat) : Int) > 9223372036854775807 then none else some (a ++ b)
end Go.Lf
end
