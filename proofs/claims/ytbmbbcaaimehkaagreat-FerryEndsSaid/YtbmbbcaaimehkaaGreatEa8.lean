/- Ends Part 8 of the proof. -/
import GoSem.Core.View
import Derived.Test.YtbmbbcaaimehkaaGreatEa7
set_option linter.all false
set_option maxHeartbeats 2000000
section
namespace Go.Lf
def loop {α β : Type} : Nat → (α → (α → Option β) → Option β) → α → Option β
  | 0, _, _ => none
  | F + 1, body, a => body a (loop F body)
theorem loop_succ {α β : Type} (F : Nat) (body : α → (α → Option β) → Option β) (a : α) : loop (F + 1) body a = body a (loop F body) := rfl
def geti {α : Type} (l : List α) (k : Int) : Option α := bif decide (0 ≤ k) then l[k.toNat]? else none
theorem geti_nat {α : Type} (l : List α) (k : Nat) : geti l (k : Int) = l[k]? := by simp [geti]
theorem geti_some {α : Type} {l : List α} {k : Int} {x : α} (h : geti l k = some x) : (k.toNat : Int) = k ∧ k.toNat < l.length ∧ l[k.toNat]? = some x := by
  unfold geti at h
  by_cases hk : 0 ≤ k
  · rw [decide_eq_true hk, cond_true] at h
    exact ⟨by omega, (List.getElem?_eq_some_iff.1 h).1, h⟩
  · rw [decide_eq_false hk, cond_false] at h; cases h
def seti {α : Type} (l : List α) (k : Int) (x : α) : List α := l.set k.toNat x
def w64 (n : Int) : Int := Go.IntKind.i64.wrap n
theorem w64_id {n : Int} (h1 : -9223372036854775808 ≤ n) (h2 : n ≤ 9223372036854775807) : w64 n = n := by
  unfold w64 Go.IntKind.wrap
  have e1 : (2 ^ IntKind.i64.bits : Int) = 18446744073709551616 := by decide
  have e2 : (2 ^ (IntKind.i64.bits - 1) : Int) = 9223372036854775808 := by decide
  have e3 : IntKind.i64.signed = true := rfl
  rw [e1, e2, e3]
  dsimp only
  split
  · rename_i h; simp at h; omega
  · rename_i h; simp at h; omega
def mkL {α : Type} (z : α) (by_ : Nat) (a b : Int) : Option (List α) := bif decide (0 ≤ a) && (decide (a ≤ b) && Nat.ble (by_ * b.toNat) 100000) then some (List.replicate a.toNat z) else none
def gd {α : Type} (g : Bool) (m : Option α) (d : α) : Option α := bif g then m else some d
theorem gd_true {α : Type} (m : Option α) (d : α) : gd true m d = m := rfl
theorem gd_false {α : Type} (m : Option α) (d : α) : gd false m d = some d := rfl
def app {α : Type} (by_ : Nat) (xs ys : List α) : Option (List α) := bif Nat.ble ((2 * (xs.length + ys.length) + 1000) * by_) (2 ^ 47) then some (xs ++ ys) else none
theorem app_eq {α : Type} {by_ : Nat} {xs ys : List α} (h : (2 * (xs.length + ys.length) + 1000) * by_ ≤ 2 ^ 47) : app by_ xs ys = some (xs ++ ys) := by
  unfold app; rw [Nat.ble_eq_true_of_le h]; rfl
theorem app_some {α : Type} {by_ : Nat} {xs ys zs : List α} (h : app by_ xs ys = some zs) : zs = xs ++ ys ∧ (2 * (xs.length + ys.length) + 1000) * by_ ≤ 2 ^ 47 := by
  unfold app at h
  cases hb : Nat.ble ((2 * (xs.length + ys.length) + 1000) * by_) (2 ^ 47) <;> rw [hb] at h
  · cases h
  · cases h; exact ⟨rfl, Nat.le_of_ble_eq_true hb⟩
theorem bind_some {α β : Type} {m : Option α} {f : α → Option β} {r : β} (h : m.bind f = some r) : ∃ x, m = some x ∧ f x = some r := Option.bind_eq_some_iff.1 h
theorem gd_some {α β : Type} {g : Bool} {m : Option α} {d : α} {f : α → Option β} {r : β} (h : (gd g m d).bind f = some r) : ∃ x, (g = true → m = some x) ∧ f x = some r := by
  obtain ⟨x, h1, h2⟩ := bind_some h
  refine ⟨x, fun hg => ?_, h2⟩
  subst hg; exact h1
theorem cond_tt {α : Type} {c : Bool} {a b : α} {r : α} (hc : c = true) (h : (bif c then a else b) = r) : a = r := by subst hc; exact h
theorem cond_ff {α : Type} {c : Bool} {a b : α} {r : α} (hc : c = false) (h : (bif c then a else b) = r) : b = r := by subst hc; exact h
section
variable {κ ν : Type} [DecidableEq κ]
end
def lenS (x : Int) : Option Int := bif decide (0 ≤ x) && decide (x ≤ 12) then some ([0, 1, 2, 2, 3, 3, 3, 3, 4, 4, 4, 4, 4].getD x.toNat 0) else none
end Go.Lf
end
section
noncomputable section
namespace Go.Abs
open Go.Lf
structure Fz (wm : Nat) (h h' : H) : Prop where
  size : h.size ≤ h'.size
  keep : ∀ i cs own z, h.at i = .row cs own z → (i < wm ∨ own = false) → h'.at i = .row cs own z
  low : ∀ i, i < wm → i < h.size → h'.at i = h.at i
theorem Fz.refl (wm : Nat) (h : H) : Fz wm h h := ⟨Nat.le_refl _, fun _ _ _ _ e _ => e, fun _ _ _ => rfl⟩
theorem Fz.trans {wm : Nat} {a b c : H} (x : Fz wm a b) (y : Fz wm b c) : Fz wm a c :=
  ⟨Nat.le_trans x.size y.size, fun i cs own z e s => y.keep i cs own z (x.keep i cs own z e s) s, fun i h1 h2 => (y.low i h1 (Nat.lt_of_lt_of_le h2 x.size)).trans (x.low i h1 h2)⟩
structure Up (lo : Nat) (t : Nat → Prop) (h h' : H) : Prop where
  size : h.size ≤ h'.size
  keep : ∀ i, i < h.size → ¬ t i → h'.at i = h.at i
  own : ∀ i, t i → lo ≤ i ∧ (h.at i).own = true
theorem Up.fz {lo wm : Nat} {t : Nat → Prop} {h h' : H} (u : Up lo t h h') (hw : wm ≤ lo) : Fz wm h h' := by
  refine ⟨u.size, fun i cs own z e s => ?_, fun i h1 h2 => u.keep i h2 fun ht => by have := (u.own i ht).1; omega⟩
  rw [u.keep i (live_lt e rfl) ?_, e]
  intro ht
  obtain ⟨h1, h2⟩ := u.own i ht
  rw [e] at h2
  rcases s with s | s
  · omega
  · subst s; cases h2
theorem Up.of_grow {h h' : H} (lo : Nat) (g : Grow h h') : Up lo (fun _ => False) h h' := ⟨g.size, fun i hi _ => g.keep i hi, fun _ e => e.elim⟩
theorem Up.push (lo : Nat) (h : H) (A : AObj) : Up lo (fun _ => False) h (h.push A) := Up.of_grow lo ((Grow.refl h).push A)
theorem Up.put {lo : Nat} {h : H} {b : Nat} {A : AObj} (hl : lo ≤ b) (ho : (h.at b).own = true) : Up lo (fun i => i = b) h (h.put b A) :=
  ⟨Nat.le_refl _, fun i _ hn => at_put_other hn A, fun i e => by subst e; exact ⟨hl, ho⟩⟩
def At (h : H) (b o : Nat) (vs : List Value) : Prop := ∃ cs own z, h.at b = .row cs own z ∧ (cs.drop o).take vs.length = vs ∧ o + vs.length ≤ cs.length
def Stb (wm : Nat) (h : H) (b : Nat) : Prop := b < wm ∨ (h.at b).own = false
theorem At.box {h : H} {b : Nat} {vs : List Value} {own : Bool} {z : Nat} (hb : h.at b = .row vs own z) : At h b 0 vs := ⟨vs, own, z, hb, by simp, by omega⟩
theorem At.fz {wm : Nat} {h h' : H} {b o : Nat} {vs : List Value} (f : Fz wm h h') (s : Stb wm h b) (a : At h b o vs) : At h' b o vs := by
  obtain ⟨cs, own, z, h1, h2, h3⟩ := a
  exact ⟨cs, own, z, f.keep _ _ _ _ h1 (s.imp id fun e => by rw [h1] at e; exact e), h2, h3⟩
theorem Stb.fz {wm : Nat} {h h' : H} {b o : Nat} {vs : List Value} (f : Fz wm h h') (a : At h b o vs) (s : Stb wm h b) : Stb wm h' b := by
  obtain ⟨cs, own, z, h1, _, _⟩ := a
  refine s.imp id fun e => ?_
  rw [h1] at e
  rw [f.keep _ _ _ _ h1 (.inr e)]; exact e
theorem Stb.up {wm wm' : Nat} {h : H} {b : Nat} (hw : wm ≤ wm') (s : Stb wm h b) : Stb wm' h b := s.imp (fun x => Nat.lt_of_lt_of_le x hw) id
theorem At.cell {h : H} {b o j : Nat} {vs : List Value} {v : Value} (a : At h b o vs) (hv : vs[j]? = some v) : ∃ cs own z, h.at b = .row cs own z ∧ cs[o + j]? = some v := by
  obtain ⟨cs, own, z, h1, h2, h3⟩ := a
  refine ⟨cs, own, z, h1, ?_⟩
  have hj := (List.getElem?_eq_some_iff.1 hv).1
  rw [← h2, List.getElem?_take_of_lt hj, List.getElem?_drop] at hv
  exact hv
theorem At.part {h : H} {b o j n : Nat} {vs ws : List Value} (a : At h b o vs) (hj : j + n ≤ vs.length) (hw : (vs.drop j).take n = ws) : ∃ cs own z, h.at b = .row cs own z ∧ o + j + n ≤ cs.length ∧ (cs.drop (o + j)).take n = ws := by
  obtain ⟨cs, own, z, h1, h2, h3⟩ := a
  refine ⟨cs, own, z, h1, by omega, ?_⟩
  rw [← hw, ← h2, List.drop_take, List.take_take, List.drop_drop]
  have e : min n (vs.length - j) = n := by omega
  rw [e]
structure Rdr (α : Type) where
  sz : Nat
  pos : 0 < sz
  Par : Type
  dflt : Par
  sh : Par → α → List Value
  len : ∀ p x, (sh p x).length = sz
  one : ∀ p x, (sh p x).all Value.oneCell' = true
  F : Nat → H → Par → α → Prop
  mono : ∀ {wm h h' p x}, Fz wm h h' → F wm h p x → F wm h' p x
  up : ∀ {wm wm' h p x}, wm ≤ wm' → F wm h p x → F wm' h p x
def Nilish (a : Option Addr) (c : Nat) : Prop := (a = none ∧ c = 0) ∨ (a = some ⟨0, 0, some 0⟩ ∧ c = 0) ∨ ∃ i o, a = some ⟨i, o, none⟩
structure ElAt {α : Type} (e : Rdr α) (wm : Nat) (h : H) (cs : List Value) (o : Nat) (xs : List α) : Prop where
  len : o + xs.length * e.sz ≤ cs.length
  get : ∀ k x, xs[k]? = some x → ∃ q, (cs.drop (o + k * e.sz)).take e.sz = e.sh q x ∧ e.F wm h q x
theorem ElAt.mono {α : Type} {e : Rdr α} {wm : Nat} {h h' : H} {cs : List Value} {o : Nat} {xs : List α} (f : Fz wm h h') (a : ElAt e wm h cs o xs) : ElAt e wm h' cs o xs :=
  ⟨a.len, fun k x hk => let ⟨q, h1, h2⟩ := a.get k x hk; ⟨q, h1, e.mono f h2⟩⟩
theorem ElAt.up {α : Type} {e : Rdr α} {wm wm' : Nat} {h : H} {cs : List Value} {o : Nat} {xs : List α} (f : wm ≤ wm') (a : ElAt e wm h cs o xs) : ElAt e wm' h cs o xs :=
  ⟨a.len, fun k x hk => let ⟨q, h1, h2⟩ := a.get k x hk; ⟨q, h1, e.up f h2⟩⟩
structure Src {α : Type} (e : Rdr α) (wm : Nat) (h : H) (a : Option Addr) (c : Nat) (xs : List α) : Prop where
  max : xs.length ≤ 9223372036854775807
  cap : xs.length ≤ c / 2
  nl : Nilish a c
  mem : xs = [] ∨ ∃ i o cs own z, a = some ⟨i, o, none⟩ ∧ h.at i = .row cs own z ∧ ElAt e wm h cs o xs
structure Sl {α : Type} (e : Rdr α) (wm : Nat) (h : H) (a : Option Addr) (c : Nat) (xs : List α) : Prop where
  max : xs.length ≤ 9223372036854775807
  cap : xs.length ≤ c / 2
  nl : Nilish a c
  mem : xs = [] ∨ ∃ i o cs own z, a = some ⟨i, o, none⟩ ∧ h.at i = .row cs own z ∧ (i < wm ∨ own = false) ∧ ElAt e wm h cs o xs
structure OwnS {α : Type} (e : Rdr α) (wm lo : Nat) (h : H) (a : Option Addr) (c : Nat) (xs : List α) : Prop where
  max : xs.length ≤ 9223372036854775807
  mem : (a = none ∧ c = 0 ∧ xs = []) ∨ ∃ i o cs, a = some ⟨i, o, none⟩ ∧ lo ≤ i ∧ h.at i = .row cs true e.sz ∧ xs.length ≤ c / 2 ∧ o + (c / 2) * e.sz ≤ cs.length ∧ ElAt e wm h cs o xs
variable {α : Type} {e : Rdr α} {wm wm' lo : Nat} {h h' : H} {a : Option Addr} {c : Nat} {xs : List α}
theorem Sl.src (s : Sl e wm h a c xs) : Src e wm h a c xs := ⟨s.max, s.cap, s.nl, s.mem.imp id fun ⟨i, o, cs, own, z, h1, h2, _, h4⟩ => ⟨i, o, cs, own, z, h1, h2, h4⟩⟩
theorem OwnS.nl (s : OwnS e wm lo h a c xs) : Nilish a c := by
  rcases s.mem with ⟨h1, h2, _⟩ | ⟨i, o, cs, h1, _⟩
  · exact .inl ⟨h1, h2⟩
  · exact .inr (.inr ⟨i, o, h1⟩)
theorem OwnS.cap (s : OwnS e wm lo h a c xs) : xs.length ≤ c / 2 := by
  rcases s.mem with ⟨_, _, h3⟩ | ⟨i, o, cs, h1, _, h3, h4, _⟩
  · subst h3; exact Nat.zero_le _
  · exact h4
theorem OwnS.src (s : OwnS e wm lo h a c xs) : Src e wm h a c xs := ⟨s.max, s.cap, s.nl, by
  rcases s.mem with ⟨_, _, h3⟩ | ⟨i, o, cs, h1, _, h3, _, _, h6⟩
  · exact .inl h3
  · exact .inr ⟨i, o, cs, true, _, h1, h3, h6⟩⟩
theorem Sl.mono (f : Fz wm h h') (s : Sl e wm h a c xs) : Sl e wm h' a c xs := ⟨s.max, s.cap, s.nl, s.mem.imp id fun ⟨i, o, cs, own, z, h1, h2, h3, h4⟩ => ⟨i, o, cs, own, z, h1, f.keep _ _ _ _ h2 h3, h3, h4.mono f⟩⟩
theorem Sl.up (f : wm ≤ wm') (s : Sl e wm h a c xs) : Sl e wm' h a c xs := ⟨s.max, s.cap, s.nl, s.mem.imp id fun ⟨i, o, cs, own, z, h1, h2, h3, h4⟩ => ⟨i, o, cs, own, z, h1, h2, h3.imp (fun x => by omega) id, h4.up f⟩⟩
theorem Src.sl (s : Src e wm h a c xs) (hw : wm ≤ h.size) : Sl e h.size h a c xs := ⟨s.max, s.cap, s.nl, s.mem.imp id fun ⟨i, o, cs, own, z, h1, h2, h4⟩ => ⟨i, o, cs, own, z, h1, h2, .inl (live_lt h2 rfl), h4.up hw⟩⟩
theorem Sl.nil : Sl e wm h none 0 ([] : List α) := ⟨by simp, by simp, .inl ⟨rfl, rfl⟩, .inl rfl⟩
theorem OwnS.nil : OwnS e wm lo h none 0 ([] : List α) := ⟨by simp, .inl ⟨rfl, rfl, rfl⟩⟩
def BaseA (a : Option Addr) (i : Nat) : Prop := ∃ o, a = some ⟨i, o, none⟩
theorem Src.at_ {k : Int} {x : α} (s : Src e wm h a c xs) (hk : geti xs k = some x) : ∃ i o q, a = some ⟨i, o, none⟩ ∧ At h i (o + k.toNat * e.sz) (e.sh q x) ∧ e.F wm h q x := by
  obtain ⟨h1, h2, h3⟩ := geti_some hk
  rcases s.mem with z | ⟨i, o, cs, own, z, q1, q2, q3⟩
  · subst z; simp at h2
  · obtain ⟨q, g1, g2⟩ := q3.get _ _ h3
    refine ⟨i, o, q, q1, ⟨cs, own, z, q2, by rw [e.len]; exact g1, ?_⟩, g2⟩
    rw [e.len]
    have := q3.len
    have : (k.toNat + 1) * e.sz ≤ xs.length * e.sz := Nat.mul_le_mul_right _ h2
    rw [Nat.succ_mul] at this
    omega
theorem Sl.at_ {k : Int} {x : α} (s : Sl e wm h a c xs) (hk : geti xs k = some x) : ∃ i o q, a = some ⟨i, o, none⟩ ∧ At h i (o + k.toNat * e.sz) (e.sh q x) ∧ Stb wm h i ∧ e.F wm h q x := by
  obtain ⟨h1, h2, h3⟩ := geti_some hk
  rcases s.mem with z | ⟨i, o, cs, own, z, q1, q2, q4, q3⟩
  · subst z; simp at h2
  · obtain ⟨q, g1, g2⟩ := q3.get _ _ h3
    refine ⟨i, o, q, q1, ⟨cs, own, z, q2, by rw [e.len]; exact g1, ?_⟩, q4.imp id (fun z => by rw [q2]; exact z), g2⟩
    rw [e.len]
    have := q3.len
    have : (k.toNat + 1) * e.sz ≤ xs.length * e.sz := Nat.mul_le_mul_right _ h2
    rw [Nat.succ_mul] at this
    omega
def rInt (k : IntKind) : Rdr Int where
  sz := 1
  pos := Nat.one_pos
  Par := Unit
  dflt := ()
  sh := fun _ x => [.int k x]
  len := fun _ _ => rfl
  one := fun _ _ => rfl
  F := fun _ _ _ _ => True
  mono := fun _ x => x
  up := fun _ x => x
def rBool : Rdr Bool where
  sz := 1
  pos := Nat.one_pos
  Par := Unit
  dflt := ()
  sh := fun _ x => [.bool x]
  len := fun _ _ => rfl
  one := fun _ _ => rfl
  F := fun _ _ _ _ => True
  mono := fun _ x => x
  up := fun _ x => x
def rSl {α : Type} (e : Rdr α) : Rdr (List α) where
  sz := 1
  pos := Nat.one_pos
  Par := Option Addr × Nat
  dflt := (none, 0)
  sh := fun p x => [.slice p.1 x.length p.2]
  len := fun _ _ => rfl
  one := fun _ _ => rfl
  F := fun wm h p x => Sl e wm h p.1 p.2 x
  mono := fun f x => x.mono f
  up := fun f x => x.up f
end Go.Abs
end
end
section
noncomputable section
namespace Go.Abs
open Go.Lf
variable {X : Ctx} {n wm : Nat} {rd : Option Nat} {s : Fs} {Q : XX → Fs → Prop}
theorem fhit (fr : Fr) (d : Nat) (v : Value) : Fr.at (Tr.set fr d v) d = v := by rw [at_set, if_pos rfl]
theorem fskip {fr : Fr} {d t : Nat} {v w : Value} (hn : Nat.beq t d = false) (k : Fr.at fr t = v) : Fr.at (Tr.set fr d w) t = v := by
  rw [at_set, if_neg (fun e => by rw [e, Nat.beq_refl] at hn; cases hn)]; exact k
theorem fs2 {fr : Fr} {a b t : Nat} {v x y : Value} (hn : (Nat.beq t a || Nat.beq t b) = false) (k : Fr.at fr t = v) : Fr.at (Tr.set (Tr.set fr b y) a x) t = v := by
  rw [Bool.or_eq_false_iff] at hn; exact fskip hn.1 (fskip hn.2 k)
theorem fs4 {fr : Fr} {a b c d t : Nat} {v x y z w : Value} (hn : ((Nat.beq t a || Nat.beq t b) || (Nat.beq t c || Nat.beq t d)) = false) (k : Fr.at fr t = v) : Fr.at (Tr.set (Tr.set (Tr.set (Tr.set fr d w) c z) b y) a x) t = v := by
  rw [Bool.or_eq_false_iff] at hn; exact fs2 hn.1 (fs2 hn.2 k)
theorem fs8 {fr : Fr} {a b c d a' b' c' d' t : Nat} {v x y z w x' y' z' w' : Value} (hn : (((Nat.beq t a || Nat.beq t b) || (Nat.beq t c || Nat.beq t d)) || ((Nat.beq t a' || Nat.beq t b') || (Nat.beq t c' || Nat.beq t d'))) = false) (k : Fr.at fr t = v) :
    Fr.at (Tr.set (Tr.set (Tr.set (Tr.set (Tr.set (Tr.set (Tr.set (Tr.set fr d' w') c' z') b' y') a' x') d w) c z) b y) a x) t = v := by
  rw [Bool.or_eq_false_iff] at hn; exact fs4 hn.1 (fs4 hn.2 k)
theorem fh {fr : Fr} {d : Nat} {v : Value} : Fr.at (Tr.set fr d v) d = v := fhit _ _ _
theorem evT {fr : Fr} {t : Nat} {v : Value} (h : fr.at t = v) (ha : isAny v = false) : aev fr (.tmp t) = some v := by rw [aev_tmp, h, ha]; rfl
theorem evG {fr : Fr} {t : Nat} {c : Bool} {v : Value} (h : fr.at t = cond c v undef) (ha : isAny v = false) : c = true → aev fr (.tmp t) = some v := fun hc => by
  rw [aev_tmp, h, hc, cond_true, ha]; rfl
theorem evC {fr : Fr} {v : Value} (h : plain v = true) : aev fr (.const v) = some v := by rw [aev_const, h]; rfl
theorem evGU {fr : Fr} {t : Nat} {c : Bool} {b : Bool} (h : fr.at t = cond c (.bool b) undef) : aev fr (.tmp t) = some (cond c (.bool b) undef) := by
  rw [aev_tmp, h]; cases c <;> rfl
theorem evGU2 {fr : Fr} {t : Nat} {a c b : Bool} (h : fr.at t = cond (a && c) (.bool b) undef) (ha : a = true) : aev fr (.tmp t) = some (cond c (.bool b) undef) := by
  subst ha
  rw [aev_tmp, h]; cases c <;> rfl
def SeqJd {α β : Type} (I : α → Fs → Prop) (j : α → Option β) (r : β) (Q : XX → Fs → Prop) : XX → Fs → Prop := fun e s =>
  match e with
  | .normal => ∃ a, j a = some r ∧ I a s
  | e => Q e s
structure SeqJ {α β : Type} (I : α → Fs → Prop) (j : α → Option β) (r : β) (Q : XX → Fs → Prop) (e : XX) (s : Fs) : Prop where
  out : SeqJd I j r Q e s
theorem SeqJ.nrm {α β : Type} {I : α → Fs → Prop} {j : α → Option β} {r : β} (a : α) (h : j a = some r) (i : I a s) : SeqJ I j r Q .normal s := ⟨a, h, i⟩
theorem SeqJ.ret {α β : Type} {I : α → Fs → Prop} {j : α → Option β} {r : β} (h : Q .ret s) : SeqJ I j r Q .ret s := ⟨h⟩
theorem WC.seqJ {α β : Type} {a b : Code} {r : β} (I : α → Fs → Prop) (j : α → Option β) (k : ∀ x s', j x = some r → I x s' → WC X n wm rd b s' Q) (h : WC X n wm rd a s (SeqJ I j r Q)) : WC X n wm rd (.seq a b) s Q := by
  refine WC.seq (h.mono fun e s' q => ⟨?_⟩)
  have q := q.out
  cases e with
  | normal => obtain ⟨x, h1, h2⟩ := q; exact k x s' h1 h2
  | _ => exact q
theorem WC.condN {c : Operand} {a b : Code} {t : Bool} {fr : Fr} {ds : List Deferred} {h : H} (hc : aev fr c = some (.bool t)) (h1 : t = true → WC X n wm rd a ⟨fr, ds, h, none⟩ Q) (h2 : t = false → WC X n wm rd b ⟨fr, ds, h, none⟩ Q) : WC X n wm rd (.cond c a b) ⟨fr, ds, h, none⟩ Q := WC.cond (s := ⟨fr, ds, h, none⟩) hc h1 h2
theorem WL.lift {α β : Type} {c : Code} {body : α → (α → Option β) → Option β} {r : β} {F : Nat} {a : α} (hL : loop F body a = some r) (I : α → Fs → Prop) (init : I a s)
    (round : ∀ (next : α → Option β) a s, (∀ a' s', next a' = some r → I a' s' → WL X n wm rd c s' Q) → body a next = some r → I a s → WC X n wm rd c s (LoopK X n wm rd c Q)) : WL X n wm rd c s Q := by
  induction F generalizing a s with
  | zero => cases hL
  | succ F ih => exact WL.step (round _ _ _ (fun a' s' h1 h2 => ih h1 h2) hL init)
section
variable {h : H} {ev : Operand → Option Value} {d : Option Tmp} {ty : TypeId} {p : String} {af : Array Edge} {g : Option (Nat × Bool)}
theorem av_ld {x : Operand} {t : TypeId} {b o oo j : Nat} {vs : List Value} {v : Value} (ht : isAggP X.P t = some false) (hx : ev x = some (.pointer (some ⟨b, oo, none⟩))) (ha : At h b o vs) (ho : oo = o + j) (hv : vs[j]? = some v) :
    aop X h ev ⟨d, .load t x, ty, p, af, g⟩ = some (.val v, .none) := by
  obtain ⟨cs, own, z, h1, h2⟩ := ha.cell hv
  subst ho
  exact av_load1 ht hx h1 h2
theorem av_ldA {x : Operand} {t : TypeId} {b o oo j sz : Nat} {vs ws : List Value} (ht : isAggP X.P t = some true) (hs : sizeP X.P t = some sz) (hx : ev x = some (.pointer (some ⟨b, oo, none⟩))) (ha : At h b o vs) (ho : oo = o + j) (hj : Nat.ble (j + sz) vs.length = true) (hv : (vs.drop j).take sz = ws) :
    aop X h ev ⟨d, .load t x, ty, p, af, g⟩ = some (.val (.agg ws.toArray), .none) := by
  obtain ⟨cs, own, z, h1, h2, h3⟩ := ha.part (Nat.le_of_ble_eq_true hj) hv
  subst ho
  exact av_loadA ht hs hx h1 h2 h3
theorem av_ix {α : Type} {xs : List α} {v : α} {x y : Operand} {t e : TypeId} {sz b o c : Nat} {a : Option Addr} {k : Int} (hu : X.P.underlying t = some (.slice e)) (hs : sizeP X.P e = some sz) (hx : ev x = some (.slice a xs.length c)) (hy : ev y = some (.int .i64 k)) (ha : a = some ⟨b, o, none⟩) (hk : geti xs k = some v) :
    aop X h ev ⟨d, .indexAddr t x y, ty, p, af, g⟩ = some (.val (.pointer (some ⟨b, o + k.toNat * sz, none⟩)), .none) := by
  obtain ⟨h1, h2, _⟩ := geti_some hk
  subst ha
  exact av_idx hu hs hx hy h1.symm h2
theorem abin_w {op : BinOp} {t : TypeId} {P : Program} {x y : Operand} {a b c : Int} (h1 : op = .add ∧ c = a + b ∨ op = .sub ∧ c = a - b ∨ op = .mul ∧ c = a * b) : abin P op t x y (.int .i64 a) (.int .i64 b) = some (.val (.int .i64 (w64 c)), .none) := abin_arith h1
theorem abin_addw {t : TypeId} {P : Program} {x y : Operand} {a b : Int} : abin P .add t x y (.int .i64 a) (.int .i64 b) = some (.val (.int .i64 (w64 (a + b))), .none) := abin_w (.inl ⟨rfl, rfl⟩)
theorem abin_subw {t : TypeId} {P : Program} {x y : Operand} {a b : Int} : abin P .sub t x y (.int .i64 a) (.int .i64 b) = some (.val (.int .i64 (w64 (a - b))), .none) := abin_w (.inr (.inl ⟨rfl, rfl⟩))
theorem abin_mulw {t : TypeId} {P : Program} {x y : Operand} {a b : Int} : abin P .mul t x y (.int .i64 a) (.int .i64 b) = some (.val (.int .i64 (w64 (a * b))), .none) := abin_w (.inr (.inr ⟨rfl, rfl⟩))
end
theorem Sl.atG {α : Type} {e : Rdr α} {wm : Nat} {h : H} {a : Option Addr} {c : Nat} {xs : List α} {k : Int} {x : α} {g : Bool} (s : g = true → Sl e wm h a c xs) (hk : g = true → geti xs k = some x) :
    ∃ i o q, g = true → (a = some ⟨i, o, none⟩ ∧ At h i (o + k.toNat * e.sz) (e.sh q x) ∧ Stb wm h i ∧ e.F wm h q x) := by
  cases g with
  | false => exact ⟨0, 0, e.dflt, fun z => by cases z⟩
  | true => obtain ⟨i, o, q, z⟩ := (s rfl).at_ (hk rfl); exact ⟨i, o, q, fun _ => z⟩
theorem Src.atG {α : Type} {e : Rdr α} {wm : Nat} {h : H} {a : Option Addr} {c : Nat} {xs : List α} {k : Int} {x : α} {g : Bool} (s : g = true → Src e wm h a c xs) (hk : g = true → geti xs k = some x) :
    ∃ i o q, g = true → (a = some ⟨i, o, none⟩ ∧ At h i (o + k.toNat * e.sz) (e.sh q x) ∧ e.F wm h q x) := by
  cases g with
  | false => exact ⟨0, 0, e.dflt, fun z => by cases z⟩
  | true => obtain ⟨i, o, q, z⟩ := (s rfl).at_ (hk rfl); exact ⟨i, o, q, fun _ => z⟩
section
variable {ops : Array Oper} {l : List Oper} {fr : Fr} {ds : List Deferred} {h : H} {d : Nat} {ty : TypeId} {p : String} {af : Array Edge} {g : Option (Nat × Bool)} {c : Bool} {QQ : Fr → Prop}
end
abbrev WR (X : Ctx) (f : FuncId) (args : Array Value) (wm : Nat) (h : H) (R : Value → H → Prop) : Prop := WF X f args wm h (fun e h' => ∃ v, e = .ret v ∧ R v h')
theorem WF.pureR {f : FuncId} {args : Array Value} {h : H} {v : Value} (hp : plain v = true) (k : WR X f args h.size h (fun v' _ => v' = v)) : Pure X f args h v :=
  WF.pure hp (k.mono fun e h' ⟨v', h1, h2⟩ => by rw [h1, h2])
end Go.Abs
end
end
section
noncomputable section
namespace Go.Abs
open Go.Lf
variable {X : Ctx} {n wm : Nat} {rd : Option Nat} {Q : XX → Fs → Prop}
variable {ops : Array Oper} {l : List Oper} {fr : Fr} {ds : List Deferred} {h : H} {d : Nat} {ty : TypeId} {p : String} {af : Array Edge} {g : Option (Nat × Bool)}
section
variable {α : Type} {e : Rdr α} {lo : Nat} {h' : H}
theorem ElAt.nil {wm : Nat} {cs : List Value} {o : Nat} (hl : o ≤ cs.length) : ElAt e wm h cs o ([] : List α) := ⟨by simpa using hl, fun k x hk => by simp at hk⟩
theorem ElAt.of_list {wm : Nat} : ∀ (qs : List (e.Par × α)), (∀ q ∈ qs, e.F wm h q.1 q.2) → ElAt e wm h (qs.flatMap fun q => e.sh q.1 q.2) 0 (qs.map (·.2)) := by
  intro qs hq
  have hl : ∀ (qs : List (e.Par × α)), (qs.flatMap fun q => e.sh q.1 q.2).length = qs.length * e.sz := by
    intro qs
    induction qs with
    | nil => simp
    | cons q qs ih => rw [List.flatMap_cons, List.length_append, ih, e.len, List.length_cons, Nat.succ_mul]; omega
  refine ⟨by rw [hl]; simp, ?_⟩
  induction qs with
  | nil => intro k x hk; simp at hk
  | cons q qs ih =>
    intro k x hk
    cases k with
    | zero =>
      simp at hk; subst hk
      refine ⟨q.1, ?_, hq q (by simp)⟩
      rw [List.flatMap_cons, Nat.zero_mul, Nat.add_zero, List.drop_zero, List.take_append_of_le_length (by rw [e.len]; exact Nat.le_refl _), List.take_of_length_le (by rw [e.len]; exact Nat.le_refl _)]
    | succ k =>
      obtain ⟨q', h1, h2⟩ := ih (fun q hq' => hq q (by simp [hq'])) k x (by simpa using hk)
      refine ⟨q', ?_, h2⟩
      rw [← h1, List.flatMap_cons, List.drop_append, e.len, List.drop_of_length_le (by rw [e.len, Nat.succ_mul]; omega), List.nil_append]
      congr 2
      rw [Nat.succ_mul]; omega
theorem ElAt.cut {wm : Nat} {cs : List Value} {o : Nat} {xs : List α} (a : ElAt e wm h cs o xs) : ElAt e wm h ((cs.drop o).take (xs.length * e.sz)) 0 xs := by
  have hl := a.len
  refine ⟨by rw [List.length_take, List.length_drop]; omega, fun k x hk => ?_⟩
  obtain ⟨q, h1, h2⟩ := a.get k x hk
  refine ⟨q, ?_, h2⟩
  have hk' : k < xs.length := (List.getElem?_eq_some_iff.1 hk).1
  have : (k + 1) * e.sz ≤ xs.length * e.sz := Nat.mul_le_mul_right _ hk'
  rw [Nat.succ_mul] at this
  rw [← h1, List.drop_take, List.take_take, List.drop_drop, Nat.zero_add]
  congr 1; omega
theorem ElAt.uncut {wm : Nat} {cs : List Value} {o : Nat} {xs : List α} (hl : o + xs.length * e.sz ≤ cs.length) (a : ElAt e wm h ((cs.drop o).take (xs.length * e.sz)) 0 xs) : ElAt e wm h cs o xs := by
  refine ⟨hl, fun k x hk => ?_⟩
  obtain ⟨q, h1, h2⟩ := a.get k x hk
  refine ⟨q, ?_, h2⟩
  have hk' : k < xs.length := (List.getElem?_eq_some_iff.1 hk).1
  have : (k + 1) * e.sz ≤ xs.length * e.sz := Nat.mul_le_mul_right _ hk'
  rw [Nat.succ_mul] at this
  rw [← h1, List.drop_take, List.take_take, List.drop_drop, Nat.zero_add]
  congr 1; omega
theorem ElAt.append {wm : Nat} {as_ bs : List Value} {xs ys : List α} (hl : as_.length = xs.length * e.sz) (a : ElAt e wm h as_ 0 xs) (b : ElAt e wm h bs 0 ys) : ElAt e wm h (as_ ++ bs) 0 (xs ++ ys) := by
  have h1 := a.len
  have h2 := b.len
  refine ⟨by rw [List.length_append, List.length_append, Nat.add_mul]; omega, fun k x hk => ?_⟩
  rw [Nat.zero_add]
  by_cases hk' : k < xs.length
  · rw [List.getElem?_append_left hk'] at hk
    obtain ⟨q, q1, q2⟩ := a.get k x hk
    refine ⟨q, ?_, q2⟩
    have : (k + 1) * e.sz ≤ xs.length * e.sz := Nat.mul_le_mul_right _ hk'
    rw [Nat.succ_mul] at this
    rw [Nat.zero_add] at q1
    rw [← q1, List.drop_append, List.take_append_of_le_length (by rw [List.length_drop]; omega)]
  · rw [List.getElem?_append_right (by omega)] at hk
    obtain ⟨q, q1, q2⟩ := b.get _ x hk
    refine ⟨q, ?_, q2⟩
    have : xs.length * e.sz ≤ k * e.sz := Nat.mul_le_mul_right _ (by omega)
    rw [Nat.zero_add] at q1
    rw [← q1, List.drop_append, List.drop_of_length_le (by omega), List.nil_append, hl, Nat.sub_mul]
theorem ElAt.one {wm : Nat} {cs : List Value} {xs : List α} (hl : cs.length = xs.length * e.sz) (a : ElAt e wm h cs 0 xs) : cs.all Value.oneCell' = true := by
  rw [List.all_eq_true]
  intro v hv
  obtain ⟨j, hj⟩ := List.mem_iff_getElem?.1 hv
  have hjl : j < cs.length := (List.getElem?_eq_some_iff.1 hj).1
  have hp := e.pos
  have hk : j / e.sz < xs.length := Nat.div_lt_of_lt_mul (by rw [Nat.mul_comm, ← hl]; exact hjl)
  obtain ⟨q, q1, _⟩ := a.get (j / e.sz) xs[j / e.sz] (List.getElem?_eq_getElem hk)
  have hone := e.one q xs[j / e.sz]
  rw [List.all_eq_true] at hone
  refine hone v ?_
  rw [← q1, List.mem_iff_getElem?]
  refine ⟨j % e.sz, ?_⟩
  rw [List.getElem?_take_of_lt (Nat.mod_lt _ hp), List.getElem?_drop, Nat.zero_add]
  have : j / e.sz * e.sz + j % e.sz = j := Nat.div_add_mod' j e.sz
  rw [this]; exact hj
theorem reads_some (h : H) (i o m c sz : Nat) : Go.Abs.reads h (.slice (some ⟨i, o, none⟩) m c) sz = bif Nat.beq m 0 then some [] else
    match h.at i with
    | .row cs _ _ => bif Nat.ble (o + m * sz) cs.length then some ((cs.drop o).take (m * sz)) else none
    | _ => none := by cases i <;> cases o <;> rfl
theorem Src.reads {wm : Nat} {a : Option Addr} {c : Nat} {xs : List α} (s : Src e wm h a c xs) : ∃ vs, reads h (.slice a xs.length c) e.sz = some vs ∧ vs.length = xs.length * e.sz ∧ ElAt e wm h vs 0 xs := by
  rcases s.mem with z | ⟨i, o, cs, own, z, h1, h2, h3⟩
  · subst z
    refine ⟨[], ?_, by simp, ElAt.nil (by simp)⟩
    rcases s.nl with ⟨rfl, rfl⟩ | ⟨rfl, rfl⟩ | ⟨i, o, rfl⟩
    · rfl
    · rfl
    · rw [reads_some]; rfl
  · subst h1
    by_cases hx : xs = []
    · subst hx
      exact ⟨[], by rw [reads_some]; rfl, by simp, ElAt.nil (by simp)⟩
    · have hl := h3.len
      have hpos : 0 < xs.length := List.length_pos_iff.2 hx
      refine ⟨(cs.drop o).take (xs.length * e.sz), ?_, by rw [List.length_take, List.length_drop]; omega, h3.cut⟩
      rw [reads_some]
      have hb : Nat.beq xs.length 0 = false := by rw [Bool.eq_false_iff]; intro hh; have := Nat.eq_of_beq_eq_true hh; omega
      simp only [hb, cond_false, h2]
      rw [Nat.ble_eq_true_of_le hl]; rfl
theorem OwnS.mk' {wm : Nat} {h : H} {xs : List α} {vs : List Value} {i c : Nat} (hm : xs.length ≤ 9223372036854775807) (hlo : lo ≤ i) (hr : h.at i = .row vs true e.sz) (hc : xs.length ≤ c / 2) (hcl : (c / 2) * e.sz ≤ vs.length) (ha : ElAt e wm h vs 0 xs) : OwnS e wm lo h (some ⟨i, 0, none⟩) c xs :=
  ⟨hm, .inr ⟨i, 0, vs, rfl, hlo, hr, hc, by omega, ha⟩⟩
def AppAt (P : Program) (ts : Array TypeId) (sz by_ : Nat) : Prop := ∃ el z, appInfo P ts = some (el, sz, by_, z)
theorem ap_gen {K : Prop} {J : Value → H → Prop} {ts : Array TypeId} {x y : Operand} {by_ : Nat} {a a2 : Option Addr} {c c2 : Nat} {xs ys zs : List α} (lo : Nat) (k' : ∀ v E h1, aop X h (aev fr) ⟨some d, .call { callee := .builtin .append, args := #[x, y], argTypes := ts }, ty, p, af, g⟩ = some (.val v, E) → E.apply wm h = some h1 → J v h1 → K)
    (hi : AppAt X.P ts e.sz by_) (hw : wm ≤ lo) (hlo : lo ≤ h.size) (hx : aev fr x = some (.slice a xs.length c)) (hy : aev fr y = some (.slice a2 ys.length c2)) (so : OwnS e wm lo h a c xs) (sr : Src e wm h a2 c2 ys) (ha : app by_ xs ys = some zs)
    (k : ∀ a' c' h', Up lo (BaseA a) h h' → OwnS e wm lo h' a' c' zs → (∀ i, BaseA a' i → BaseA a i ∨ i = h.size) → J (.slice a' zs.length c') h') : K := by
  obtain ⟨rfl, hbd⟩ := app_some ha
  obtain ⟨el, z, hi⟩ := hi
  obtain ⟨new, n1, n2, n3⟩ := sr.reads
  have n4 := n3.one n2
  have hpos := e.pos
  have hev : evs (aev fr) (#[x, y] : Array Operand).toList = some [.slice a xs.length c, .slice a2 ys.length c2] := evs_cons hx (evs_cons hy evs_nil)
  have hls : lenS (.slice a2 ys.length c2) = ys.length := rfl
  have key : ∀ (v : Value) (E : Eff), aappend X.P h ts (.slice a xs.length c) (.slice a2 ys.length c2) = some (v, E) → aop X h (aev fr) ⟨some d, .call { callee := .builtin .append, args := #[x, y], argTypes := ts }, ty, p, af, g⟩ = some (.val v, E) := by
    intro v E hE
    rw [aop_builtin, hev]
    show vE (aappend X.P h ts (.slice a xs.length c) (.slice a2 ys.length c2)) = _
    rw [hE]; rfl
  have hbyle : by_ = 0 ∨ (2 * (xs.length + ys.length) + 1000) ≤ 2 ^ 47 := by
    rcases Nat.eq_zero_or_pos by_ with z | z
    · exact .inl z
    · right
      have : (2 * (xs.length + ys.length) + 1000) * 1 ≤ (2 * (xs.length + ys.length) + 1000) * by_ := Nat.mul_le_mul_left _ z
      rw [Nat.mul_one] at this
      exact Nat.le_trans this hbd
  have hby : 1 ≤ by_ := by
    unfold appInfo at hi
    split at hi
    · split at hi
      · split at hi
        · rename_i sz0 by0 z0 hs hb hz
          cases hc : (Nat.ble 1 sz0 && Nat.ble 1 by0 && Nat.beq z0.cells.toList.length sz0) <;> rw [hc] at hi <;> simp at hi
          obtain ⟨_, _, rfl, _⟩ := hi
          rw [Bool.and_eq_true, Bool.and_eq_true] at hc
          exact Nat.le_of_ble_eq_true hc.1.2
        · cases hi
      · cases hi
    · cases hi
  have hmax : (xs ++ ys).length ≤ 9223372036854775807 := by
    rw [List.length_append]
    rcases hbyle with z | z <;> omega
  have hle2 : (xs ++ ys).length = xs.length + ys.length := List.length_append
  rcases so.mem with ⟨rfl, rfl, rfl⟩ | ⟨i, o, cs, rfl, hlo2, hrow, hc1, hc2, hel⟩
  · -- of nothing
    by_cases hy0 : ys = []
    · subst hy0
      refine k' _ (.none) _ (key (.slice none 0 0) _ ?_) rfl ?_
      · unfold aappend; rw [hi]; dsimp only; rw [n1]; rfl
      · exact k none 0 h ⟨Nat.le_refl _, fun _ _ _ => rfl, fun i hb => by obtain ⟨o, hb⟩ := hb; cases hb⟩ OwnS.nil (fun i hb => by obtain ⟨o, hb⟩ := hb; cases hb)
    · have hyl : 0 < ys.length := List.length_pos_iff.2 hy0
      refine k' _ (.new (.row ([] ++ new) true e.sz)) _ (key (.slice (some ⟨h.size, 0, none⟩) ([] ++ ys).length (2 * ([] ++ ys).length + 1)) _ ?_) rfl ?_
      · unfold aappend; rw [hi]; dsimp only; rw [n1]; dsimp only
        rw [hls]
        have b1 : Nat.ble (([] : List α).length + ys.length) (0 / 2) = false := by rw [Bool.eq_false_iff]; intro q; have q := Nat.le_of_ble_eq_true q; rw [List.length_nil, Nat.zero_add, Nat.zero_div] at q; omega
        rw [b1, Nat.ble_eq_true_of_le hbd, n4]
        simp only [cond_false, Bool.and_self, cond_true]
        have b2 : reads h (.slice none ([] : List α).length 0) e.sz = some [] := rfl
        rw [b2]
        simp
      · refine k _ _ _ ⟨Nat.le_succ _, fun i hi _ => at_push_old hi _, fun i hb => by obtain ⟨o, hb⟩ := hb; cases hb⟩ ?_ (fun i hb => by obtain ⟨o, hb⟩ := hb; cases hb; exact .inr rfl)
        refine OwnS.mk' hmax hlo (at_push_new h _) (by simp only [List.nil_append]; omega) ?_ ?_
        · simp only [List.nil_append]; rw [n2]; have : (2 * ys.length + 1) / 2 = ys.length := by omega
          rw [this]; omega
        · simp only [List.nil_append]; exact n3.mono ((Up.push lo h _).fz hw)
  · have hown : (h.at i).own = true := by rw [hrow]; rfl
    have hil : i < h.size := live_lt hrow rfl
    have hxl : o + xs.length * e.sz ≤ cs.length := hel.len
    by_cases hroom : xs.length + ys.length ≤ c / 2
    · -- there is room
      by_cases hy0 : ys = []
      · subst hy0
        refine k' _ (.none) _ (key (.slice (some ⟨i, o, none⟩) xs.length c) _ ?_) rfl ?_
        · unfold aappend; rw [hi]; dsimp only; rw [n1]; dsimp only; rw [hls, Nat.ble_eq_true_of_le hroom]; rfl
        · have := k (some ⟨i, o, none⟩) c h ⟨Nat.le_refl _, fun _ _ _ => rfl, fun j hb => by obtain ⟨o', hb⟩ := hb; cases hb; exact ⟨hlo2, hown⟩⟩ (by simpa using so) (fun j hb => .inl hb)
          simpa using this
      · have hyl : 0 < ys.length := List.length_pos_iff.2 hy0
        have hfit : o + xs.length * e.sz + new.length ≤ cs.length := by
          rw [n2]
          have : (xs.length + ys.length) * e.sz ≤ c / 2 * e.sz := Nat.mul_le_mul_right _ hroom
          rw [Nat.add_mul] at this
          omega
        refine k' _ (.upd i (.row (splice cs (o + xs.length * e.sz) new) true e.sz)) (h.put i (.row (splice cs (o + xs.length * e.sz) new) true e.sz)) (key (.slice (some ⟨i, o, none⟩) (xs ++ ys).length c) _ ?_) ?_ ?_
        · unfold aappend; rw [hi]; dsimp only; rw [n1]; dsimp only; rw [hls, Nat.ble_eq_true_of_le hroom]
          have b1 : Nat.beq ys.length 0 = false := by rw [Bool.eq_false_iff]; intro q; have := Nat.eq_of_beq_eq_true q; omega
          rw [b1, hrow]
          simp only [cond_true, cond_false]
          rw [Nat.ble_eq_true_of_le hfit, n4, hle2]; rfl
        · show (bif Nat.ble wm i && (h.at i).own then some (h.put i _) else none) = _
          rw [hown, Nat.ble_eq_true_of_le (Nat.le_trans hw hlo2)]; rfl
        · have hu : Up lo (BaseA (some ⟨i, o, none⟩)) h (h.put i (.row (splice cs (o + xs.length * e.sz) new) true e.sz)) :=
            ⟨Nat.le_refl _, fun j _ hn => at_put_other (fun q => hn ⟨o, by rw [q]⟩) _, fun j hb => by obtain ⟨o', hb⟩ := hb; cases hb; exact ⟨hlo2, hown⟩⟩
          refine k _ _ _ hu ⟨hmax, .inr ⟨i, o, _, rfl, hlo2, at_put_same hil _, by rw [hle2]; exact hroom, ?_, ?_⟩⟩ (fun j hb => .inl hb)
          · simp only [splice, List.length_append, List.length_take, List.length_drop]; omega
          · refine ElAt.uncut ?_ (ElAt.mono (hu.fz hw) ?_)
            · simp only [splice, List.length_append, List.length_take, List.length_drop, Nat.add_mul, ← n2]; omega
            · have e1 : ((splice cs (o + xs.length * e.sz) new).drop o).take ((xs ++ ys).length * e.sz) = (cs.drop o).take (xs.length * e.sz) ++ new := by
                have l1 : (cs.take (o + xs.length * e.sz)).length = o + xs.length * e.sz := by rw [List.length_take]; omega
                unfold splice
                rw [List.append_assoc, List.drop_append_of_le_length (by omega), hle2, Nat.add_mul, ← n2, List.take_append]
                have l2 : ((cs.take (o + xs.length * e.sz)).drop o).length = xs.length * e.sz := by rw [List.length_drop, l1]; omega
                rw [l2, List.take_of_length_le (by rw [l2]; omega), List.drop_take]
                congr 1
                · congr 1; omega
                · have : xs.length * e.sz + new.length - xs.length * e.sz = new.length := by omega
                  rw [this, List.take_append_of_le_length (Nat.le_refl _), List.take_of_length_le (Nat.le_refl _)]
              rw [e1]
              exact ElAt.append (by rw [List.length_take, List.length_drop]; omega) hel.cut n3
    · -- it grows
      have b0 : Nat.ble (xs.length + ys.length) (c / 2) = false := by rw [Bool.eq_false_iff]; intro q; exact hroom (Nat.le_of_ble_eq_true q)
      have hold : reads h (.slice (some ⟨i, o, none⟩) xs.length c) e.sz = some ((cs.drop o).take (xs.length * e.sz)) := by
        rw [reads_some]
        cases hb : Nat.beq xs.length 0 with
        | true =>
          have := Nat.eq_of_beq_eq_true hb
          rw [this]; simp
        | false =>
          simp only [cond_false, hrow]
          rw [Nat.ble_eq_true_of_le hxl]; rfl
      have hol : ((cs.drop o).take (xs.length * e.sz)).length = xs.length * e.sz := by rw [List.length_take, List.length_drop]; omega
      have hrl : ((cs.drop o).take (xs.length * e.sz) ++ new).length = (xs ++ ys).length * e.sz := by rw [List.length_append, hol, n2, hle2, Nat.add_mul]
      have hcap : (2 * (xs ++ ys).length + 1) / 2 = (xs ++ ys).length := by omega
      cases hev2 : Nat.beq (c % 2) 0 with
      | true =>
        refine k' _ (.new (.row ((cs.drop o).take (xs.length * e.sz) ++ new) true e.sz)) _ (key (.slice (some ⟨h.size, 0, none⟩) (xs ++ ys).length (2 * (xs ++ ys).length + 1)) _ ?_) rfl ?_
        · unfold aappend; rw [hi]; dsimp only; rw [n1]; dsimp only; rw [hls, b0, Nat.ble_eq_true_of_le hbd, n4, hold, hev2, hle2]; rfl
        · refine k _ _ _ ⟨Nat.le_succ _, fun j hj _ => at_push_old hj _, fun j hb => by obtain ⟨o', hb⟩ := hb; cases hb; exact ⟨hlo2, hown⟩⟩ ?_ (fun j hb => by obtain ⟨o', hb⟩ := hb; cases hb; exact .inr rfl)
          refine OwnS.mk' hmax hlo (at_push_new h _) (by omega) (by rw [hcap, hrl]; exact Nat.le_refl _) ?_
          exact (ElAt.append hol hel.cut n3).mono ((Up.push lo h _).fz hw)
      | false =>
        refine k' _ (.grow i (.row ((cs.drop o).take (xs.length * e.sz) ++ new) true e.sz)) ((h.put i .dead).push (.row ((cs.drop o).take (xs.length * e.sz) ++ new) true e.sz)) (key (.slice (some ⟨h.size, 0, none⟩) (xs ++ ys).length (2 * (xs ++ ys).length + 1)) _ ?_) ?_ ?_
        · unfold aappend; rw [hi]; dsimp only; rw [n1]; dsimp only; rw [hls, b0, Nat.ble_eq_true_of_le hbd, n4, hold, hev2]
          simp only [cond_false, Bool.and_self, cond_true]
          rw [hrow]
          dsimp only
          rw [Nat.beq_refl, hle2]; rfl
        · show (bif Nat.ble wm i && (h.at i).own && true then some ((h.put i .dead).push _) else none) = _
          rw [hown, Nat.ble_eq_true_of_le (Nat.le_trans hw hlo2)]; rfl
        · have hu : Up lo (BaseA (some ⟨i, o, none⟩)) h ((h.put i .dead).push (.row ((cs.drop o).take (xs.length * e.sz) ++ new) true e.sz)) :=
            ⟨Nat.le_succ _, fun j hj hn => by rw [at_push_old (by simpa using hj), at_put_other (fun q => hn ⟨o, by rw [q]⟩)], fun j hb => by obtain ⟨o', hb⟩ := hb; cases hb; exact ⟨hlo2, hown⟩⟩
          refine k _ _ _ hu ?_ (fun j hb => by obtain ⟨o', hb⟩ := hb; cases hb; exact .inr rfl)
          refine OwnS.mk' hmax hlo (by have := at_push_new (h.put i .dead) (.row ((cs.drop o).take (xs.length * e.sz) ++ new) true e.sz); simpa using this) (by omega) (by rw [hcap, hrl]; exact Nat.le_refl _) ?_
          exact (ElAt.append hol hel.cut n3).mono (hu.fz hw)
end
theorem BaseA.none {i : Nat} : ¬ BaseA Option.none i := fun ⟨_, h⟩ => by cases h
section
variable {α : Type} {e : Rdr α} {lo : Nat} {h' : H}
end
end Go.Abs
end
end
section
noncomputable section
namespace Go.Abs
open Go.Lf
variable {X : Ctx} {P : Program}
theorem pureRun_bind2 {α β : Type} (s : Sem α) (f : α → Sem β) : pureRun P (s >>= f) = match pureRun P s with
    | some (.ok a) => pureRun P (f a)
    | some (.error v) => some (.error v)
    | none => none := by
  induction s with
  | pure a => rfl
  | program k ih => exact ih P
  | halt x => cases x <;> rfl
  | load | store | new | shape | freeze | frozen | getObj | setObj | choose | sys | mark => rfl
theorem prb {α β : Type} {s : Sem α} {f : α → Sem β} {a : α} (h : pureRun P s = some (.ok a)) : pureRun P (s >>= f) = pureRun P (f a) := by rw [pureRun_bind2, h]
theorem pr_underlying {t : TypeId} {u : TypeDesc} (h : P.underlying t = some u) : pureRun P (underlying t) = some (.ok u) := by
  show pureRun P (match P.underlying t with | some d => pure d | none => stuck "no such type") = _
  rw [h]; rfl
theorem eq_int {t : TypeId} {k : IntKind} {a b : Int} {d : Nat} (hu : P.underlying t = some (.int k)) : pureRun P (Op.equalIn (d + 1) t (.int k a) (.int k b)) = some (.ok (a == b)) := by
  unfold Op.equalIn
  rw [prb (pr_underlying hu)]
  show pureRun P (if k = k then pure (a == b) else stuck "==: kinds differ") = _
  rw [if_pos rfl]; rfl
theorem eq_bool {t : TypeId} {a b : Bool} {d : Nat} (hu : P.underlying t = some .bool) : pureRun P (Op.equalIn (d + 1) t (.bool a) (.bool b)) = some (.ok (a == b)) := by
  unfold Op.equalIn
  rw [prb (pr_underlying hu)]; rfl
theorem part_cell {t : TypeId} {cs : Array Value} {off : Nat} {v : Value} (ht : isAggP P t = some false) (hv : cs[off]? = some v) : pureRun P (part t cs off) = some (.ok v) := by
  unfold isAggP at ht
  unfold part isAgg
  cases hu : P.underlying t with
  | none => rw [hu] at ht; cases ht
  | some u =>
    rw [hu] at ht
    rw [prb (a := false)]
    · simp only [hv]; rfl
    · rw [prb (pr_underlying hu)]
      cases u <;> first | rfl | (cases ht; done)
def FEq (P : Program) (d : Nat) (xs ys : Array Value) : List Field → List Bool → Prop
  | [], [] => True
  | f :: fl, b :: bs => (f.name ≠ "_" ∧ ∃ v w, pureRun P (part f.type xs f.offset) = some (.ok v) ∧ pureRun P (part f.type ys f.offset) = some (.ok w) ∧ pureRun P (Op.equalIn d f.type v w) = some (.ok b)) ∧ FEq P d xs ys fl bs
  | _, _ => False
theorem feq_run {d : Nat} {xs ys : Array Value} : ∀ {fl : List Field} {bs : List Bool}, FEq P d xs ys fl bs →
    pureRun P (forIn fl ((none : Option Bool), ()) fun f _ => if f.name ≠ "_" then do
        let a ← part f.type xs f.offset
        let b ← part f.type ys f.offset
        let r ← Op.equalIn d f.type a b
        if (!r) = true then pure (ForInStep.done (some false, ())) else pure (ForInStep.yield (none, ()))
      else pure (ForInStep.yield (none, ())) : Sem (Option Bool × Unit)) = some (.ok (bif bs.all id then none else some false, ())) := by
  intro fl
  induction fl with
  | nil =>
    intro bs h
    cases bs with
    | nil => rfl
    | cons => exact h.elim
  | cons f fl ih =>
    intro bs h
    cases bs with
    | nil => exact h.elim
    | cons b bs =>
      obtain ⟨⟨h1, v, w, h2, h3, h4⟩, h5⟩ := h
      rw [List.forIn_cons, if_pos h1, pureRun_bind2, prb h2, prb h3, prb h4]
      cases b with
      | false => rfl
      | true =>
        have := ih h5
        have e : (true :: bs).all id = bs.all id := by simp
        rw [e, ← this]; rfl
theorem eq_struct {t : TypeId} {fs : Array Field} {xs ys : Array Value} {d : Nat} {bs : List Bool} (hu : P.underlying t = some (.struct fs)) (hst : P.stoodInHeld t = false) (hf : FEq P d xs ys fs.toList bs) :
    pureRun P (Op.equalIn (d + 1) t (.agg xs) (.agg ys)) = some (.ok (bs.all id)) := by
  unfold Op.equalIn
  rw [prb (pr_underlying hu)]
  show pureRun P (if P.stoodInHeld t = true then _ else _) = _
  rw [hst, if_neg (by simp)]
  dsimp only
  have := feq_run hf
  rw [← Array.forIn_toList]
  rw [prb this]
  cases bs.all id <;> rfl
theorem eqGuard_off {t : TypeId} {x y : Operand} {xs ys : Array Value} {op : BinOp} (hop : op = .eql ∨ op = .neq) (hg : P.eqGuardType P.depth t = false) : pureRun P (eqGuard op t x y (.agg xs) (.agg ys)) = some (.ok ()) := by
  rcases hop with rfl | rfl
  · show pureRun P (if (!P.eqGuardType P.depth t) = true then _ else _) = _
    rw [hg]; rfl
  · show pureRun P (if (!P.eqGuardType P.depth t) = true then _ else _) = _
    rw [hg]; rfl
def EqOf (P : Program) (t : TypeId) (xs ys : List Value) (b : Bool) : Prop := P.eqGuardType P.depth t = false ∧ pureRun P (Op.equal t (.agg xs.toArray) (.agg ys.toArray)) = some (.ok b)
theorem abin_eqS {t : TypeId} {x y : Operand} {xs ys : List Value} {b : Bool} (h : EqOf P t xs ys b) (h1 : xs.all scalar = true) (h2 : ys.all scalar = true) : abin P .eql t x y (.agg xs.toArray) (.agg ys.toArray) = some (.val (.bool b), .none) := by
  have hp : (plain (.agg xs.toArray) && plain (.agg ys.toArray)) = true := by
    have e1 : plain (.agg xs.toArray) = xs.all scalar := rfl
    have e2 : plain (.agg ys.toArray) = ys.all scalar := rfl
    rw [e1, e2, h1, h2]; rfl
  unfold abin
  rw [hp, cond_true]
  unfold pval
  rw [prb (eqGuard_off (.inl rfl) h.1)]
  have : pureRun P (binOp .eql t (.agg xs.toArray) (.agg ys.toArray)) = some (.ok (.bool b)) := by
    show pureRun P (do pure (Value.bool (← Op.equal t (.agg xs.toArray) (.agg ys.toArray))) : Sem Value) = _
    rw [prb h.2]; rfl
  rw [this]; rfl
theorem abin_neS {t : TypeId} {x y : Operand} {xs ys : List Value} {b : Bool} (h : EqOf P t xs ys b) (h1 : xs.all scalar = true) (h2 : ys.all scalar = true) : abin P .neq t x y (.agg xs.toArray) (.agg ys.toArray) = some (.val (.bool (!b)), .none) := by
  have hp : (plain (.agg xs.toArray) && plain (.agg ys.toArray)) = true := by
    have e1 : plain (.agg xs.toArray) = xs.all scalar := rfl
    have e2 : plain (.agg ys.toArray) = ys.all scalar := rfl
    rw [e1, e2, h1, h2]; rfl
  unfold abin
  rw [hp, cond_true]
  unfold pval
  rw [prb (eqGuard_off (.inr rfl) h.1)]
  have : pureRun P (binOp .neq t (.agg xs.toArray) (.agg ys.toArray)) = some (.ok (.bool (!b))) := by
    show pureRun P (do pure (Value.bool (!(← Op.equal t (.agg xs.toArray) (.agg ys.toArray)))) : Sem Value) = _
    rw [prb h.2]; rfl
  rw [this]; rfl
theorem aload_atA {h : H} {t : TypeId} {b o oo j sz : Nat} {vs ws : List Value} (ht : isAggP P t = some true) (hs : sizeP P t = some sz) (ha : At h b o vs) (ho : oo = o + j) (hj : Nat.ble (j + sz) vs.length = true) (hv : (vs.drop j).take sz = ws) : aload P h t (.pointer (some ⟨b, oo, none⟩)) = some (.agg ws.toArray) := by
  obtain ⟨cs, own, z, h1, h2, h3⟩ := ha.part (Nat.le_of_ble_eq_true hj) hv
  subst ho
  exact aload_agg ht hs h1 h2 h3
theorem ares_nil {fr : Fr} {h : H} : ares P fr h [] = some [] := rfl
theorem ares_tmp {fr : Fr} {h : H} {t : Nat} {v : Value} {rs : List ResultVar} {vs : List Value} (hv : aev fr (.tmp t) = some v) (hr : ares P fr h rs = some vs) : ares P fr h (.tmp t :: rs) = some (v :: vs) := by
  have e : ares1 P fr h (.tmp t) = some v := hv
  simp only [ares, e, hr]
theorem ares_cell {fr : Fr} {h : H} {a t : Nat} {p v : Value} {rs : List ResultVar} {vs : List Value} (hp : fr.at a = p) (hv : aload P h t p = some v) (hr : ares P fr h rs = some vs) : ares P fr h (.cell a t :: rs) = some (v :: vs) := by
  have e : ares1 P fr h (.cell a t) = some v := by show aload P h t (fr.at a) = some v; rw [hp]; exact hv
  simp only [ares, e, hr]
theorem RetK.gen1 {fn : Func} {R : Value → H → Prop} {fr : Fr} {h : H} {wr : Option Nat} {rs : List ResultVar} {v : Value} (hr : fn.results.toList = rs) (hv : ares X.P fr h rs = some [v]) (k : R v h) : RetK X fn (fun e h' => ∃ v, e = .ret v ∧ R v h') .ret ⟨fr, [], h, wr⟩ := by
  refine ⟨⟨rfl, v, ?_, v, rfl, k⟩⟩
  unfold aresult
  dsimp only
  rw [hr, hv]
theorem RetK.gen {fn : Func} {R : Value → H → Prop} {fr : Fr} {h : H} {wr : Option Nat} {rs : List ResultVar} {vs : List Value} (hr : fn.results.toList = rs) (hv : ares X.P fr h rs = some vs) (hl : Nat.beq vs.length 1 = false) (k : R (.tuple vs.toArray) h) : RetK X fn (fun e h' => ∃ v, e = .ret v ∧ R v h') .ret ⟨fr, [], h, wr⟩ := by
  refine ⟨⟨rfl, _, ?_, _, rfl, k⟩⟩
  unfold aresult
  dsimp only
  rw [hr, hv]
  match vs, hl with
  | [], _ => rfl
  | [_], h => cases h
  | _ :: _ :: _, _ => rfl
theorem abin_boolB {op : BinOp} {t : TypeId} {x y : Operand} {a b r : Bool} (hu : P.underlying t = some .bool) (h : op = .eql ∧ r = (a == b) ∨ op = .neq ∧ r = (a != b)) : abin P op t x y (.bool a) (.bool b) = some (.val (.bool r), .none) := by
  have hp : (plain (.bool a) && plain (.bool b)) = true := rfl
  have h2 : pureRun P (Op.equal t (.bool a) (.bool b)) = some (.ok (a == b)) := eq_bool (d := 9999) hu
  unfold abin
  rw [hp, cond_true]
  unfold pval
  rcases h with ⟨rfl, rfl⟩ | ⟨rfl, rfl⟩
  · have h1 : pureRun P (eqGuard .eql t x y (.bool a) (.bool b)) = some (.ok ()) := rfl
    rw [prb h1]
    have : pureRun P (binOp .eql t (.bool a) (.bool b)) = some (.ok (.bool (a == b))) := by
      show pureRun P (do pure (Value.bool (← Op.equal t (.bool a) (.bool b))) : Sem Value) = _
      rw [prb h2]; rfl
    rw [this]; rfl
  · have h1 : pureRun P (eqGuard .neq t x y (.bool a) (.bool b)) = some (.ok ()) := rfl
    rw [prb h1]
    have : pureRun P (binOp .neq t (.bool a) (.bool b)) = some (.ok (.bool (a != b))) := by
      show pureRun P (do pure (Value.bool (!(← Op.equal t (.bool a) (.bool b)))) : Sem Value) = _
      rw [prb h2]; rfl
    rw [this]; rfl
theorem abin_eqlB {t : TypeId} {x y : Operand} {a b : Bool} (hu : P.underlying t = some .bool) : abin P .eql t x y (.bool a) (.bool b) = some (.val (.bool (a == b)), .none) := abin_boolB hu (.inl ⟨rfl, rfl⟩)
theorem abin_neqB {t : TypeId} {x y : Operand} {a b : Bool} (hu : P.underlying t = some .bool) : abin P .neq t x y (.bool a) (.bool b) = some (.val (.bool (a != b)), .none) := abin_boolB hu (.inr ⟨rfl, rfl⟩)
end Go.Abs
end
end
section
noncomputable section
namespace Go.Abs
open Go.Lf
abbrev SfT := List (Nat × Nat × Nat × (AObj → Prop)) × List (Nat × List Nat)
variable {X : Ctx} {n wm : Nat} {rd : Option Nat} {ops : Array Oper} {l : List Oper} {fr : Fr} {ds : List Deferred} {h h1 : H} {ty : TypeId} {p : String} {af : Array Edge} {g : Option (Nat × Bool)} {m : Nat} {sf : SfT}
def Indep (A : AObj) : Prop := ∀ (ρ ρ' : Ren) (w : World) (b d : Nat) (l : Nat × Nat), ObjR ρ w b d l A → ObjR ρ' w b d l A
def Prm (P : Program) (wm : Nat) (rd : Option Nat) (ops : Array Oper) (o : Oper) (fr : Fr) (h : H) (v : Value) (x : Nat) (C : AObj → Prop) : Prop :=
  x < h.size ∧ Indep (h.at x) ∧ StepOK P wm rd ops o (fun _ => False) fr h v h ∧ ∀ A, C A → Indep A ∧ StepOK P wm rd ops o (fun _ => False) fr (h.put x A) v (h.put x A)
variable {Q : Fr → H → Prop}
theorem MOf_f (wm : Nat) (t : Option Nat) : MOf false wm t = fun x => t = some x := by funext x; unfold MOf; simp
theorem comp_sym {ps : List Nat} {i j : Nat} (h : i ≠ j) : comp ps i j = comp ps j i := by
  unfold comp
  rcases Nat.lt_or_ge i j with z | z
  · have h1 : Nat.blt i j = true := by rw [Nat.blt_eq]; exact z
    have h2 : Nat.blt j i = false := by rw [Bool.eq_false_iff]; intro q; rw [Nat.blt_eq] at q; omega
    rw [h1, h2]; rfl
  · have h1 : Nat.blt j i = true := by rw [Nat.blt_eq]; omega
    have h2 : Nat.blt i j = false := by rw [Bool.eq_false_iff]; intro q; rw [Nat.blt_eq] at q; omega
    rw [h1, h2]; rfl
theorem st_ex {x y : Operand} {t : TypeId} {b o z sz : Nat} {cs cs' vs : List Value} {v : Value} {d : Option Tmp} (hs : sizeP X.P t = some sz) (hx : aev fr x = some (.pointer (some ⟨b, o, none⟩))) (hy : aev fr y = some v)
    (hr : h.at b = .row cs true z) (hb : wm ≤ b) (hvs : v.cells.toList = vs) (hn : vs.length = sz) (hl : o + sz ≤ cs.length) (hc : vs.all Value.oneCell' = true) (hv : splice cs o vs = cs') :
    aop X h (aev fr) ⟨d, .store t x y, ty, p, af, g⟩ = some (.skip, .upd b (.row cs' true z)) ∧ (Eff.upd b (.row cs' true z)).apply wm h = some (h.put b (.row cs' true z)) := by
  subst hvs
  refine ⟨?_, ?_⟩
  · rw [aop_store, hx, hy]
    dsimp only
    have : astore X.P h t (.pointer (some ⟨b, o, none⟩)) v = some (.upd b (.row cs' true z)) := by
      unfold astore
      rw [hs]
      dsimp only
      rw [hr]
      dsimp only
      have h1 : Nat.beq v.cells.toList.length sz = true := by rw [hn]; exact Nat.beq_refl sz
      have h2 : Nat.ble (o + sz) cs.length = true := Nat.ble_eq_true_of_le hl
      rw [h1, h2, hc, hv]; rfl
    rw [this]; rfl
  · show (bif Nat.ble wm b && (h.at b).own then some (h.put b (.row cs' true z)) else none) = _
    rw [hr]
    have : Nat.ble wm b = true := Nat.ble_eq_true_of_le hb
    rw [this]; rfl
theorem av_bld {d : Option Tmp} {t : TypeId} {ps : Array (Nat × Operand)} {zs cs' : List Value} {pl : List (Nat × Nat)} {pvs : List (Nat × Value)} {ev : Operand → Option Value} (hb : BuildAt X.P t zs pl) (hp : evp ev ps.toList = some pvs) (ho : fillOK (fun i => pl[i]?) zs.length pvs = true) (hv : fillR (fun i => (pl.getD i (0, 0)).1) zs pvs = cs') :
    aop X h ev ⟨d, .build t ps, ty, p, af, g⟩ = some (.val (.agg cs'.toArray), .none) := by
  subst hv
  obtain ⟨z, fs, h1, rfl, h3, h4⟩ := hb
  show (match evp ev ps.toList with | some ps => vN (abuild X.P t ps) | none => none) = _
  rw [hp]
  dsimp only
  unfold abuild
  rw [h1, h3]
  dsimp only
  rw [h4]
  dsimp only
  rw [afill_eq (off := fun i => (pl.getD i (0, 0)).1) (fun i p e => by rw [List.getD_eq_getElem?_getD, e]; rfl) _ _ ho]
  rfl
section
variable {α : Type} {e : Rdr α}
end
end Go.Abs
end
end
section
noncomputable section
namespace Go.Abs
open Go.Lf
variable {X : Ctx} {P : Program} {κ ν : Type} [DecidableEq κ]
variable {kt : TypeId} {kv : κ → Value} {vv : ν → Value}
variable {wm lo : Nat} {h h' : H} {m : Option Nat} {l : List (κ × ν)}
section
variable {ops : Array Oper} {ol : List Oper} {fr : Fr} {ds : List Deferred} {ty : TypeId} {p : String} {af : Array Edge} {g : Option (Nat × Bool)} {d : Option Tmp} {vt : TypeId} {ev : Operand → Option Value}
end
end Go.Abs
end
end
section
noncomputable section
namespace Go.Abs
open Go.Lf
variable {P : Program}
end Go.Abs
end
end
section
noncomputable section
namespace Go.Abs
open Go.Lf
variable {X : Ctx} {n wm lo : Nat} {Q : XX → Fs → Prop} {fr : Fr} {ds : List Deferred} {h : H}
section
variable {ops : Array Oper} {ol : List Oper} {d : Nat} {ty : TypeId} {p : String} {af : Array Edge} {g : Option (Nat × Bool)} {rd : Option Nat}
theorem GuardIs.off {o : Oper} {c : Bool} (hg : GuardIs ops o fr c) (hc : c = false) : GuardOff ops o fr := ⟨hg.1, hg.2.trans hc⟩
end
section
variable {ops : Array Oper} {ol : List Oper} {d : Nat} {ty : TypeId} {p : String} {af : Array Edge} {g : Option (Nat × Bool)} {rd : Option Nat} {mm : Nat} {sf : SfT} {QQ : Fr → H → Prop} {κ ν : Type} [DecidableEq κ] {kt vt : TypeId} {kv : κ → Value} {vv : ν → Value} {m : Option Nat} {l : List (κ × ν)}
end
theorem WO.offO {ops : Array Oper} {ol : List Oper} {d : Nat} {op : Op} {ty : TypeId} {p : String} {af : Array Edge} {g : Option (Nat × Bool)} {rd : Option Nat} {c : Bool} (hg : GuardIs ops ⟨some d, op, ty, p, af, g⟩ fr c) (hc : c = false) (hd : Nat.blt d n = true) (k : WO X n wm rd ops ol ⟨Tr.set fr d undef, ds, h, none⟩ Q) :
    WO X n wm rd ops (⟨some d, op, ty, p, af, g⟩ :: ol) ⟨fr, ds, h, none⟩ Q := WO.o (hg.off hc) hd k
theorem av_mkf {ev : Operand → Option Value} {d : Option Tmp} {ty : TypeId} {p : String} {af : Array Edge} {g : Option (Nat × Bool)} {f : FuncId} {xs : Array Operand} {vs : List Value} (hx : evs ev xs.toList = some vs) : aop X h ev ⟨d, .makeFunc (.func f) #[] xs, ty, p, af, g⟩ = some (.val (.func (.func f) #[] vs.toArray), .none) := by
  show (bif isYield (.func f) then none else match evs ev [], evs ev xs.toList with | some vs, some us => some (AN.val (.func (.func f) vs.toArray us.toArray), Eff.none) | _, _ => none) = _
  rw [hx]; rfl
section
variable {ops : Array Oper} {ol : List Oper} {d : Nat} {ty : TypeId} {p : String} {af : Array Edge} {g : Option (Nat × Bool)} {rd : Option Nat} {mm : Nat} {sf : SfT} {QQ : Fr → H → Prop} {κ ν : Type} [DecidableEq κ] {kt vt : TypeId} {kv : κ → Value} {vv : ν → Value} {m : Option Nat} {l : List (κ × ν)}
end
end Go.Abs
end
end
section
noncomputable section
namespace Go.Abs
open Go.Lf
theorem own_lt {h : H} {i : Nat} (e : (h.at i).own = true) : i < h.size := by
  rcases Nat.lt_or_ge i h.size with z | z
  · exact z
  · rw [H.at_ge z] at e; cases e
structure Ast (wm : Nat) where
  P : H → Prop
  fp : Nat → Prop
  loc : ∀ {h h' : H}, Fz wm h h' → (∀ i, fp i → h'.at i = h.at i) → P h → P h'
  own : ∀ {h : H} {i : Nat}, P h → fp i → wm ≤ i ∧ (h.at i).own = true
def Dj {wm : Nat} (A B : Ast wm) : Prop := ∀ i, A.fp i → B.fp i → False
theorem Dj.symm {wm : Nat} {A B : Ast wm} (h : Dj A B) : Dj B A := fun i a b => h i b a
structure Hold {wm : Nat} (G : List (Ast wm)) (h : H) : Prop where
  all : ∀ A ∈ G, A.P h
  dis : G.Pairwise Dj
def Fps {wm : Nat} (G : List (Ast wm)) (i : Nat) : Prop := ∃ A ∈ G, A.fp i
structure Sp (wm : Nat) (T : Nat → Prop) (h0 : H) (G : List (Ast wm)) (h : H) : Prop where
  wl : wm ≤ h0.size
  fz : Fz wm h0 h
  keep : ∀ i, i < h0.size → ¬ T i → h.at i = h0.at i
  hold : Hold G h
  inn : ∀ i, Fps G i → T i ∨ h0.size ≤ i
inductive Pk {α : Type} : List α → α → List α → Prop
  | z {A : α} {G : List α} : Pk (A :: G) A G
  | s {A B : α} {G G' : List α} : Pk G A G' → Pk (B :: G) A (B :: G')
theorem Pk.perm {α : Type} {G G' : List α} {A : α} (p : Pk G A G') : G.Perm (A :: G') := by
  induction p with
  | z => exact List.Perm.refl _
  | s _ ih => exact (List.Perm.cons _ ih).trans (List.Perm.swap _ _ _)
theorem Pk.mem {α : Type} {G G' : List α} {A : α} (p : Pk G A G') : A ∈ G := p.perm.mem_iff.2 (by simp)
inductive Sel {α : Type} : List α → List α → List α → Prop
  | n {G : List α} : Sel G [] G
  | c {A : α} {G G1 Ga Gr : List α} : Pk G A G1 → Sel G1 Ga Gr → Sel G (A :: Ga) Gr
theorem Sel.perm {α : Type} {G Ga Gr : List α} (p : Sel G Ga Gr) : G.Perm (Ga ++ Gr) := by
  induction p with
  | n => exact List.Perm.refl _
  | c p _ ih => exact p.perm.trans (List.Perm.cons _ ih)
section
variable {wm : Nat} {G Ga Gb Gr : List (Ast wm)} {h h' h0 : H} {T t : Nat → Prop} {A B : Ast wm}
theorem Hold.perm (p : G.Perm Ga) (s : Hold G h) : Hold Ga h := ⟨fun A m => s.all A (p.mem_iff.2 m), (p.pairwise_iff (fun h => Dj.symm h)).1 s.dis⟩
theorem Hold.left (s : Hold (Ga ++ Gr) h) : Hold Ga h := ⟨fun A m => s.all A (List.mem_append.2 (.inl m)), (List.pairwise_append.1 s.dis).1⟩
theorem Hold.right (s : Hold (Ga ++ Gr) h) : Hold Gr h := ⟨fun A m => s.all A (List.mem_append.2 (.inr m)), (List.pairwise_append.1 s.dis).2.1⟩
theorem Hold.nil : Hold ([] : List (Ast wm)) h := ⟨fun _ m => by simp at m, .nil⟩
theorem Hold.one (a : A.P h) : Hold [A] h := ⟨fun _ m => by rw [List.mem_singleton.1 m]; exact a, List.pairwise_singleton _ _⟩
theorem Fps.perm (p : G.Perm Ga) {i : Nat} (s : Fps G i) : Fps Ga i := let ⟨A, m, f⟩ := s; ⟨A, p.mem_iff.1 m, f⟩
theorem Hold.own (s : Hold G h) {i : Nat} (f : Fps G i) : wm ≤ i ∧ (h.at i).own = true := let ⟨A, m, f⟩ := f; A.own (s.all A m) f
theorem Sp.perm (p : G.Perm Ga) (s : Sp wm T h0 G h) : Sp wm T h0 Ga h := ⟨s.wl, s.fz, s.keep, s.hold.perm p, fun i f => s.inn i (f.perm p.symm)⟩
theorem Sp.size (s : Sp wm T h0 G h) : h0.size ≤ h.size := s.fz.size
theorem Sp.hw (s : Sp wm T h0 G h) : wm ≤ h.size := Nat.le_trans s.wl s.fz.size
theorem Sp.start (hw : wm ≤ h.size) (s : Hold G h) : Sp wm (Fps G) h G h := ⟨hw, Fz.refl _ _, fun _ _ _ => rfl, s, fun _ f => .inl f⟩
theorem Sp.step (s : Sp wm T h0 (Ga ++ Gr) h) (u : Up wm t h h') (ht : ∀ i, t i → Fps Ga i) (hb : Hold Gb h') (hf : ∀ i, Fps Gb i → Fps Ga i ∨ h.size ≤ i) : Sp wm T h0 (Gb ++ Gr) h' := by
  have hd := (List.pairwise_append.1 s.hold.dis).2.2
  have hsep : ∀ i, Fps Ga i → Fps Gr i → False := fun i ⟨A, m, f⟩ ⟨B, m', f'⟩ => hd A m B m' i f f'
  have hr := s.hold.right
  refine ⟨s.wl, s.fz.trans (u.fz (Nat.le_refl _)), fun i hi hn => ?_, ⟨fun A m => ?_, ?_⟩, fun i f => ?_⟩
  · have hnt : ¬ t i := fun q => by
      rcases s.inn i (by obtain ⟨A, m, f⟩ := ht i q; exact ⟨A, List.mem_append.2 (.inl m), f⟩) with z | z
      · exact hn z
      · omega
    rw [u.keep i (Nat.lt_of_lt_of_le hi s.size) hnt, s.keep i hi hn]
  · rcases List.mem_append.1 m with m | m
    · exact hb.all A m
    · exact A.loc (u.fz (Nat.le_refl _)) (fun i f => u.keep i (own_lt (A.own (hr.all A m) f).2) (fun q => hsep i (ht i q) ⟨A, m, f⟩)) (hr.all A m)
  · refine List.pairwise_append.2 ⟨hb.dis, hr.dis, fun B m A m' i f f' => ?_⟩
    rcases hf i ⟨B, m, f⟩ with z | z
    · exact hsep i z ⟨A, m', f'⟩
    · exact absurd (own_lt (A.own (hr.all A m') f').2) (Nat.not_lt_of_le z)
  · obtain ⟨A, m, f⟩ := f
    rcases List.mem_append.1 m with m | m
    · rcases hf i ⟨A, m, f⟩ with ⟨B, m', f'⟩ | z
      · exact s.inn i ⟨B, List.mem_append.2 (.inl m'), f'⟩
      · exact .inr (Nat.le_trans s.size z)
    · exact s.inn i ⟨A, List.mem_append.2 (.inr m), f⟩
theorem Sp.new (s : Sp wm T h0 Gr h) (u : Up wm (fun _ => False) h h') (hb : B.P h') (hf : ∀ i, B.fp i → h.size ≤ i) : Sp wm T h0 (B :: Gr) h' :=
  Sp.step (Ga := []) (Gb := [B]) s u (fun _ z => z.elim) (Hold.one hb) fun i ⟨A, m, f⟩ => by rw [List.mem_singleton.1 m] at f; exact .inr (hf i f)
theorem Sp.up (s : Sp wm T h0 Gr h) (u : Up wm (fun _ => False) h h') : Sp wm T h0 Gr h' :=
  Sp.step (Ga := []) (Gb := []) s u (fun _ z => z.elim) Hold.nil fun i ⟨A, m, f⟩ => by simp at m
theorem Sp.one (p : Pk G A Gr) (s : Sp wm T h0 G h) (u : Up wm t h h') (ht : ∀ i, t i → A.fp i) (hb : B.P h') (hf : ∀ i, B.fp i → A.fp i ∨ h.size ≤ i) : Sp wm T h0 (B :: Gr) h' :=
  Sp.step (Ga := [A]) (Gb := [B]) (s.perm p.perm) u (fun i q => ⟨A, by simp, ht i q⟩) (Hold.one hb) fun i ⟨C, m, f⟩ => by
    rw [List.mem_singleton.1 m] at f
    exact (hf i f).imp (fun z => ⟨A, by simp, z⟩) id
theorem Sp.get (s : Sp wm T h0 G h) (p : Pk G A Gr) : A.P h := s.hold.all A p.mem
theorem Sp.only (p : Sel G Ga Gr) (s : Sp wm T h0 G h) : Sp wm T h0 Ga h := by
  have s := s.perm p.perm
  exact ⟨s.wl, s.fz, s.keep, s.hold.left, fun i ⟨B, m, f⟩ => s.inn i ⟨B, by simp [m], f⟩⟩
theorem Sp.add (s : Sp wm T h0 G h) (ha : A.P h) (hf : ∀ i, ¬ A.fp i) : Sp wm T h0 (A :: G) h :=
  ⟨s.wl, s.fz, s.keep, ⟨fun B m => by rcases List.mem_cons.1 m with m | m; · rw [m]; exact ha
                                      · exact s.hold.all B m, List.pairwise_cons.2 ⟨fun B _ i f _ => hf i f, s.hold.dis⟩⟩, fun i ⟨B, m, f⟩ => by
    rcases List.mem_cons.1 m with m | m
    · rw [m] at f; exact absurd f (hf i)
    · exact s.inn i ⟨B, m, f⟩⟩
theorem Sp.call (p : Sel G Ga Gr) (s : Sp wm T h0 G h) (c : Sp wm (Fps Ga) h Gb h') : Sp wm T h0 (Gb ++ Gr) h' := by
  have s := s.perm p.perm
  exact Sp.step s ⟨c.size, c.keep, fun i f => s.hold.left.own f⟩ (fun _ q => q) c.hold c.inn
theorem Sp.hold_of (p : Sel G Ga Gr) (s : Sp wm T h0 G h) : Hold Ga h := (s.hold.perm p.perm).left
end
def bx (wm b : Nat) (cs : List Value) : Ast wm where
  P := fun h => h.at b = .row cs true 0 ∧ wm ≤ b
  fp := fun i => i = b
  loc := fun _ k ⟨h1, h2⟩ => ⟨by rw [k b rfl, h1], h2⟩
  own := fun ⟨h1, h2⟩ e => by subst e; exact ⟨h2, by rw [h1]; rfl⟩
def ow {α : Type} (wm : Nat) (e : Rdr α) (a : Option Addr) (n c : Nat) (xs : List α) : Ast wm where
  P := fun h => n = xs.length ∧ OwnS e wm wm h a c xs
  fp := BaseA a
  loc := fun f k ⟨h1, s⟩ => ⟨h1, s.max, s.mem.imp id fun ⟨i, o, cs, q1, q2, q3, q4, q5, q6⟩ => ⟨i, o, cs, q1, q2, by rw [k i ⟨o, q1⟩, q3], q4, q5, q6.mono f⟩⟩
  own := fun ⟨_, s⟩ ⟨o, e⟩ => by
    rcases s.mem with ⟨h1, _⟩ | ⟨i, o', cs, q1, q2, q3, _⟩
    · rw [h1] at e; cases e
    · rw [q1] at e; cases e; exact ⟨q2, by rw [q3]; rfl⟩
def fzA {α : Type} (wm : Nat) (r : Rdr α) (p : r.Par) (x : α) : Ast wm where
  P := fun h => r.F wm h p x
  fp := fun _ => False
  loc := fun f _ s => r.mono f s
  own := fun _ z => z.elim
def ob (wm b : Nat) (A : AObj) : Ast wm where
  P := fun h => h.at b = A ∧ wm ≤ b ∧ A.own = true
  fp := fun i => i = b
  loc := fun _ k ⟨h1, h2⟩ => ⟨by rw [k b rfl, h1], h2⟩
  own := fun ⟨h1, h2, h3⟩ e => by subst e; exact ⟨h2, by rw [h1]; exact h3⟩
section
variable {wm : Nat} {G Gr : List (Ast wm)} {h h0 : H} {T : Nat → Prop}
theorem Sp.atB {b : Nat} {cs : List Value} (s : Sp wm T h0 G h) (p : Pk G (bx wm b cs) Gr) : At h b 0 cs := At.box (s.get p).1
theorem Sp.lt {b : Nat} {cs : List Value} (s : Sp wm T h0 G h) (p : Pk G (bx wm b cs) Gr) : b < h.size := live_lt (s.get p).1 rfl
theorem Sp.osrc {α : Type} {e : Rdr α} {a : Option Addr} {n c : Nat} {xs : List α} (s : Sp wm T h0 G h) (p : Pk G (ow wm e a n c xs) Gr) : Src e wm h a c xs := (s.get p).2.src
theorem Sp.ord {α : Type} {e : Rdr α} {a : Option Addr} {n c : Nat} {xs : List α} (s : Sp wm T h0 G h) (p : Pk G (ow wm e a n c xs) Gr) : Sl e h.size h a c xs := (s.osrc p).sl s.hw
theorem Sp.on {α : Type} {e : Rdr α} {a : Option Addr} {n c : Nat} {xs : List α} (s : Sp wm T h0 G h) (p : Pk G (ow wm e a n c xs) Gr) : n = xs.length := (s.get p).1
theorem Sp.sl {α : Type} {e : Rdr α} {a : Option Addr} {c : Nat} {xs : List α} (s : Sp wm T h0 G h) (f : Sl e wm h0 a c xs) : Sl e wm h a c xs := f.mono s.fz
theorem Sp.slu {α : Type} {e : Rdr α} {a : Option Addr} {c : Nat} {xs : List α} (s : Sp wm T h0 G h) (f : Sl e wm h0 a c xs) : Sl e h.size h a c xs := (f.mono s.fz).up s.hw
end
end Go.Abs
end
end
section
noncomputable section
namespace Go.Abs
open Go.Lf
variable {X : Ctx} {n wm : Nat} {rd : Option Nat} {ops : Array Oper} {l : List Oper} {fr : Fr} {ds : List Deferred} {h h1 h2 : H} {ty : TypeId} {p : String} {af : Array Edge} {g : Option (Nat × Bool)} {m : Nat}
def VV (h h2 : H) (xs : List Nat) (x : Nat) : Prop := (x < h.size ∧ x ∈ xs) ∨ h2.size ≤ x
structure ST where
  s : List (Nat × (Nat → Prop))
  m : List (Nat × (Nat → Prop))
  p : List (Nat × Nat × Nat × (AObj → Prop))
def ST.nil : ST := ⟨[], [], []⟩
structure OneE (X : Ctx) (n wm : Nat) (rd : Option Nat) (ops : Array Oper) (o : Oper) (T : Nat → Prop) (xs : List Nat) (h : H) (fr : Fr) (v : Value) (h2 : H) : Prop where
  run : wm ≤ h.size → ∃ h1, h2 = unmask xs h h1 ∧ StepOK X.P wm rd ops o T fr (mask xs h) v h1 ∧ KeepM T (mask xs h) h1
  wmT : ∀ x, T x → wm ≤ x
  dst : ∀ d, o.dst = some d → d < n
  hl : heapless o = true → (∀ x, ¬ T x) ∧ h2 = h ∧ ∀ g, StepOK X.P wm rd ops o (fun _ => False) fr g v g
  mx : ∀ x, T x → x < h.size → x ∉ xs
abbrev Cmp (ops : Array Oper) (i j : Nat) : Prop := comp (predsF ops.toList 0 []) i j = true
abbrev PsT := Option (Nat × Nat × (AObj → Prop))
structure WE (X : Ctx) (n wm : Nat) (rd : Option Nat) (ops : Array Oper) (sf : ST) (m : Nat) (h : H) (l : List Oper) (fr : Fr) (Q : Fr → H → Prop) : Prop where
  out : ∃ (hs : Nat → H) (fs : Nat → Fr) (vs : Nat → Value) (Ts : Nat → Nat → Prop) (xs : Nat → List Nat) (ps : Nat → PsT), hs 0 = h ∧ fs 0 = fr ∧ Q (fs l.length) (hs l.length) ∧ ∀ k o, l[k]? = some o →
    OneE X n wm rd ops o (Ts k) (xs k) (hs k) (fs k) (vs k) (hs (k + 1)) ∧ fs (k + 1) = setd (fs k) o.dst (vs k) ∧
    (∀ x, Ts k x → x < (hs k).size → ∀ i o', i < m + k → ops.toList[i]? = some o' → Cmp ops i (m + k) ∨ heapless o' = true ∨ (∃ V, (i, V) ∈ sf.s ∧ V x) ∨ (∃ C, (i, x, m + k, C) ∈ sf.p ∧ C ((hs (k + 1)).at x)) ∨
      ∃ i', i = m + i' ∧ i' < k ∧ (VV (hs i') (hs (i' + 1)) (xs i') x ∨ ∃ C, ps i' = some (x, m + k, C) ∧ C ((hs (k + 1)).at x))) ∧
    (heapless o = false → (∀ q ∈ sf.m, Cmp ops q.1 (m + k) ∨ ∀ x, q.2 x → VV (hs k) (hs (k + 1)) (xs k) x) ∧ ∀ i', i' < k → Cmp ops (m + i') (m + k) ∨ ∀ x, Ts i' x → x < (hs i').size → VV (hs k) (hs (k + 1)) (xs k) x) ∧
    (∀ x j C, ps k = some (x, j, C) → xs k = [] ∧ (∀ y, ¬ Ts k y) ∧ hs (k + 1) = hs k ∧ Prm X.P wm rd ops o (fs k) (hs k) (vs k) x C)
variable {sf : ST} {Q : Fr → H → Prop}
theorem WE.nil (k : Q fr h) : WE X n wm rd ops sf m h [] fr Q := ⟨fun _ => h, fun _ => fr, fun _ => undef, fun _ _ => False, fun _ => [], fun _ => none, rfl, rfl, k, fun k o e => by simp at e⟩
theorem WE.cons {o : Oper} {v : Value} {T : Nat → Prop} {xs0 : List Nat} (so to : List (Nat × (Nat → Prop))) (p0 : PsT) (h1 : OneE X n wm rd ops o T xs0 h fr v h2)
    (hso : ∀ q ∈ so, q.1 = m ∧ ∀ x, q.2 x → VV h h2 xs0 x) (hto : ∀ x, T x → x < h.size → ∃ q ∈ to, q.1 = m ∧ q.2 x)
    (c1 : ∀ x, T x → x < h.size → ∀ i o', i < m → ops.toList[i]? = some o' → Cmp ops i m ∨ heapless o' = true ∨ (∃ V, (i, V) ∈ sf.s ∧ V x) ∨ ∃ C, (i, x, m, C) ∈ sf.p ∧ C (h2.at x))
    (c2 : heapless o = false → ∀ q ∈ sf.m, Cmp ops q.1 m ∨ ∀ x, q.2 x → VV h h2 xs0 x)
    (hp : ∀ x j C, p0 = some (x, j, C) → xs0 = [] ∧ (∀ y, ¬ T y) ∧ h2 = h ∧ Prm X.P wm rd ops o fr h v x C)
    (k : WE X n wm rd ops ⟨so ++ sf.s, to ++ sf.m, (p0.map fun q => (m, q.1, q.2.1, q.2.2)).toList ++ sf.p⟩ (m + 1) h2 l (setd fr o.dst v) Q) : WE X n wm rd ops sf m h (o :: l) fr Q := by
  obtain ⟨gs, fs, vs, Ts, xs, ps, e0, e1, hq, hk⟩ := k
  refine ⟨fun k => match k with | 0 => h | k + 1 => gs k, fun k => match k with | 0 => fr | k + 1 => fs k, fun k => match k with | 0 => v | k + 1 => vs k, fun k => match k with | 0 => T | k + 1 => Ts k, fun k => match k with | 0 => xs0 | k + 1 => xs k, fun k => match k with | 0 => p0 | k + 1 => ps k, rfl, rfl, hq, fun k o' ho' => ?_⟩
  cases k with
  | zero =>
    simp at ho'
    subst ho'
    dsimp only
    rw [e0]
    refine ⟨h1, e1, fun x tx hx i o' hi ho' => ?_, fun hh => ⟨c2 hh, fun i' hi' => absurd hi' (Nat.not_lt_zero _)⟩, hp⟩
    rcases c1 x tx hx i o' hi ho' with z | z | z | z
    · exact .inl z
    · exact .inr (.inl z)
    · exact .inr (.inr (.inl z))
    · exact .inr (.inr (.inr (.inl z)))
  | succ k =>
    obtain ⟨k1, k2, k3, k4, k5⟩ := hk k o' (by simpa using ho')
    have e : m + 1 + k = m + (k + 1) := by omega
    rw [e] at k3 k4
    dsimp only
    refine ⟨k1, k2, fun x tx hx i o' hi ho' => ?_, fun hh => ⟨fun q hq => (k4 hh).1 q (List.mem_append.2 (.inr hq)), fun i' hi' => ?_⟩, k5⟩
    · rcases k3 x tx hx i o' hi ho' with z | z | ⟨V, z1, z2⟩ | ⟨C, z1, z2⟩ | ⟨i', q1, q2, q3⟩
      · exact .inl z
      · exact .inr (.inl z)
      · rcases List.mem_append.1 z1 with z1 | z1
        · obtain ⟨w1, w2⟩ := hso _ z1
          dsimp only at w1 w2
          subst w1
          refine .inr (.inr (.inr (.inr ⟨0, rfl, Nat.succ_pos _, .inl ?_⟩)))
          dsimp only
          rw [e0]; exact w2 x z2
        · exact .inr (.inr (.inl ⟨V, z1, z2⟩))
      · rcases List.mem_append.1 z1 with z1 | z1
        · cases p0 with
          | none => simp at z1
          | some q =>
            simp at z1
            obtain ⟨w1, w2, w3, w4⟩ := z1
            subst w1
            exact .inr (.inr (.inr (.inr ⟨0, rfl, Nat.succ_pos _, .inr ⟨C, by show some q = _; rw [w2, w3, w4], z2⟩⟩)))
        · exact .inr (.inr (.inr (.inl ⟨C, z1, z2⟩)))
      · exact .inr (.inr (.inr (.inr ⟨i' + 1, by omega, by omega, q3⟩)))
    · cases i' with
      | zero =>
        dsimp only
        by_cases hc : Cmp ops (m + 0) (m + (k + 1))
        · exact .inl hc
        · refine .inr fun x tx hx => ?_
          obtain ⟨q, q1, q2, q3⟩ := hto x tx hx
          rcases (k4 hh).1 q (List.mem_append.2 (.inl q1)) with z | z
          · rw [q2] at z; exact absurd z hc
          · exact z x q3
      | succ i' =>
        have := (k4 hh).2 i' (by omega)
        have e2 : m + 1 + i' = m + (i' + 1) := by omega
        rw [e2] at this
        exact this
theorem WC.drawE (hm : X.P.follows .mixedOrders = true) {id : Nat} {R : XX → Fs → Prop} (hp : (plan ops.toList).isSome = true) (k : WE X n wm rd ops ST.nil 0 h ops.toList fr (fun fr' h' => R .normal ⟨fr', ds, h', none⟩)) : WC X n wm rd (.region id ops true) ⟨fr, ds, h, none⟩ R := by
  obtain ⟨gs, fs, vs, ts, xs, ps, e0, e1, hq, hk⟩ := k
  obtain ⟨incs, hp⟩ := Option.isSome_iff_exists.1 hp
  refine ⟨.normal, _, hq, fun ρ a w F hwm hi hF => ?_⟩
  unfold plan planW at hp
  cases hall : (allIdx edgeOK ops.toList 0 && allIdx (lookOK ops.toList (predsF ops.toList 0 [])) ops.toList 0 && allIdx (dstOK ops.toList) ops.toList 0) <;> rw [hall] at hp <;> simp only [cond_true, cond_false] at hp
  · cases hp
  rw [Bool.and_eq_true, Bool.and_eq_true] at hall
  obtain ⟨⟨hedge, hlook⟩, hdst⟩ := hall
  have hedge := allIdx_spec _ _ hedge
  have hlook := allIdx_spec _ _ hlook
  have hdst := allIdx_spec _ _ hdst
  have hget : ∀ {k : Nat} {o : Oper}, ops[k]? = some o → ops.toList[k]? = some o := fun h => by rwa [Array.getElem?_toList]
  have hspec := (predsF_spec ops.toList 0 [] rfl).2
  have hwk : ∀ k, k ≤ ops.size → wm ≤ (gs k).size := by
    intro k
    induction k with
    | zero => intro _; rw [e0]; exact hwm
    | succ k ih =>
      intro hk'
      have hlt : k < ops.size := by omega
      have ho : ops.toList[k]? = some ops[k] := by simp [hlt]
      obtain ⟨h1, q1, _, q3⟩ := (hk k _ ho).1.run (ih (by omega))
      have q2 := q3.size
      rw [mask_size] at q2
      have := ih (by omega)
      rw [q1, unmask_size]; omega
  have hlt : ∀ {k : Nat} {o : Oper}, ops[k]? = some o → k < ops.size := fun h => (Array.getElem?_eq_some_iff.1 h).1
  have hco : ∀ {k : Nat} (hl : k < ops.size), ops.toList[k]? = some ops[k] := fun hl => by simp [hl]
  classical
  let sft : Nat → Option (Nat × Nat) := fun i => match ps i with
    | none => none
    | some (x, j, C) => if i < j ∧ j < ops.size ∧ ts j x ∧ C ((gs (j + 1)).at x) then some (x, j) else none
  have sft_spec : ∀ i x j, sft i = some (x, j) → ∃ C, ps i = some (x, j, C) ∧ i < j ∧ j < ops.size ∧ ts j x ∧ C ((gs (j + 1)).at x) := by
    intro i x j e
    dsimp only [sft] at e
    cases hp : ps i with
    | none => rw [hp] at e; cases e
    | some q =>
      obtain ⟨y, j', C⟩ := q
      rw [hp] at e
      dsimp only at e
      split at e
      · rename_i hh; cases e; exact ⟨C, rfl, hh⟩
      · cases e
  let D : Data X.P n wm rd ops := {
    hs := gs, fs := fs, vs := vs, mo := ts, Xs := xs, soft := sft, hl := fun i => hlAt ops.toList i, Pb := fun j k => bit ((predsF ops.toList 0 []).getD j 0) k = true
    size0 := hwk 0 (Nat.zero_le _)
    step := fun k o ho => by
      obtain ⟨h1, q1, q2, q3⟩ := (hk k o (hget ho)).1.run (hwk _ (Nat.le_of_lt (hlt ho)))
      exact ⟨h1, q2, q3, q1, (hk k o (hget ho)).2.1⟩
    wmM := fun k x hkl hx => (hk k _ (hco hkl)).1.wmT x hx
    dst := fun k o d ho hd => (hk k o (hget ho)).1.dst d hd
    pb_elim := fun j k hb => by
      obtain ⟨o, ho, e, he, hb, hk⟩ := hspec j k (Nat.zero_le _) hb
      exact ⟨o, e, by rw [← Array.getElem?_toList]; simpa using ho, by simpa using he, hb, hk⟩
    edges := fun j o e ho he hb => by
      have := hedge j o (hget ho)
      unfold edgeOK at this
      rw [List.all_eq_true] at this
      have := this e (by simpa using he)
      rw [hb] at this
      simpa [Nat.blt_eq] using this
    inc := fun i j hil hjl hij h1 h2 hhl x hx hxs => by
      have nc : ¬ Cmp ops i j := fun q => by
        rcases comp_pb q with y | y
        · exact h1 y
        · exact h2 y
      have hh : heapless ops[i] = false := by
        have : hlAt ops.toList i = false := hhl
        unfold hlAt at this; rw [hco hil] at this; exact this
      rcases Nat.lt_or_ge i j with hlt' | hge
      · have := (hk j _ (hco hjl)).2.2.1 x hx hxs i _ (by omega) (hco hil)
        rw [Nat.zero_add] at this
        rcases this with q | q | ⟨V, q, _⟩ | ⟨C, q, _⟩ | ⟨i', q1, q2, q3⟩
        · exact absurd q nc
        · rw [hh] at q; cases q
        · simp [ST.nil] at q
        · simp [ST.nil] at q
        · rw [Nat.zero_add] at q1
          subst q1
          rcases q3 with q3 | ⟨C, q3, q4⟩
          · exact q3.imp (fun z => ⟨z.1, .inl z.2⟩) (fun z => z)
          · left
            have hpr := (hk i _ (hco hil)).2.2.2.2 x j C q3
            refine ⟨hpr.2.2.2.1, .inr ?_⟩
            dsimp only [sft]
            rw [q3]
            dsimp only
            rw [if_pos ⟨q2, hjl, hx, q4⟩]
      · have := ((hk i _ (hco hil)).2.2.2.1 hh).2 j (by omega)
        rw [Nat.zero_add, Nat.zero_add] at this
        rcases this with q | q
        · exact absurd (by unfold Cmp; rw [comp_sym hij]; exact q) nc
        · exact (q x hx hxs).imp (fun z => ⟨z.1, .inl z.2⟩) (fun z => z)
    hlOK := fun i o ho hh => by
      have hq : heapless o = true := by unfold hlAt at hh; rw [hget ho] at hh; exact hh
      obtain ⟨z1, z2, z3⟩ := (hk i o (hget ho)).1.hl hq
      exact ⟨z1, by rw [z2], z3⟩
    softOK := fun i o x j ho hh => by
      obtain ⟨C, s1, s2, s3, s4, s5⟩ := sft_spec i x j hh
      obtain ⟨z0, z1, z2, z3, z4, z5, z6⟩ := (hk i o (hget ho)).2.2.2.2 x j C s1
      obtain ⟨w1, w2⟩ := z6 _ s5
      exact ⟨s2, s3, z3, z1, by rw [z2], z4, w1, by rw [z0]; exact z5, by rw [z0]; exact w2⟩
    MX := fun i x hil hx hxs => (hk i _ (hco hil)).1.mx x hx hxs
    looks := fun i o t ho ht k o' ho' hd => by
      have := hlook i o (hget ho)
      unfold lookOK at this
      rw [List.all_eq_true] at this
      have := allIdx_spec _ _ (this t ht) k o' (hget ho')
      rw [isT_iff.2 hd] at this
      simp only [cond_true, Bool.or_eq_true, Nat.zero_add] at this
      rcases this with z | z
      · exact .inl (Nat.eq_of_beq_eq_true z)
      · exact .inr (comp_pb z)
    dsts := fun i j o o' t ho ho' hd hd' => by
      have := hdst i o (hget ho)
      unfold dstOK at this
      rw [hd] at this
      have := allIdx_spec _ _ this j o' (hget ho')
      rw [isT_iff.2 hd'] at this
      simp only [cond_true, Nat.zero_add] at this
      exact (Nat.eq_of_beq_eq_true this).symm }
  have hi2 : Inv ρ n { fr := D.fs 0, ds := ds, h := D.hs 0 } a w := ⟨by show Rel ρ (gs 0) w; rw [e0]; exact hi.rel, by show FrR ρ (fs 0) n a.tmps; rw [e1]; exact hi.fr, hi.ds⟩
  have := D.region hm hi2 hF id
  have hlen : ops.toList.length = ops.size := by simp
  rw [hlen]
  refine wpIn_mono this fun e' a' w' ⟨ρ', q1, q2, q3⟩ => ⟨ρ', q1, ⟨q2.rel, q2.fr, q2.ds⟩, ?_⟩
  have e0' : D.hs 0 = h := e0
  rw [e0'] at q3
  exact q3
end Go.Abs
end
end
section
noncomputable section
namespace Go.Abs
open Go.Lf
variable {X : Ctx} {n wm : Nat} {rd : Option Nat} {ops : Array Oper} {l : List Oper} {fr : Fr} {ds : List Deferred} {h h1 h2 h0 : H} {ty : TypeId} {p : String} {af : Array Edge} {g : Option (Nat × Bool)} {m : Nat}
theorem val_step {d : Option Tmp} {op : Op} {v : Value} {E : Eff} (hg : GuardOn ops ⟨d, op, ty, p, af, g⟩ fr) (ha : aop X h (aev fr) ⟨d, op, ty, p, af, g⟩ = some (.val v, E) ∨ aop X h (aev fr) ⟨d, op, ty, p, af, g⟩ = some (.skip, E) ∧ v = undef) (hE : E.apply wm h = some h1) :
    StepOK X.P wm rd ops ⟨d, op, ty, p, af, g⟩ (fun x => E.tgt = some x) fr h v h1 ∧ (wm ≤ h.size → KeepM (fun x => E.tgt = some x) h h1) ∧ (wm ≤ h.size → ∀ x, E.tgt = some x → wm ≤ x) := by
  have hds : dstep X (fun _ => true) (fun _ => none) ((d.getD 0) + 1) wm none false ops.toList ⟨d, op, ty, p, af, g⟩ fr h = some (E.tgt, v, h1) := by
    unfold dstep
    dsimp only
    rw [hg.1, hg.2]
    cases d with
    | none =>
      rcases ha with ha | ⟨ha, rfl⟩
      · rw [ha]; dsimp only [Bool.not_true, cond_false, cond_true]; rw [hE]; rfl
      · rw [ha]; dsimp only [Bool.not_true, cond_false, cond_true]; rw [hE]; rfl
    | some d' =>
      have : Nat.blt d' (d' + 1) = true := by rw [Nat.blt_eq]; omega
      have e2 : (Nat.blt d' ((some d').getD 0 + 1) && allowed none d') = true := by dsimp only [Option.getD]; rw [this]; rfl
      dsimp only at e2 ⊢
      rw [e2]
      rcases ha with ha | ⟨ha, rfl⟩
      · rw [ha]; dsimp only [Bool.not_true, cond_false, cond_true]; rw [hE]; rfl
      · rw [ha]; dsimp only [Bool.not_true, cond_false, cond_true]; rw [hE]; rfl
  have e1 : MOf false wm E.tgt = fun x => E.tgt = some x := MOf_f wm E.tgt
  refine ⟨?_, fun hw => ?_, fun hw x hx => ?_⟩
  · rw [← e1]; exact dstep_real (none_ok X) none_keep hds
  · rw [← e1]; exact (dstep_keep none_keep hds hw).1
  · exact (dstep_keep none_keep hds hw).2.1 x (by rw [e1]; exact hx)
theorem call_step {o : Oper} {f : FuncId} {args : Array Value} {wm' : Nat} {v : Value} (hg : GuardOn ops o fr) (ha : aop X h (aev fr) o = some (.enter f args, .none)) (hl : wm' ≤ h.size) (hj : JobOK X (.call f args wm' h) (.fin (.ret v) h2)) :
    StepOK X.P wm rd ops o (fun x => wm' ≤ x ∧ (h.at x).own = true) fr h v h2 := by
  intro ρ a w F K Q r hwm hf hF hK
  rw [awanted_sound' ops o hf hg.1, hg.2, if_pos rfl]
  obtain ⟨ev2, e1, e2⟩ := ev_restrict ops o hf ha
  obtain ⟨ρ1, w1, p1, p2, p3⟩ := aop_sound r e1 e2
  have hE : Eff.apply wm h .none = some h := rfl
  obtain ⟨r1, st1⟩ := Eff.sound r hwm p1 hE p2
  obtain ⟨sm, km, hwmt⟩ := Eff.stpM r hwm p1 hE p2
  refine ⟨fun f _ => fence_fn hF f, ?_⟩
  have hsem : o.semAt F.round a.eval = execOp a.eval o := by
    cases hrd : rd with
    | none => rw [hrd] at hF; unfold FR' at hF; subst hF; rfl
    | some l =>
      refine Oper.semAt_eq _ _ _ fun c hc => ?_
      obtain ⟨d, h1⟩ := aop_defer ha hc
      simp at h1
  rw [hsem]
  have hdep : F.depth.isSome = true → 1 ≤ 0 := fun hh => by rw [fence_depth hF] at hh; cases hh
  have hF1 := hF.mono st1.ext
  generalize hrun : (execOp a.eval o).run X.P w = res at p3
  obtain ⟨args', hva, rfl⟩ := p3
  refine ⟨hdep, (fence_calls hF1 (hj ρ1 args' w1 hl r1 hva)).mono ?_⟩
  rintro e' w' ⟨ρ', he, hr, hst⟩
  cases he with
  | @ret _ v' hv =>
    have st2 : StpM (fun x => wm' ≤ x ∧ (h.at x).own = true) ρ1 h w1 ρ' w' := hst.toM.weakenOwn (fun i _ h2 h3 => ⟨h2, h3⟩) r1.lt
    have toM : StpM (fun x => wm' ≤ x ∧ (h.at x).own = true) ρ h w ρ1 w1 := sm.weaken (fun i _ hi => by cases hi) r.lt
    exact hK ρ' v' w' hv hr (toM.trans r.lt (Nat.le_refl _) (fun _ _ z => z) st2)
structure WX (X : Ctx) (n wm : Nat) (rd : Option Nat) (ops : Array Oper) (sf : ST) (m : Nat) (h : H) (l : List Oper) (fr : Fr) (Q : Fr → H → Prop) : Prop where
  out : (∀ q ∈ sf.m, ∀ x, q.2 x → x < h.size) → WE X n wm rd ops sf m h l fr Q
variable {sf : ST} {Q : Fr → H → Prop}
theorem WC.drawX (hm : X.P.follows .mixedOrders = true) {id : Nat} {R : XX → Fs → Prop} (hp : (plan ops.toList).isSome = true) (k : WX X n wm rd ops ST.nil 0 h ops.toList fr (fun fr' h' => R .normal ⟨fr', ds, h', none⟩)) : WC X n wm rd (.region id ops true) ⟨fr, ds, h, none⟩ R :=
  WC.drawE hm hp (k.out fun q hq => by simp [ST.nil] at hq)
theorem WX.nil (k : Q fr h) : WX X n wm rd ops sf m h [] fr Q := ⟨fun _ => WE.nil k⟩
def okM (ops : Array Oper) (sf : ST) (m : Nat) (o : Oper) : Bool := (sf.m.all fun q => comp (predsF ops.toList 0 []) q.1 m) || heapless o
theorem okM_spec {o : Oper} (h : okM ops sf m o = true) : heapless o = false → ∀ q ∈ sf.m, Cmp ops q.1 m := fun hh q hq => by
  unfold okM at h
  rw [hh, Bool.or_false, List.all_eq_true] at h
  exact h q hq
def okB (ops : Array Oper) (m : Nat) (is : List Nat) : Bool := allIdx (fun i o => Nat.ble m i || comp (predsF ops.toList 0 []) i m || heapless o || is.any (Nat.beq i)) ops.toList 0
theorem okB_spec {is : List Nat} (h : okB ops m is = true) {i : Nat} {o : Oper} (hi : i < m) (ho : ops.toList[i]? = some o) : Cmp ops i m ∨ heapless o = true ∨ i ∈ is := by
  have := allIdx_spec _ _ h i o ho
  rw [Nat.zero_add, Bool.or_eq_true, Bool.or_eq_true, Bool.or_eq_true] at this
  rcases this with ((q | q) | q) | q
  · have := Nat.le_of_ble_eq_true q; omega
  · exact .inl q
  · exact .inr (.inl q)
  · rw [List.any_eq_true] at q
    obtain ⟨y, q1, q2⟩ := q
    have e := Nat.eq_of_beq_eq_true q2
    subst e
    exact .inr (.inr q1)
theorem WO.w {Q : XX → Fs → Prop} {d : Nat} {op : Op} {v : Value} (hg : GuardOn ops ⟨some d, op, ty, p, af, g⟩ fr) (hd : Nat.blt d n = true) (ha : aop X h (aev fr) ⟨some d, op, ty, p, af, g⟩ = some (.val v, .none)) (k : WO X n wm rd ops l ⟨Tr.set fr d v, ds, h, none⟩ Q) :
    WO X n wm rd ops (⟨some d, op, ty, p, af, g⟩ :: l) ⟨fr, ds, h, none⟩ Q := WO.v hg hd ha rfl k
theorem WX.w {d : Nat} {op : Op} {v : Value} (hg : GuardOn ops ⟨some d, op, ty, p, af, g⟩ fr) (hd : Nat.blt d n = true) (ha : aop X h (aev fr) ⟨some d, op, ty, p, af, g⟩ = some (.val v, .none)) (k : WX X n wm rd ops sf (m + 1) h l (Tr.set fr d v) Q) (hM : okM ops sf m ⟨some d, op, ty, p, af, g⟩ = true) :
    WX X n wm rd ops sf m h (⟨some d, op, ty, p, af, g⟩ :: l) fr Q := by
  refine ⟨fun hb => WE.cons (T := fun _ => False) (xs0 := []) (v := v) [] [] none ?_ (fun _ z => by simp at z) (fun _ z => z.elim) (fun _ z => z.elim) (fun hh q hq => .inl (okM_spec hM hh q hq)) (fun x j C z => by cases z) (k.out hb)⟩
  have hs : ∀ h', aop X h' (aev fr) ⟨some d, op, ty, p, af, g⟩ = some (.val v, .none) → StepOK X.P wm rd ops ⟨some d, op, ty, p, af, g⟩ (fun _ => False) fr h' v h' := fun h' ha' => by
    have := (val_step (wm := wm) (rd := rd) hg (.inl ha') (h1 := h') rfl).1
    simpa [Eff.tgt] using this
  refine ⟨fun hw => ⟨h, rfl, hs h ha, ⟨Nat.le_refl _, fun _ _ _ => rfl, fun _ _ z => z, fun _ _ z => z⟩⟩, fun _ z => z.elim, fun d' e => (by cases e; rwa [Nat.blt_eq] at hd), fun hh => ⟨fun _ z => z, rfl, fun g => hs g ?_⟩, fun _ z => z.elim⟩
  rw [aop_heapless h g hh]; exact ha
theorem WX.off {d : Nat} {op : Op} (hg : GuardOff ops ⟨some d, op, ty, p, af, g⟩ fr) (hd : Nat.blt d n = true) (k : WX X n wm rd ops sf (m + 1) h l (Tr.set fr d undef) Q) (hM : okM ops sf m ⟨some d, op, ty, p, af, g⟩ = true) :
    WX X n wm rd ops sf m h (⟨some d, op, ty, p, af, g⟩ :: l) fr Q := by
  refine ⟨fun hb => WE.cons (T := fun _ => False) (xs0 := []) (v := undef) [] [] none ?_ (fun _ z => by simp at z) (fun _ z => z.elim) (fun _ z => z.elim) (fun hh q hq => .inl (okM_spec hM hh q hq)) (fun x j C z => by cases z) (k.out hb)⟩
  have hs : ∀ h', StepOK X.P wm rd ops ⟨some d, op, ty, p, af, g⟩ (fun _ => False) fr h' undef h' := fun h' => by
    have hds : dstep X (fun _ => true) (fun _ => none) (d + 1) wm none false ops.toList ⟨some d, op, ty, p, af, g⟩ fr h' = some (none, undef, h') := by
      unfold dstep
      dsimp only
      have : Nat.blt d (d + 1) = true := by rw [Nat.blt_eq]; omega
      rw [this, hg.1, hg.2]; rfl
    have := dstep_real (rd := rd) (none_ok X) none_keep hds
    rwa [MOf_none] at this
  exact ⟨fun hw => ⟨h, rfl, hs h, ⟨Nat.le_refl _, fun _ _ _ => rfl, fun _ _ z => z, fun _ _ z => z⟩⟩, fun _ z => z.elim, fun d' e => (by cases e; rwa [Nat.blt_eq] at hd), fun hh => ⟨fun _ z => z, rfl, fun g => hs g⟩, fun _ z => z.elim⟩
theorem WX.gv {d : Nat} {op : Op} {c : Bool} {v : Value} (hg : GuardIs ops ⟨some d, op, ty, p, af, g⟩ fr c) (hd : Nat.blt d n = true) (ha : c = true → aop X h (aev fr) ⟨some d, op, ty, p, af, g⟩ = some (.val v, .none)) (k : WX X n wm rd ops sf (m + 1) h l (Tr.set fr d (cond c v undef)) Q) (hM : okM ops sf m ⟨some d, op, ty, p, af, g⟩ = true) :
    WX X n wm rd ops sf m h (⟨some d, op, ty, p, af, g⟩ :: l) fr Q := by
  cases c
  · exact WX.off hg hd k hM
  · exact WX.w hg hd (ha rfl) k hM
open Classical in
def allBut (h : H) (R : Nat → Prop) : List Nat := (List.range h.size).filter fun x => decide (¬ R x)
theorem mem_allBut {h : H} {R : Nat → Prop} {x : Nat} : x ∈ allBut h R ↔ x < h.size ∧ ¬ R x := by unfold allBut; simp
theorem hid_at {R : Nat → Prop} {x : Nat} (hx : R x) : (mask (allBut h R) h).at x = h.at x := by rw [mask_at, if_neg (fun z => (mem_allBut.1 z).2 hx)]
theorem Up.hide (lo : Nat) (Y : List Nat) (h : H) : Up lo (fun _ => False) h (unmask Y h (mask Y h)) :=
  ⟨by rw [unmask_size, mask_size]; exact Nat.le_refl _, fun i hi _ => by
    rw [unmask_at _ _ _ (by rw [mask_size]; exact Nat.le_refl _), mask_at]
    by_cases hy : i ∈ Y
    · rw [if_pos ⟨hy, hi⟩]
    · rw [if_neg (fun q => hy q.1), if_neg hy], fun _ e => e.elim⟩
theorem WX.wr {T0 : Nat → Prop} {G : List (Ast wm)} {d : Nat} {op : Op} {v : Value} (R : Nat → Prop) (hS : Sp wm T0 h0 G h) (hg : GuardOn ops ⟨some d, op, ty, p, af, g⟩ fr) (hd : Nat.blt d n = true) (ha : ∀ g' : H, g'.size = h.size → (∀ x, R x → g'.at x = h.at x) → aop X g' (aev fr) ⟨some d, op, ty, p, af, g⟩ = some (.val v, .none))
    (k : ∀ h', h'.size = h.size → Sp wm T0 h0 G h' → WX X n wm rd ops ⟨(m, fun x => ¬ R x) :: sf.s, sf.m, sf.p⟩ (m + 1) h' l (Tr.set fr d v) Q) (hh : heapless ⟨some d, op, ty, p, af, g⟩ = false) (hM : okM ops sf m ⟨some d, op, ty, p, af, g⟩ = true) :
    WX X n wm rd ops sf m h (⟨some d, op, ty, p, af, g⟩ :: l) fr Q := by
  have hsz : (unmask (allBut h R) h (mask (allBut h R) h)).size = h.size := by rw [unmask_size, mask_size]
  refine ⟨fun hb => WE.cons (T := fun _ => False) (xs0 := allBut h R) (h2 := unmask (allBut h R) h (mask (allBut h R) h)) (v := v) [(m, fun x => ¬ R x)] [] none ?_ (fun q hq => ?_) (fun _ z => z.elim) (fun _ z => z.elim) (fun hh q hq => .inl (okM_spec hM hh q hq)) (fun x j C z => by cases z) ((k _ hsz (hS.up (Up.hide wm _ h))).out fun q hq x hx => by rw [hsz]; exact hb q hq x hx)⟩
  · have := val_step (wm := wm) (rd := rd) hg (.inl (ha _ (mask_size _ _) fun x hx => hid_at hx)) (h1 := mask (allBut h R) h) rfl
    have t0 : (fun x : Nat => Eff.tgt Eff.none = some x) = fun _ => False := by funext x; simp [Eff.tgt]
    rw [t0] at this
    exact ⟨fun hw => ⟨_, rfl, this.1, this.2.1 (by rw [mask_size]; exact hw)⟩, fun _ z => z.elim, fun d' e => (by cases e; rwa [Nat.blt_eq] at hd), fun q => Bool.noConfusion (hh.symm.trans q), fun _ z => z.elim⟩
  · rw [List.mem_singleton.1 hq]
    refine ⟨rfl, fun x hx => ?_⟩
    rcases Nat.lt_or_ge x h.size with z | z
    · exact .inl ⟨z, mem_allBut.2 ⟨z, hx⟩⟩
    · exact .inr (by rw [hsz]; exact z)
def HV (X : Ctx) (wm : Nat) (o : Oper) (fr : Fr) (h : H) (T : Nat → Prop) (K : Value → H → Prop) : Prop := ∃ v E h1, aop X h (aev fr) o = some (.val v, E) ∧ E.apply wm h = some h1 ∧ (∀ x, E.tgt = some x → T x) ∧ h.size ≤ h1.size ∧ K v h1
def HU (X : Ctx) (wm : Nat) (o : Oper) (fr : Fr) (h : H) (T : Nat → Prop) (K : H → Prop) : Prop := ∃ E h1, aop X h (aev fr) o = some (.skip, E) ∧ E.apply wm h = some h1 ∧ (∀ x, E.tgt = some x → T x) ∧ h.size ≤ h1.size ∧ K h1
theorem WO.hv {Q : XX → Fs → Prop} {d : Nat} {op : Op} {T : Nat → Prop} {K : Value → H → Prop} (hg : GuardOn ops ⟨some d, op, ty, p, af, g⟩ fr) (hd : Nat.blt d n = true) (s : HV X wm ⟨some d, op, ty, p, af, g⟩ fr h T K) (k : ∀ v h', K v h' → WO X n wm rd ops l ⟨Tr.set fr d v, ds, h', none⟩ Q) :
    WO X n wm rd ops (⟨some d, op, ty, p, af, g⟩ :: l) ⟨fr, ds, h, none⟩ Q := let ⟨v, _, h1, ha, hE, _, _, hk⟩ := s; WO.v hg hd ha hE (k v h1 hk)
theorem WO.hu {Q : XX → Fs → Prop} {op : Op} {T : Nat → Prop} {K : H → Prop} (hg : GuardOn ops ⟨none, op, ty, p, af, g⟩ fr) (s : HU X wm ⟨none, op, ty, p, af, g⟩ fr h T K) (k : ∀ h', K h' → WO X n wm rd ops l ⟨fr, ds, h', none⟩ Q) :
    WO X n wm rd ops (⟨none, op, ty, p, af, g⟩ :: l) ⟨fr, ds, h, none⟩ Q := let ⟨_, h1, ha, hE, _, _, hk⟩ := s; WO.u hg ha hE (k h1 hk)
def Blind (sf : ST) (T : Nat → Prop) (is : List Nat) : Prop := ∀ i ∈ is, ∃ V, (i, V) ∈ sf.s ∧ ∀ x, T x → V x
theorem Blind.e {T : Nat → Prop} : Blind sf T [] := fun _ z => by simp at z
inductive Mem2 (i : Nat) (V : Nat → Prop) : List (Nat × (Nat → Prop)) → Prop
  | z {r : List (Nat × (Nat → Prop))} : Mem2 i V ((i, V) :: r)
  | s {q : Nat × (Nat → Prop)} {r : List (Nat × (Nat → Prop))} : Mem2 i V r → Mem2 i V (q :: r)
theorem Mem2.mem {i : Nat} {V : Nat → Prop} {r : List (Nat × (Nat → Prop))} (h : Mem2 i V r) : (i, V) ∈ r := by
  induction h with
  | z => simp
  | s _ ih => simp [ih]
theorem Blind.c {T V : Nat → Prop} {i : Nat} {is : List Nat} (hm : Mem2 i V sf.s) (hv : ∀ x, T x → V x) (b : Blind sf T is) : Blind sf T (i :: is) := fun j hj => by
  rcases List.mem_cons.1 hj with z | z
  · subst z; exact ⟨V, hm.mem, hv⟩
  · exact b j z
theorem hv_one {d : Option Tmp} {op : Op} {v : Value} {T : Nat → Prop} {E : Eff} (hg : GuardOn ops ⟨d, op, ty, p, af, g⟩ fr) (hd : ∀ d', d = some d' → d' < n) (ha : aop X h (aev fr) ⟨d, op, ty, p, af, g⟩ = some (.val v, E) ∨ aop X h (aev fr) ⟨d, op, ty, p, af, g⟩ = some (.skip, E) ∧ v = undef) (hE : E.apply wm h = some h1) (hT : ∀ x, E.tgt = some x → T x) (hsz : h.size ≤ h1.size)
    (k : WX X n wm rd ops ⟨sf.s, (m, fun x => T x ∧ x < h.size) :: sf.m, sf.p⟩ (m + 1) h1 l (setd fr d v) Q) (hh : heapless ⟨d, op, ty, p, af, g⟩ = false) (hM : okM ops sf m ⟨d, op, ty, p, af, g⟩ = true) (is : List Nat) (hB : okB ops m is = true) (hi : Blind sf T is) :
    WX X n wm rd ops sf m h (⟨d, op, ty, p, af, g⟩ :: l) fr Q := by
  refine ⟨fun hb => ?_⟩
  by_cases hw : wm ≤ h.size
  · have hs := val_step (wm := wm) (rd := rd) hg ha hE
    refine WE.cons (T := fun x => E.tgt = some x) (xs0 := []) (h2 := h1) (v := v) [] [(m, fun x => T x ∧ x < h.size)] none ⟨fun _ => ⟨h1, rfl, hs.1, hs.2.1 hw⟩, hs.2.2 hw, hd, fun q => Bool.noConfusion (hh.symm.trans q), fun _ _ _ z => by simp at z⟩ (fun _ z => by simp at z) (fun x hx hl => ⟨_, List.mem_singleton.2 rfl, rfl, hT x hx, hl⟩)
      (fun x hx hl i o' hi' ho' => ?_) (fun hh q hq => .inl (okM_spec hM hh q hq)) (fun x j C z => by cases z) (k.out fun q hq x hx => ?_)
    · rcases okB_spec hB hi' ho' with z | z | z
      · exact .inl z
      · exact .inr (.inl z)
      · obtain ⟨V, q1, q2⟩ := hi i z
        exact .inr (.inr (.inl ⟨V, q1, q2 x (hT x hx)⟩))
    · rcases List.mem_cons.1 hq with z | z
      · subst z; exact Nat.lt_of_lt_of_le hx.2 hsz
      · exact Nat.lt_of_lt_of_le (hb q z x hx) hsz
  · refine WE.cons (T := fun _ => False) (xs0 := []) (h2 := h1) (v := v) [] [(m, fun x => T x ∧ x < h.size)] none ⟨fun z => absurd z hw, fun _ z => z.elim, hd, fun q => Bool.noConfusion (hh.symm.trans q), fun _ z => z.elim⟩ (fun _ z => by simp at z) (fun x hx hl => hx.elim)
      (fun x hx => hx.elim) (fun hh q hq => .inl (okM_spec hM hh q hq)) (fun x j C z => by cases z) (k.out fun q hq x hx => ?_)
    rcases List.mem_cons.1 hq with z | z
    · subst z; exact Nat.lt_of_lt_of_le hx.2 hsz
    · exact Nat.lt_of_lt_of_le (hb q z x hx) hsz
theorem WX.hu {op : Op} {T : Nat → Prop} {K : H → Prop} (hg : GuardOn ops ⟨none, op, ty, p, af, g⟩ fr) (s : HU X wm ⟨none, op, ty, p, af, g⟩ fr h T K)
    (k : ∀ h', K h' → WX X n wm rd ops ⟨sf.s, (m, fun x => T x ∧ x < h.size) :: sf.m, sf.p⟩ (m + 1) h' l fr Q) (hh : heapless ⟨none, op, ty, p, af, g⟩ = false) (hM : okM ops sf m ⟨none, op, ty, p, af, g⟩ = true) (is : List Nat) (hB : okB ops m is = true) (hi : Blind sf T is) :
    WX X n wm rd ops sf m h (⟨none, op, ty, p, af, g⟩ :: l) fr Q :=
  let ⟨_, h1, ha, hE, hT, hz, hk⟩ := s; hv_one (v := undef) hg (fun d' e => by cases e) (.inr ⟨ha, rfl⟩) hE hT hz (k h1 hk) hh hM is hB hi
theorem eff_new (h : H) {A : AObj} (hA : A.own = true) : Eff.apply wm h (.new A) = some (h.push A) := by show (bif A.own then some (h.push A) else none) = _; rw [hA]; rfl
def HN (X : Ctx) (wm : Nat) (o : Oper) (fr : Fr) (h : H) (K : Value → H → Prop) : Prop := ∃ v A, A.own = true ∧ (∀ g : H, g.size = h.size → aop X g (aev fr) o = some (.val v, .new A)) ∧ ∀ h', Up wm (fun _ => False) h h' → h'.at h.size = A → h'.size = h.size + 1 → K v h'
theorem WO.hn {Q : XX → Fs → Prop} {d : Nat} {op : Op} {K : Value → H → Prop} (hg : GuardOn ops ⟨some d, op, ty, p, af, g⟩ fr) (hd : Nat.blt d n = true) (s : HN X wm ⟨some d, op, ty, p, af, g⟩ fr h K) (k : ∀ v h', K v h' → WO X n wm rd ops l ⟨Tr.set fr d v, ds, h', none⟩ Q) :
    WO X n wm rd ops (⟨some d, op, ty, p, af, g⟩ :: l) ⟨fr, ds, h, none⟩ Q := let ⟨v, A, hA, ha, hk⟩ := s; WO.v hg hd (ha h rfl) (eff_new h hA) (k v _ (hk _ (Up.push wm h A) (at_push_new h A) (by simp)))
theorem WX.hn {d : Nat} {op : Op} {K : Value → H → Prop} (hg : GuardOn ops ⟨some d, op, ty, p, af, g⟩ fr) (hd : Nat.blt d n = true) (s : HN X wm ⟨some d, op, ty, p, af, g⟩ fr h K) (k : ∀ v h', K v h' → WX X n wm rd ops ⟨(m, fun x => x ≠ h.size) :: sf.s, sf.m, sf.p⟩ (m + 1) h' l (Tr.set fr d v) Q) (hh : heapless ⟨some d, op, ty, p, af, g⟩ = false) :
    WX X n wm rd ops sf m h (⟨some d, op, ty, p, af, g⟩ :: l) fr Q := by
  obtain ⟨v, A, hA, ha, hk⟩ := s
  have hmm : ∀ x, x ∈ allBut h (fun _ => False) ↔ x < h.size := fun x => by rw [mem_allBut]; simp
  have hsz : (unmask (allBut h fun _ => False) h ((mask (allBut h fun _ => False) h).push A)).size = h.size + 1 := by rw [unmask_size, H.size_push, mask_size]
  have hle : h.size ≤ ((mask (allBut h fun _ => False) h).push A).size := by rw [H.size_push, mask_size]; omega
  have hu : Up wm (fun _ => False) h (unmask (allBut h fun _ => False) h ((mask (allBut h fun _ => False) h).push A)) :=
    ⟨by rw [hsz]; omega, fun i hi _ => by rw [unmask_at _ _ _ hle, if_pos ⟨(hmm i).2 hi, hi⟩], fun _ e => e.elim⟩
  have hat : (unmask (allBut h fun _ => False) h ((mask (allBut h fun _ => False) h).push A)).at h.size = A := by
    rw [unmask_at _ _ _ hle, if_neg (fun q => Nat.lt_irrefl _ q.2)]
    have := at_push_new (mask (allBut h fun _ => False) h) A
    rwa [mask_size] at this
  refine ⟨fun hb => WE.cons (T := fun _ => False) (xs0 := allBut h fun _ => False) (v := v) [(m, fun x => x ≠ h.size)] [] none ?_ (fun q hq => ?_) (fun _ z => z.elim) (fun _ z => z.elim) (fun _ q hq => .inr fun x hx => ?_) (fun x j C z => by cases z)
    ((k v _ (hk _ hu hat hsz)).out fun q hq x hx => by rw [hsz]; exact Nat.lt_succ_of_lt (hb q hq x hx))⟩
  · have := val_step (wm := wm) (rd := rd) hg (.inl (ha _ (mask_size _ _))) (h1 := (mask (allBut h fun _ => False) h).push A) (eff_new _ hA)
    have t0 : (fun x : Nat => Eff.tgt (Eff.new A) = some x) = fun _ => False := by funext x; simp [Eff.tgt]
    rw [t0] at this
    exact ⟨fun hw => ⟨_, rfl, this.1, this.2.1 (by rw [mask_size]; exact hw)⟩, fun _ z => z.elim, fun d' e => (by cases e; rwa [Nat.blt_eq] at hd), fun q => Bool.noConfusion (hh.symm.trans q), fun _ z => z.elim⟩
  · rw [List.mem_singleton.1 hq]
    refine ⟨rfl, fun x hx => ?_⟩
    rcases Nat.lt_or_ge x h.size with z | z
    · exact .inl ⟨z, (hmm x).2 z⟩
    · right; rw [hsz]
      have : x ≠ h.size := hx
      omega
  · exact .inl ⟨hb q hq x hx, (hmm x).2 (hb q hq x hx)⟩
end Go.Abs
end
end
section
noncomputable section
namespace Go.Abs
open Go.Lf
variable {X : Ctx} {n wm : Nat} {rd : Option Nat} {ops : Array Oper} {l : List Oper} {fr : Fr} {ds : List Deferred} {h h1 h2 h0 : H} {ty : TypeId} {p : String} {af : Array Edge} {g : Option (Nat × Bool)} {m : Nat} {T : Nat → Prop} {G Gr Ga Gb : List (Ast wm)} {d : Nat} {sf : ST}
theorem s_box {x : Operand} {t : TypeId} {v : Value} {vs : List Value} (hS : Sp wm T h0 G h) (hx : aev fr x = some v) (hv : v.cells.toList = vs) :
    HN X wm ⟨some d, .box t x, ty, p, af, g⟩ fr h (fun v h' => ∃ b, h.size = b ∧ v = .pointer (some ⟨b, 0, none⟩) ∧ Sp wm T h0 (bx wm b vs :: G) h') := by
  subst hv
  refine ⟨.pointer (some ⟨h.size, 0, none⟩), .row v.cells.toList true 0, rfl, fun g' hz => ?_, fun h' u hat _ => ⟨h.size, rfl, rfl, hS.new u ⟨hat, hS.hw⟩ fun i e => Nat.le_of_eq e.symm⟩⟩
  rw [aop_box, hx]; dsimp only; rw [← hz]; rfl
theorem s_alc {t : TypeId} {v : Value} {vs : List Value} (hS : Sp wm T h0 G h) (hz : zeroP X.P t = some v) (hv : v.cells.toList = vs) :
    HN X wm ⟨some d, .alloc t, ty, p, af, g⟩ fr h (fun v h' => ∃ b, h.size = b ∧ v = .pointer (some ⟨b, 0, none⟩) ∧ Sp wm T h0 (bx wm b vs :: G) h') := by
  subst hv
  refine ⟨.pointer (some ⟨h.size, 0, none⟩), .row v.cells.toList true 0, rfl, fun g' hz' => ?_, fun h' u hat _ => ⟨h.size, rfl, rfl, hS.new u ⟨hat, hS.hw⟩ fun i e => Nat.le_of_eq e.symm⟩⟩
  rw [aop_alloc, hz]; dsimp only; rw [← hz']; rfl
theorem s_st {x y : Operand} {t : TypeId} {b o sz : Nat} {cs cs' vs : List Value} {v : Value} (hS : Sp wm T h0 G h) (pk : Pk G (bx wm b cs) Gr) (hs : sizeP X.P t = some sz) (hx : aev fr x = some (.pointer (some ⟨b, o, none⟩))) (hy : aev fr y = some v)
    (hvs : v.cells.toList = vs) (hn : Nat.beq vs.length sz = true) (hl : Nat.ble (o + sz) cs.length = true) (hc : vs.all Value.oneCell' = true) (hv : splice cs o vs = cs') :
    HU X wm ⟨none, .store t x y, ty, p, af, g⟩ fr h (fun i => i = b) (fun h' => Sp wm T h0 (bx wm b cs' :: Gr) h') := by
  obtain ⟨hr, hw⟩ := hS.get pk
  obtain ⟨e1, e2⟩ := st_ex (d := none) (ty := ty) (p := p) (af := af) (g := g) hs hx hy hr hw hvs (Nat.eq_of_beq_eq_true hn) (Nat.le_of_ble_eq_true hl) hc hv
  refine ⟨_, _, e1, e2, fun x hx => ?_, by simp, ?_⟩
  · simpa [Eff.tgt, eq_comm] using hx
  · exact hS.one pk (Up.put hw (by rw [hr]; rfl)) (fun i e => e) ⟨at_put_same (live_lt hr rfl) _, hw⟩ fun i e => .inl e
theorem av_lenO {x : Operand} {t e' : TypeId} {a : Option Addr} {mm cc : Nat} {k : Int} (hu : X.P.underlying t = some (.slice e')) (hx : aev fr x = some (.slice a mm cc)) (hk : (mm : Int) = k) :
    aop X h (aev fr) ⟨some d, .call { callee := .builtin .len, args := #[x], argTypes := #[t] }, ty, p, af, g⟩ = some (.val (.int .i64 k), .none) := by subst hk; exact av_len hu hx
section
variable {α : Type} {e : Rdr α}
theorem s_bs {t el : TypeId} {mm : Nat} {ps : Array (Nat × Operand)} {pvs : List (Nat × Value)} {z : Value} {zs : List Value} {xs : List α} (hS : Sp wm T h0 G h)
    (hu : X.P.underlying t = some (.slice el)) (hs : sizeP X.P el = some e.sz) (hz : zeroP X.P el = some z) (hzs : z.cells.toList = zs) (hzl : zs.length = e.sz) (hm : Nat.ble (mm * e.sz) 10000 = true) (hp : evp (aev fr) ps.toList = some pvs)
    (ho : fillOK (fun i => some (i * e.sz, e.sz)) (zrep zs mm).length pvs = true) (qs : List (e.Par × α)) (hv : fillR (fun i => i * e.sz) (zrep zs mm) pvs = qs.flatMap fun q => e.sh q.1 q.2) (hq : qs.map (·.2) = xs) (hF : ∀ q ∈ qs, e.F wm h q.1 q.2) (hlen : Nat.beq mm xs.length = true) :
    HN X wm ⟨some d, .buildSlice t mm ps, ty, p, af, g⟩ fr h (fun v h' => ∃ b, h.size = b ∧ v = .slice (some ⟨b, 0, none⟩) mm (2 * mm) ∧ Sp wm T h0 (ow wm e (some ⟨b, 0, none⟩) mm (2 * mm) xs :: G) h') := by
  have hlen := Nat.eq_of_beq_eq_true hlen
  subst hlen
  have hm' := Nat.le_of_ble_eq_true hm
  refine ⟨.slice (some ⟨h.size, 0, none⟩) xs.length (2 * xs.length), .row (qs.flatMap fun q => e.sh q.1 q.2) true e.sz, rfl, fun g' hz' => ?_, fun h' u hat _ => ⟨h.size, rfl, rfl, hS.new u ⟨rfl, ?_⟩ fun i ⟨o, e⟩ => by cases e; exact Nat.le_refl _⟩⟩
  · show (match evp (aev fr) ps.toList with
      | some ps => vE (aslit X.P g' t xs.length ps)
      | none => none) = _
    rw [hp]
    dsimp only
    unfold aslit
    rw [hu]; dsimp only
    rw [hs, hz]; dsimp only
    rw [hzs, hzl]
    have b1 : Nat.ble 1 e.sz = true := Nat.ble_eq_true_of_le e.pos
    rw [b1, hm, Nat.beq_refl]
    simp only [Bool.and_self, cond_true]
    rw [afill_eq (off := fun i => i * e.sz) (fun i p e => by cases e; rfl) _ _ ho, hv, hz']
    rfl
  · have hel := ElAt.of_list (h := h) (wm := wm) qs hF
    rw [hq] at hel
    have hl2 := hel.len
    have hmax : xs.length ≤ 9223372036854775807 := by
      have : xs.length * 1 ≤ xs.length * e.sz := Nat.mul_le_mul_left _ e.pos
      omega
    refine OwnS.mk' hmax hS.hw hat (by omega) ?_ (hel.mono (u.fz (Nat.le_refl _)))
    have : 2 * xs.length / 2 = xs.length := by omega
    rw [this]; omega
theorem aap_tgt {P : Program} {ts : Array TypeId} {a : Option Addr} {nn c : Nat} {y v : Value} {E : Eff} {x0 : Nat} (ha : aappend P h ts (.slice a nn c) y = some (v, E)) (ht : E.tgt = some x0) : BaseA a x0 := by
  unfold aappend at ha
  cases hi : appInfo P ts with
  | none => rw [hi] at ha; cases ha
  | some q =>
    obtain ⟨q1, sz, by_, q4⟩ := q
    rw [hi] at ha; dsimp only at ha
    cases hr : reads h y sz with
    | none => rw [hr] at ha; cases ha
    | some new =>
      rw [hr] at ha; dsimp only at ha
      cases hb : Nat.ble (nn + lenS y) (c / 2) with
      | true =>
        rw [hb, cond_true] at ha
        cases hz : Nat.beq (lenS y) 0 with
        | true => rw [hz, cond_true] at ha; cases ha; cases ht
        | false =>
          rw [hz, cond_false] at ha
          split at ha
          · split at ha
            · rw [Bool.cond_eq_ite] at ha
              split at ha
              · cases ha; cases ht; exact ⟨_, rfl⟩
              · cases ha
            · cases ha
          · cases ha
      | false =>
        rw [hb, cond_false] at ha
        cases hq : (Nat.ble ((2 * (nn + lenS y) + 1000) * by_) (2 ^ 47) && new.all Value.oneCell') with
        | false => rw [hq, cond_false] at ha; cases ha
        | true =>
          rw [hq, cond_true] at ha
          split at ha
          · cases hz : Nat.beq (c % 2) 0 with
            | true => rw [hz, cond_true] at ha; cases ha; cases ht
            | false =>
              rw [hz, cond_false] at ha
              split at ha
              · split at ha
                · rw [Bool.cond_eq_ite] at ha
                  split at ha
                  · cases ha; cases ht; exact ⟨_, rfl⟩
                  · cases ha
                · cases ha
              · cases ha
          · cases ha
theorem ap_tgt {ts : Array TypeId} {x y : Operand} {a : Option Addr} {nn c : Nat} {v w : Value} {E : Eff} {x0 : Nat} (hx : aev fr x = some (.slice a nn c)) (hy : aev fr y = some w) (ha : aop X h (aev fr) ⟨some d, .call { callee := .builtin .append, args := #[x, y], argTypes := ts }, ty, p, af, g⟩ = some (.val v, E)) (ht : E.tgt = some x0) : BaseA a x0 := by
  have hev : evs (aev fr) [x, y] = some [.slice a nn c, w] := evs_cons hx (evs_cons hy evs_nil)
  rw [aop_builtin] at ha
  have hev2 : evs (aev fr) (#[x, y] : Array Operand).toList = some [.slice a nn c, w] := hev
  rw [hev2] at ha
  replace ha : vE (aappend X.P h ts (.slice a nn c) w) = some (.val v, E) := ha
  cases hh : aappend X.P h ts (.slice a nn c) w with
  | none => rw [hh] at ha; cases ha
  | some q => rw [hh] at ha; obtain ⟨v', E'⟩ := q; cases ha; exact aap_tgt hh ht
theorem s_ap {ts : Array TypeId} {x y : Operand} {by_ : Nat} {a a2 : Option Addr} {nn n2 c c2 : Nat} {xs ys zs : List α} (hS : Sp wm T h0 G h) (pk : Pk G (ow wm e a nn c xs) Gr) (hi : AppAt X.P ts e.sz by_) (hx : aev fr x = some (.slice a nn c)) (hy : aev fr y = some (.slice a2 n2 c2)) (sr : Src e wm h a2 c2 ys) (hn : n2 = ys.length) (ha : app by_ xs ys = some zs) :
    HV X wm ⟨some d, .call { callee := .builtin .append, args := #[x, y], argTypes := ts }, ty, p, af, g⟩ fr h (BaseA a) (fun v h' => ∃ (a' : Option Addr) (c' : Nat), v = .slice a' zs.length c' ∧ Sp wm T h0 (ow wm e a' zs.length c' zs :: Gr) h') := by
  obtain ⟨h1, so⟩ := hS.get pk
  subst h1 hn
  refine ap_gen (K := HV X wm ⟨some d, .call { callee := .builtin .append, args := #[x, y], argTypes := ts }, ty, p, af, g⟩ fr h (BaseA a) (fun v h' => ∃ (a' : Option Addr) (c' : Nat), v = .slice a' zs.length c' ∧ Sp wm T h0 (ow wm e a' zs.length c' zs :: Gr) h'))
    (J := fun v h' => Up wm (BaseA a) h h' ∧ ∃ (a' : Option Addr) (c' : Nat), v = .slice a' zs.length c' ∧ Sp wm T h0 (ow wm e a' zs.length c' zs :: Gr) h') wm (fun v E h1 e1 e2 ⟨u, j⟩ => ⟨v, E, h1, e1, e2, fun x0 hx0 => ?_, u.size, j⟩) hi (Nat.le_refl _) hS.hw hx hy so sr ha
    (fun a' c' h' u so' hb => ⟨u, a', c', rfl, hS.one pk u (fun i q => q) ⟨rfl, so'⟩ fun i q => (hb i q).imp id fun z => Nat.le_of_eq z.symm⟩)
  exact ap_tgt hx hy e1 hx0
end
end Go.Abs
end
end
section
noncomputable section
namespace Go.Abs
open Go.Lf
variable {X : Ctx} {n wm : Nat} {rd : Option Nat} {ops : Array Oper} {l : List Oper} {fr : Fr} {ds : List Deferred} {h h1 h2 h0 : H} {ty : TypeId} {p : String} {af : Array Edge} {g : Option (Nat × Bool)} {m : Nat} {T : Nat → Prop} {G Gr Ga Gb : List (Ast wm)} {d : Nat} {sf : ST}
section
variable {P : Program} {t : TypeId} {i x0 : Nat} {k x : Value} {E : Eff}
end
section
variable {κ ν : Type} [DecidableEq κ] {kt vt : TypeId} {kv : κ → Value} {vv : ν → Value} {i : Nat} {ll : List (κ × ν)}
end
end Go.Abs
end
end
section
noncomputable section
namespace Go.Abs
open Go.Lf
variable {X : Ctx} {n wm : Nat} {rd : Option Nat} {ops : Array Oper} {l : List Oper} {fr : Fr} {ds : List Deferred} {h h1 h2 h0 : H} {ty : TypeId} {p : String} {af : Array Edge} {g : Option (Nat × Bool)} {m : Nat} {T : Nat → Prop} {G Gr Ga Gb : List (Ast wm)} {d : Nat} {sf : ST}
def CP {wm : Nat} (K : Value → List (Ast wm) → Prop) (Ga : List (Ast wm)) (h : H) : Value → H → Prop := fun v h' => ∃ Gb, K v Gb ∧ Sp wm (Fps Ga) h Gb h'
def Ent (X : Ctx) (fr : Fr) (o : Oper) (f : FuncId) (args : Array Value) : Prop := ∀ h : H, aop X h (aev fr) o = some (.enter f args, .none)
theorem Ent.fn {f : FuncId} {xs : Array Operand} {ts : Array TypeId} {vs : List Value} {d : Option Tmp} (hf : (X.fns.get f).isSome = true) (hx : evs (aev fr) xs.toList = some vs) : Ent X fr ⟨d, .call { callee := .value (.func f), args := xs, argTypes := ts }, ty, p, af, g⟩ f vs.toArray := fun h => by
  obtain ⟨fn, hf⟩ := Option.isSome_iff_exists.1 hf
  rw [aop_value, hx]
  dsimp only
  rw [aev_func]
  dsimp only
  exact acall_fn hf
theorem Ent.clo {f : FuncId} {fo : Operand} {xs : Array Operand} {ts : Array TypeId} {vs first cap args : List Value} {d : Option Tmp} (hc : aev fr fo = some (.func (.func f) first.toArray cap.toArray)) (hf : (X.fns.get f).isSome = true) (hx : evs (aev fr) xs.toList = some vs) (ha : first ++ vs ++ cap = args) :
    Ent X fr ⟨d, .call { callee := .value fo, args := xs, argTypes := ts }, ty, p, af, g⟩ f args.toArray := fun h => by
  obtain ⟨fn, hf⟩ := Option.isSome_iff_exists.1 hf
  subst ha
  rw [aop_value, hx]
  dsimp only
  rw [hc]
  dsimp only
  unfold acall
  dsimp only
  rw [hf]
theorem WO.en {Q : XX → Fs → Prop} {op : Op} {f : FuncId} {args : Array Value} {v : Value} {h2 : H} (hg : GuardOn ops ⟨some d, op, ty, p, af, g⟩ fr) (hd : Nat.blt d n = true) (he : Ent X fr ⟨some d, op, ty, p, af, g⟩ f args)
    (hc : JobOK X (.call f args wm h) (.fin (.ret v) h2)) (k : WO X n wm rd ops l ⟨Tr.set fr d v, ds, h2, none⟩ Q) : WO X n wm rd ops (⟨some d, op, ty, p, af, g⟩ :: l) ⟨fr, ds, h, none⟩ Q :=
  WO.call hg hd (he h) rfl hc k
theorem WO.cl {Q : XX → Fs → Prop} {op : Op} {f : FuncId} {args : Array Value} {K : Value → List (Ast wm) → Prop} (hg : GuardOn ops ⟨some d, op, ty, p, af, g⟩ fr) (hd : Nat.blt d n = true) (he : Ent X fr ⟨some d, op, ty, p, af, g⟩ f args) (hS : Sp wm T h0 G h) (pk : Sel G Ga Gr)
    (hc : ∀ g' : H, g'.size = h.size → Fz wm h g' → Hold Ga g' → WR X f args wm g' (CP K Ga g')) (k : ∀ v h' Gb, K v Gb → Sp wm T h0 (Gb ++ Gr) h' → WO X n wm rd ops l ⟨Tr.set fr d v, ds, h', none⟩ Q) :
    WO X n wm rd ops (⟨some d, op, ty, p, af, g⟩ :: l) ⟨fr, ds, h, none⟩ Q := by
  obtain ⟨e, h', ⟨v, rfl, Gb, hk, hs⟩, hj⟩ := hc h rfl (Fz.refl _ _) (hS.hold_of pk)
  exact WO.en hg hd he hj (k v h' Gb hk (hS.call pk hs))
theorem StepOK.mono {P : Program} {o : Oper} {M M' : Nat → Prop} {v : Value} (hM : ∀ i, i < h.size → M i → M' i) (s : StepOK P wm rd ops o M fr h v h2) : StepOK P wm rd ops o M' fr h v h2 := fun ρ a w F K Q r hwm hf hF hK =>
  s ρ a w F K Q r hwm hf hF fun ρ' v' w' hv r' st => hK ρ' v' w' hv r' (st.weaken hM r.lt)
open Classical in
theorem WX.call0 {Q : Fr → H → Prop} {op : Op} {f : FuncId} {args : Array Value} {v : Value} (hg : GuardOn ops ⟨some d, op, ty, p, af, g⟩ fr) (hd : Nat.blt d n = true) (he : Ent X fr ⟨some d, op, ty, p, af, g⟩ f args) (gr : Grow h h2) (hj : JobOK X (.call f args h.size h) (.fin (.ret v) h2))
    (k : WX X n wm rd ops sf (m + 1) h2 l (Tr.set fr d v) Q) (hh : heapless ⟨some d, op, ty, p, af, g⟩ = false) (hM : okM ops sf m ⟨some d, op, ty, p, af, g⟩ = true) : WX X n wm rd ops sf m h (⟨some d, op, ty, p, af, g⟩ :: l) fr Q := by
  refine ⟨fun hb => WE.cons (T := fun _ => False) (xs0 := []) (v := v) (h2 := h2) [] [] none ?_ (fun _ z => by simp at z) (fun _ z => z.elim) (fun _ z => z.elim) (fun hh q hq => .inl (okM_spec hM hh q hq)) (fun x j C z => by cases z) (k.out fun q hq x hx => Nat.lt_of_lt_of_le (hb q hq x hx) gr.size)⟩
  refine ⟨fun _ => ⟨h2, rfl, (call_step hg (he h) (Nat.le_refl _) hj).mono fun i hi hm => absurd hm.1 (Nat.not_le_of_lt hi), gr.size, fun i hi _ => gr.keep i hi, fun i hi q => by rwa [gr.keep i hi] at q, fun i hi q => by rwa [gr.keep i hi] at q⟩, fun _ z => z.elim, fun d' e => by cases e; rwa [Nat.blt_eq] at hd, fun q => Bool.noConfusion (hh.symm.trans q), fun _ z => z.elim⟩
theorem WO.cp {Q : XX → Fs → Prop} {op : Op} {f : FuncId} {args : Array Value} {v : Value} (hg : GuardOn ops ⟨some d, op, ty, p, af, g⟩ fr) (hd : Nat.blt d n = true) (he : Ent X fr ⟨some d, op, ty, p, af, g⟩ f args) (hj : Pure X f args h v) (k : WO X n wm rd ops l ⟨Tr.set fr d v, ds, h, none⟩ Q) :
    WO X n wm rd ops (⟨some d, op, ty, p, af, g⟩ :: l) ⟨fr, ds, h, none⟩ Q := WO.en hg hd he (hj wm) k
theorem WX.cp {Q : Fr → H → Prop} {op : Op} {f : FuncId} {args : Array Value} {v : Value} (hg : GuardOn ops ⟨some d, op, ty, p, af, g⟩ fr) (hd : Nat.blt d n = true) (he : Ent X fr ⟨some d, op, ty, p, af, g⟩ f args) (hj : Pure X f args h v)
    (k : WX X n wm rd ops sf (m + 1) h l (Tr.set fr d v) Q) (hh : heapless ⟨some d, op, ty, p, af, g⟩ = false) (hM : okM ops sf m ⟨some d, op, ty, p, af, g⟩ = true) : WX X n wm rd ops sf m h (⟨some d, op, ty, p, af, g⟩ :: l) fr Q := WX.call0 hg hd he (Grow.refl h) (hj _) k hh hM
theorem WO.gcp {Q : XX → Fs → Prop} {op : Op} {f : FuncId} {args : Array Value} {v : Value} {c : Bool} (hg : GuardIs ops ⟨some d, op, ty, p, af, g⟩ fr c) (hd : Nat.blt d n = true) (he : c = true → Ent X fr ⟨some d, op, ty, p, af, g⟩ f args) (hj : c = true → Pure X f args h v) (k : WO X n wm rd ops l ⟨Tr.set fr d (cond c v undef), ds, h, none⟩ Q) :
    WO X n wm rd ops (⟨some d, op, ty, p, af, g⟩ :: l) ⟨fr, ds, h, none⟩ Q := by
  cases c
  · exact WO.offO hg rfl hd k
  · exact WO.cp hg hd (he rfl) (hj rfl) k
theorem WX.gcp {Q : Fr → H → Prop} {op : Op} {f : FuncId} {args : Array Value} {v : Value} {c : Bool} (hg : GuardIs ops ⟨some d, op, ty, p, af, g⟩ fr c) (hd : Nat.blt d n = true) (he : c = true → Ent X fr ⟨some d, op, ty, p, af, g⟩ f args) (hj : c = true → Pure X f args h v)
    (k : WX X n wm rd ops sf (m + 1) h l (Tr.set fr d (cond c v undef)) Q) (hh : heapless ⟨some d, op, ty, p, af, g⟩ = false) (hM : okM ops sf m ⟨some d, op, ty, p, af, g⟩ = true) : WX X n wm rd ops sf m h (⟨some d, op, ty, p, af, g⟩ :: l) fr Q := by
  cases c
  · exact WX.off hg hd k hM
  · exact WX.cp hg hd (he rfl) (hj rfl) k hh hM
theorem WO.inl {Q : XX → Fs → Prop} {op : Op} {f : FuncId} {args : Array Value} (hg : GuardOn ops ⟨some d, op, ty, p, af, g⟩ fr) (hd : Nat.blt d n = true) (he : Ent X fr ⟨some d, op, ty, p, af, g⟩ f args)
    (k : WR X f args wm h (fun v h' => WO X n wm rd ops l ⟨Tr.set fr d v, ds, h', none⟩ Q)) : WO X n wm rd ops (⟨some d, op, ty, p, af, g⟩ :: l) ⟨fr, ds, h, none⟩ Q := by
  obtain ⟨e, h', ⟨v, rfl, hk⟩, hj⟩ := k
  exact WO.en hg hd he hj hk
theorem WO.inlJ {Q : XX → Fs → Prop} {α β : Type} {r : β} (I : α → Value → H → Prop) (j : α → Option β) {op : Op} {f : FuncId} {args : Array Value} (hg : GuardOn ops ⟨some d, op, ty, p, af, g⟩ fr) (hd : Nat.blt d n = true) (he : Ent X fr ⟨some d, op, ty, p, af, g⟩ f args)
    (k : ∀ x v h', j x = some r → I x v h' → WO X n wm rd ops l ⟨Tr.set fr d v, ds, h', none⟩ Q) (hc : WR X f args wm h (fun v h' => ∃ x, j x = some r ∧ I x v h')) : WO X n wm rd ops (⟨some d, op, ty, p, af, g⟩ :: l) ⟨fr, ds, h, none⟩ Q := by
  obtain ⟨e, h', ⟨v, rfl, x, h1, h2⟩, hj⟩ := hc
  exact WO.en hg hd he hj (k x v h' h1 h2)
theorem Sp.fsl {α : Type} {e : Rdr α} {a : Option Addr} {c : Nat} {xs : List α} (s : Sp wm T h0 G h) (pk : Pk G (fzA wm (rSl e) (a, c) xs) Gr) : Sl e wm h a c xs := s.get pk
end Go.Abs
end
end
section
noncomputable section
namespace Go.Abs
open Go.Lf
theorem k0 {α : Type} {A : α} {G : List α} : Pk (A :: G) A G := .z
theorem k1 {α : Type} {A b : α} {G : List α} : Pk (b :: A :: G) A (b :: G) := .s k0
theorem k2 {α : Type} {A b c : α} {G : List α} : Pk (b :: c :: A :: G) A (b :: c :: G) := .s k1
theorem k3 {α : Type} {A b c d : α} {G : List α} : Pk (b :: c :: d :: A :: G) A (b :: c :: d :: G) := .s k2
theorem k4 {α : Type} {A b c d e : α} {G : List α} : Pk (b :: c :: d :: e :: A :: G) A (b :: c :: d :: e :: G) := .s k3
theorem k5 {α : Type} {A b c d e f : α} {G : List α} : Pk (b :: c :: d :: e :: f :: A :: G) A (b :: c :: d :: e :: f :: G) := .s k4
theorem k6 {α : Type} {A b c d e f g : α} {G : List α} : Pk (b :: c :: d :: e :: f :: g :: A :: G) A (b :: c :: d :: e :: f :: g :: G) := .s k5
theorem k7 {α : Type} {A b c d e f g h : α} {G : List α} : Pk (b :: c :: d :: e :: f :: g :: h :: A :: G) A (b :: c :: d :: e :: f :: g :: h :: G) := .s k6
theorem k8 {α : Type} {A b c d e f g h i : α} {G : List α} : Pk (b :: c :: d :: e :: f :: g :: h :: i :: A :: G) A (b :: c :: d :: e :: f :: g :: h :: i :: G) := .s k7
theorem k9 {α : Type} {A b c d e f g h i j : α} {G : List α} : Pk (b :: c :: d :: e :: f :: g :: h :: i :: j :: A :: G) A (b :: c :: d :: e :: f :: g :: h :: i :: j :: G) := .s k8
theorem At.eqv {h h' : H} {b o : Nat} {vs : List Value} (e : h'.at b = h.at b) (a : At h b o vs) : At h' b o vs := by
  obtain ⟨cs, own, z, h1, h2⟩ := a; exact ⟨cs, own, z, by rw [e, h1], h2⟩
section
variable {wm : Nat} {G Ga Gr : List (Ast wm)} {h h0 : H} {T : Nat → Prop} {A B : Ast wm}
theorem Sp.nil {α : Type} (s : Sp wm T h0 G h) {e : Rdr α} : Sp wm T h0 (ow wm e none 0 0 ([] : List α) :: G) h := s.add ⟨rfl, OwnS.nil⟩ fun i => BaseA.none
theorem Sp.dj (s : Sp wm T h0 G h) (p : Sel G [A, B] Gr) : ∀ x, A.fp x → ¬ B.fp x := fun x a b => by
  have := (s.hold_of p).dis
  exact (List.pairwise_cons.1 this).1 B (by simp) x a b
theorem Sp.fslu {α : Type} {e : Rdr α} {a : Option Addr} {c : Nat} {xs : List α} (s : Sp wm T h0 G h) (p : Pk G (fzA wm (rSl e) (a, c) xs) Gr) : Sl e h.size h a c xs := (s.fsl p).up s.hw
end
section
variable {X : Ctx} {h : H} {ev : Operand → Option Value} {d : Nat} {ty : TypeId} {p : String} {af : Array Edge} {g : Option (Nat × Bool)}
theorem av_ixn {α : Type} {xs : List α} {v : α} {x y : Operand} {t e : TypeId} {sz b o nn c : Nat} {a : Option Addr} {k : Int} (hu : X.P.underlying t = some (.slice e)) (hs : sizeP X.P e = some sz) (hx : ev x = some (.slice a nn c)) (hy : ev y = some (.int .i64 k)) (hn : nn = xs.length) (ha : a = some ⟨b, o, none⟩) (hk : geti xs k = some v) :
    aop X h ev ⟨some d, .indexAddr t x y, ty, p, af, g⟩ = some (.val (.pointer (some ⟨b, o + k.toNat * sz, none⟩)), .none) := by subst hn; exact av_ix hu hs hx hy ha hk
end
theorem WR.pureC {X : Ctx} {f : FuncId} {args : Array Value} {h : H} {v : Value} (hp : plain v = true) (k : WR X f args h.size h (CP (wm := h.size) (fun v' Gb => v' = v ∧ Gb = []) [] h)) : Pure X f args h v :=
  WF.pureR hp (k.mono fun _ _ ⟨v', h1, _, h2, _⟩ => ⟨v', h1, h2.1⟩)
end Go.Abs
end
end
section
noncomputable section
namespace Go.Abs
open Go.Lf
variable {X : Ctx} {n wm : Nat} {rd : Option Nat} {ops : Array Oper} {fr : Fr} {h h1 h2 h0 : H} {ty : TypeId} {p : String} {af : Array Edge} {g : Option (Nat × Bool)} {T : Nat → Prop} {G Gr Ga Gb : List (Ast wm)} {d : Nat}
theorem splice_get (cs vs : List Value) (o t : Nat) (hl : o + vs.length ≤ cs.length) : (splice cs o vs)[t]? = if o ≤ t ∧ t < o + vs.length then vs[t - o]? else cs[t]? := by
  have hlt : (cs.take o).length = o := by rw [List.length_take]; omega
  unfold splice
  rw [List.append_assoc]
  by_cases h1 : t < o
  · rw [List.getElem?_append_left (by omega), List.getElem?_take_of_lt h1, if_neg (by omega)]
  · rw [List.getElem?_append_right (by omega), hlt]
    by_cases h2 : t < o + vs.length
    · rw [List.getElem?_append_left (by omega), if_pos ⟨by omega, h2⟩]
    · rw [List.getElem?_append_right (by omega), List.getElem?_drop, if_neg (by omega)]
      congr 1; omega
theorem splice_len (cs vs : List Value) (o : Nat) (hl : o + vs.length ≤ cs.length) : (splice cs o vs).length = cs.length := by
  unfold splice; simp only [List.length_append, List.length_take, List.length_drop]; omega
theorem splice_far {cs vs : List Value} {o a m : Nat} (hl : o + vs.length ≤ cs.length) (hf : a + m ≤ o ∨ o + vs.length ≤ a) : ((splice cs o vs).drop a).take m = (cs.drop a).take m := by
  apply List.ext_getElem?
  intro t
  by_cases ht : t < m
  · rw [List.getElem?_take_of_lt ht, List.getElem?_take_of_lt ht, List.getElem?_drop, List.getElem?_drop, splice_get _ _ _ _ hl, if_neg (by omega)]
  · rw [List.getElem?_eq_none (by rw [List.length_take]; omega), List.getElem?_eq_none (by rw [List.length_take]; omega)]
theorem splice_in {cs vs : List Value} {a j m : Nat} (hl : a + m ≤ cs.length) (hj : j + vs.length ≤ m) : ((splice cs (a + j) vs).drop a).take m = splice ((cs.drop a).take m) j vs := by
  have hlen : ((cs.drop a).take m).length = m := by rw [List.length_take, List.length_drop]; omega
  apply List.ext_getElem?
  intro t
  rw [splice_get _ _ _ _ (by rw [hlen]; exact hj)]
  by_cases ht : t < m
  · rw [List.getElem?_take_of_lt ht, List.getElem?_drop, splice_get _ _ _ _ (by omega)]
    by_cases h1 : j ≤ t ∧ t < j + vs.length
    · rw [if_pos h1, if_pos (by omega)]; congr 1; omega
    · rw [if_neg h1, if_neg (by omega), List.getElem?_take_of_lt ht, List.getElem?_drop]
  · have e1 : (((splice cs (a + j) vs).drop a).take m)[t]? = none := List.getElem?_eq_none (by rw [List.length_take]; omega)
    rw [e1, if_neg (by omega), List.getElem?_eq_none (by rw [hlen]; omega)]
theorem seti_len {α : Type} (xs : List α) (k : Int) (y : α) : (seti xs k y).length = xs.length := by unfold seti; simp
theorem seti_get {α : Type} {xs : List α} {k : Int} {x y : α} (hk : geti xs k = some x) (j : Nat) : (seti xs k y)[j]? = if j = k.toNat then some y else xs[j]? := by
  obtain ⟨h1, h2, _⟩ := geti_some hk
  unfold seti
  rw [List.getElem?_set]
  by_cases e : j = k.toNat
  · subst e; rw [if_pos rfl, if_pos rfl, if_pos h2]
  · rw [if_neg (fun z => e z.symm), if_neg e]
section
variable {α : Type} {e : Rdr α}
theorem own_set {a : Option Addr} {c b o j : Nat} {xs : List α} {k : Int} {x y : α} {cs vs : List Value} {q : e.Par} (so : OwnS e wm wm h a c xs) (ha : a = some ⟨b, o, none⟩) (hk : geti xs k = some x) (hA : At h b (o + k.toNat * e.sz) cs) (hl : cs.length = e.sz) (hj : j + vs.length ≤ cs.length)
    (hy : splice cs j vs = e.sh q y) (hF : e.F wm h q y) : ∃ row, h.at b = .row row true e.sz ∧ o + k.toNat * e.sz + j + vs.length ≤ row.length ∧ wm ≤ b ∧ ∀ h', Up wm (fun i => i = b) h h' → h'.at b = .row (splice row (o + k.toNat * e.sz + j) vs) true e.sz → OwnS e wm wm h' a c (seti xs k y) ∧ At h' b (o + k.toNat * e.sz) (splice cs j vs) := by
  obtain ⟨k1, k2, k3⟩ := geti_some hk
  rcases so.mem with ⟨q1, _⟩ | ⟨i, o', row, q1, q2, q3, q4, q5, q6⟩
  · rw [ha] at q1; cases q1
  · rw [ha] at q1; cases q1
    have hel := q6.len
    have hm : (k.toNat + 1) * e.sz ≤ xs.length * e.sz := Nat.mul_le_mul_right _ k2
    rw [Nat.succ_mul] at hm
    have hrow : (row.drop (o + k.toNat * e.sz)).take e.sz = cs := by
      obtain ⟨cs', own, z, a1, a2, a3⟩ := hA
      rw [q3] at a1; cases a1
      have := a2; rw [hl] at this; exact this
    refine ⟨row, q3, by omega, q2, fun h' u hat => ⟨⟨by rw [seti_len]; exact so.max, .inr ⟨b, o, _, ha, q2, hat, by rw [seti_len]; exact q4, by rw [splice_len _ _ _ (by omega)]; exact q5, ⟨by rw [seti_len, splice_len _ _ _ (by omega)]; exact hel, fun t z hz => ?_⟩⟩⟩, ⟨_, _, _, hat, ?_, ?_⟩⟩⟩
    · rw [seti_get hk] at hz
      by_cases et : t = k.toNat
      · rw [if_pos et] at hz; cases hz
        subst et
        exact ⟨q, by rw [splice_in (by omega) (by omega), hrow, hy], e.mono (u.fz (Nat.le_refl _)) hF⟩
      · rw [if_neg et] at hz
        obtain ⟨q', g1, g2⟩ := q6.get t z hz
        refine ⟨q', ?_, e.mono (u.fz (Nat.le_refl _)) g2⟩
        rw [splice_far (by omega), g1]
        rcases Nat.lt_or_ge t k.toNat with z1 | z1
        · left
          have : (t + 1) * e.sz ≤ k.toNat * e.sz := Nat.mul_le_mul_right _ z1
          rw [Nat.succ_mul] at this; omega
        · right
          have : (k.toNat + 1) * e.sz ≤ t * e.sz := Nat.mul_le_mul_right _ (by omega)
          rw [Nat.succ_mul] at this; omega
    · rw [splice_len _ _ _ hj, hl, splice_in (by omega) (by omega), hrow]
    · rw [splice_len _ _ _ hj, splice_len _ _ _ (by omega)]; omega
theorem s_ste {x y : Operand} {t : TypeId} {a : Option Addr} {nn c b o j oo sz : Nat} {xs : List α} {k : Int} {x0 : α} (y0 : α) {cs cs' vs : List Value} {v : Value} (q : e.Par) (hS : Sp wm T h0 G h) (pk : Pk G (ow wm e a nn c xs) Gr) (hs : sizeP X.P t = some sz) (hx : aev fr x = some (.pointer (some ⟨b, oo, none⟩))) (hy : aev fr y = some v)
    (ha : a = some ⟨b, o, none⟩) (hk : geti xs k = some x0) (hA : At h b (o + k.toNat * e.sz) cs) (ho : oo = o + k.toNat * e.sz + j) (hvs : v.cells.toList = vs) (hn : Nat.beq vs.length sz = true) (hl : Nat.beq cs.length e.sz = true) (hj : Nat.ble (j + vs.length) cs.length = true) (hc : vs.all Value.oneCell' = true) (hv : splice cs j vs = cs') (hsh : cs' = e.sh q y0) (hF : e.F wm h q y0) :
    HU X wm ⟨none, .store t x y, ty, p, af, g⟩ fr h (BaseA a) (fun h' => Sp wm T h0 (ow wm e a nn c (seti xs k y0) :: Gr) h' ∧ At h' b (o + k.toNat * e.sz) cs') := by
  obtain ⟨h1, so⟩ := hS.get pk
  have hj := Nat.le_of_ble_eq_true hj
  have hn := Nat.eq_of_beq_eq_true hn
  obtain ⟨row, r1, r2, r3, r4⟩ := own_set so ha hk hA (Nat.eq_of_beq_eq_true hl) hj (hv.trans hsh) hF
  subst ho
  obtain ⟨e1, e2⟩ := st_ex (d := none) (ty := ty) (p := p) (af := af) (g := g) hs hx hy r1 r3 hvs hn (by rw [← hn]; exact r2) hc rfl
  have u : Up wm (fun i => i = b) h (h.put b (.row (splice row (o + k.toNat * e.sz + j) vs) true e.sz)) := Up.put r3 (by rw [r1]; rfl)
  obtain ⟨w1, w2⟩ := r4 _ u (at_put_same (live_lt r1 rfl) _)
  refine ⟨_, _, e1, e2, fun z hz => ?_, by simp, hS.one pk u (fun i e => by subst e; exact ⟨o, ha⟩) ⟨by rw [seti_len]; exact h1, w1⟩ fun i e => .inl e, hv ▸ w2⟩
  have : b = z := by simpa [Eff.tgt] using hz
  subst this; exact ⟨o, ha⟩
end
end Go.Abs
end
end
section
noncomputable section
namespace Go.Abs
open Go.Lf
variable {X : Ctx} {n wm : Nat} {rd : Option Nat} {ops : Array Oper} {fr : Fr} {h h1 h2 h0 : H} {ty : TypeId} {p : String} {af : Array Edge} {g : Option (Nat × Bool)} {T : Nat → Prop} {G Gr Ga Gb : List (Ast wm)} {d : Nat}
structure Ne (α : Type) where
  sz : Nat
  pos : 0 < sz
  Par : Type
  dflt : Par
  sh : Par → α → List Value
  len : ∀ p x, (sh p x).length = sz
  one : ∀ p x, (sh p x).all Value.oneCell' = true
  as_ : (wm : Nat) → Par → α → List (Ast wm)
section
variable {α : Type} {e : Ne α}
def upd {β : Type} (ps : Nat → β) (i : Nat) (p : β) : Nat → β := fun k => if k = i then p else ps k
variable {a : Option Addr} {nn c : Nat} {ps : Nat → e.Par} {xs : List α}
end
end Go.Abs
end
end
section
noncomputable section
namespace Go.Abs
open Go.Lf
variable {X : Ctx} {n wm : Nat} {rd : Option Nat} {ops : Array Oper} {fr : Fr} {h h1 h2 h0 : H} {ty : TypeId} {p : String} {af : Array Edge} {g : Option (Nat × Bool)} {T : Nat → Prop} {G Gr Ga Gb : List (Ast wm)} {d : Nat}
section
variable {α : Type} {e : Ne α} {a : Option Addr} {nn c : Nat} {ps : Nat → e.Par} {xs : List α}
end
end Go.Abs
end
end
section
noncomputable section
namespace Go.Abs
open Go.Lf
variable {X : Ctx} {n wm : Nat} {rd : Option Nat} {ops : Array Oper} {l : List Oper} {fr : Fr} {h h1 h2 h0 : H} {ty : TypeId} {p : String} {af : Array Edge} {g : Option (Nat × Bool)} {T : Nat → Prop} {G Gr Ga Gb : List (Ast wm)} {d : Nat} {m : Nat} {sf : ST}
theorem mkL_some {α : Type} {z : α} {by_ : Nat} {a b : Int} {xs : List α} (hm : mkL z by_ a b = some xs) : ∃ k c : Nat, a = (k : Int) ∧ b = (c : Int) ∧ k ≤ c ∧ by_ * c ≤ 100000 ∧ xs = List.replicate k z := by
  unfold mkL at hm
  by_cases h1 : 0 ≤ a
  · rw [decide_eq_true h1, Bool.true_and] at hm
    by_cases h2 : a ≤ b
    · rw [decide_eq_true h2, Bool.true_and] at hm
      cases h3 : Nat.ble (by_ * b.toNat) 100000 with
      | false => rw [h3] at hm; cases hm
      | true =>
        rw [h3] at hm; cases hm
        exact ⟨a.toNat, b.toNat, by omega, by omega, by omega, Nat.le_of_ble_eq_true h3, rfl⟩
    · rw [decide_eq_false h2] at hm; cases hm
  · rw [decide_eq_false h1] at hm; cases hm
theorem zrep_part (zs : List Value) (c k : Nat) (hk : k < c) : ((zrep zs c).drop (k * zs.length)).take zs.length = zs := by
  apply List.ext_getElem?
  intro t
  by_cases ht : t < zs.length
  · rw [List.getElem?_take_of_lt ht, List.getElem?_drop]
    unfold zrep
    have hlt : k * zs.length + t < c * zs.length := by
      have : (k + 1) * zs.length ≤ c * zs.length := Nat.mul_le_mul_right _ hk
      rw [Nat.succ_mul] at this; omega
    rw [List.getElem?_map, List.getElem?_range hlt]
    have : (k * zs.length + t) % zs.length = t := by rw [Nat.mul_comm, Nat.mul_add_mod, Nat.mod_eq_of_lt ht]
    rw [Option.map_some, this, List.getD_eq_getElem?_getD, List.getElem?_eq_getElem ht]; rfl
  · rw [List.getElem?_eq_none (by rw [List.length_take]; omega), List.getElem?_eq_none (by omega)]
theorem amake_eq {P : Program} {t el : TypeId} {z : Value} {sz by_ k c : Nat} {ki kj : IntKind} (hu : P.underlying t = some (.slice el)) (hs : sizeP P el = some sz) (hb : bytesP P el = some by_) (hz : zeroP P el = some z) (hp : 0 < sz) (hbp : Nat.ble 1 by_ = true) (hzl : z.cells.toList.length = sz) (hk : k ≤ c) (hc : by_ * c ≤ 100000) :
    amake P h t (.int ki (k : Int)) (.int kj (c : Int)) = some (.slice (some ⟨h.size, 0, none⟩) k (2 * c), .new (.row (zrep z.cells.toList c) true sz)) := by
  unfold amake
  rw [hu]
  have e1 : natOf (.int ki (k : Int)) = some k := rfl
  have e2 : natOf (.int kj (c : Int)) = some c := rfl
  rw [e1, e2]
  dsimp only
  rw [hs, hb, hz]
  dsimp only
  rw [hbp, Nat.ble_eq_true_of_le hk, Nat.ble_eq_true_of_le hc, hzl, Nat.beq_refl, Nat.ble_eq_true_of_le (show 1 ≤ sz from hp)]; rfl
section
variable {α : Type} {e : Rdr α}
theorem s_mks {t el : TypeId} {x y : Operand} {by_ : Nat} {a b : Int} {z : Value} {zs : List Value} {x0 : α} {xs : List α} {ki kj : IntKind} (q0 : e.Par) (hS : Sp wm T h0 G h) (hu : X.P.underlying t = some (.slice el)) (hs : sizeP X.P el = some e.sz) (hb : bytesP X.P el = some by_) (hz : zeroP X.P el = some z) (hzs : z.cells.toList = zs) (hbp : Nat.ble 1 by_ = true)
    (hx : aev fr x = some (.int ki a)) (hy : aev fr y = some (.int kj b)) (hsh : zs = e.sh q0 x0) (hF : e.F wm h q0 x0) (hm : mkL x0 by_ a b = some xs) :
    HN X wm ⟨some d, .makeSlice t x y, ty, p, af, g⟩ fr h (fun v h' => ∃ (b : Nat) (c' : Nat), h.size = b ∧ v = .slice (some ⟨b, 0, none⟩) xs.length c' ∧ Sp wm T h0 (ow wm e (some ⟨b, 0, none⟩) xs.length c' xs :: G) h') := by
  obtain ⟨k, c, rfl, rfl, hkc, hbc, rfl⟩ := mkL_some hm
  subst hzs
  have hzl : z.cells.toList.length = e.sz := by rw [hsh, e.len]
  refine ⟨.slice (some ⟨h.size, 0, none⟩) k (2 * c), .row (zrep z.cells.toList c) true e.sz, rfl, fun g' hg => ?_, fun h' u hat _ => ⟨h.size, 2 * c, rfl, by rw [List.length_replicate], hS.new u ⟨rfl, ?_⟩ fun i ⟨o, e⟩ => by cases e; exact Nat.le_refl _⟩⟩
  · show (match aev fr x, aev fr y with | some l, some c => vE (amake X.P g' t l c) | _, _ => none) = _
    rw [hx, hy]
    dsimp only
    rw [amake_eq hu hs hb hz e.pos hbp hzl hkc hbc, hg]; rfl
  · have hbp' := Nat.le_of_ble_eq_true hbp
    have hc1 : c ≤ 100000 := by
      have : 1 * c ≤ by_ * c := Nat.mul_le_mul_right _ hbp'
      omega
    have h2c : 2 * c / 2 = c := by omega
    refine OwnS.mk' (by rw [List.length_replicate]; omega) hS.hw hat (by rw [List.length_replicate, h2c]; exact hkc) (by rw [h2c, zrep_length, hzl]; exact Nat.le_refl _) ⟨by rw [List.length_replicate, zrep_length, hzl, Nat.zero_add]; exact Nat.mul_le_mul_right _ hkc, fun j w hj => ?_⟩
    have hjk : j < k := by
      have := (List.getElem?_eq_some_iff.1 hj).1
      rwa [List.length_replicate] at this
    rw [List.getElem?_replicate, if_pos hjk] at hj
    cases hj
    refine ⟨q0, ?_, e.mono (u.fz (Nat.le_refl _)) hF⟩
    rw [Nat.zero_add, ← hzl, zrep_part _ _ _ (by omega), hsh]
end
section
variable {α : Type} {e : Ne α}
end
end Go.Abs
end
end
section
noncomputable section
namespace Go.Abs
open Go.Lf
variable {X : Ctx} {n wm : Nat} {rd : Option Nat} {ops : Array Oper} {l : List Oper} {fr : Fr} {ds : List Deferred} {h h1 h2 h0 : H} {ty : TypeId} {p : String} {af : Array Edge} {g : Option (Nat × Bool)} {T : Nat → Prop} {G Gr Ga Gb : List (Ast wm)} {d : Nat} {m : Nat} {sf : ST}
section
variable {α : Type} {e : Rdr α} {a a1 : Option Addr} {nn c n1 c1 : Nat} {ps : Nat → Option Addr × Nat × Nat} {xs : List (List α)}
end
section
variable {κ ν : Type} [DecidableEq κ] {kt vt : TypeId} {kv : κ → Value} {vv : ν → Value} {i : Nat} {ll : List (κ × ν)} {Q : Fr → H → Prop}
end
end Go.Abs
end
end
section
noncomputable section
namespace Go.Abs
open Go.Lf
variable {X : Ctx} {h : H} {ev : Operand → Option Value} {d : Option Tmp} {ty : TypeId} {p : String} {af : Array Edge} {g : Option (Nat × Bool)} {P : Program}
end Go.Abs
end
end
section
noncomputable section
namespace Go.Abs
open Go.Lf
variable {X : Ctx} {n wm : Nat} {rd : Option Nat} {ops : Array Oper} {ol : List Oper} {fr : Fr} {ds : List Deferred} {h h0 : H} {ty : TypeId} {p : String} {af : Array Edge} {g : Option (Nat × Bool)} {T : Nat → Prop} {G Gr : List (Ast wm)} {d : Nat} {l df : Nat} {LO : AObj} {ps : Array Tmp} {as_ bd : Code}
end Go.Abs
end
end
section
noncomputable section
namespace Go.Abs
open Go.Lf
variable {X : Ctx} {n wm : Nat} {rd : Option Nat} {ops : Array Oper} {l : List Oper} {fr : Fr} {ds : List Deferred} {h h1 h2 h0 : H} {ty : TypeId} {p : String} {af : Array Edge} {g : Option (Nat × Bool)} {m : Nat} {T : Nat → Prop} {G Gr Ga Gb : List (Ast wm)} {d : Nat} {sf : ST}
def HW (X : Ctx) (wm : Nat) (o : Oper) (fr : Fr) (h : H) (K : H → Prop) : Prop := ∃ v E h1, aop X h (aev fr) o = some (.val v, E) ∧ E.apply wm h = some h1 ∧ K h1
section
variable {α : Type} {e : Rdr α} {t el : TypeId} {x : Operand} {a : Option Addr} {nn c : Nat} {xs zs ws us : List α} {a1 a2 a3 : Int}
end
section
variable {κ ν : Type} [DecidableEq κ] {kt vt : TypeId} {kv : κ → Value} {vv : ν → Value} {i : Nat} {ll : List (κ × ν)}
end
end Go.Abs
end
end
section
noncomputable section
namespace Go.Abs
open Go.Lf
variable {X : Ctx} {n wm : Nat} {rd : Option Nat} {ops : Array Oper} {l : List Oper} {fr : Fr} {ds : List Deferred} {h h1 h2 h0 : H} {ty : TypeId} {p : String} {af : Array Edge} {g : Option (Nat × Bool)} {m : Nat} {T : Nat → Prop} {G Gr Ga Gb : List (Ast wm)} {d : Nat} {sf : ST}
section
variable {α : Type} {e : Rdr α} {t el : TypeId} {x : Operand} {a : Option Addr} {nn c : Nat} {xs zs ws us : List α} {a1 a2 a3 : Int}
end
end Go.Abs
end
end
section
noncomputable section
namespace Go.Abs
open Go.Lf
variable {X : Ctx} {n wm wm' : Nat} {fr : Fr} {h : H} {ty : TypeId} {p : String} {af : Array Edge} {g : Option (Nat × Bool)} {d : Nat}
section
variable {α : Type} {e : Rdr α} {t el : TypeId} {x : Operand} {a : Option Addr} {nn c : Nat} {xs zs : List α} {a2 : Int}
end
end Go.Abs
end
end
section
noncomputable section
namespace Go.Abs
open Go.Lf
variable {X : Ctx} {n wm : Nat} {rd : Option Nat} {ops : Array Oper} {l : List Oper} {fr : Fr} {ds : List Deferred} {h h1 h2 h0 : H} {ty : TypeId} {p : String} {af : Array Edge} {g : Option (Nat × Bool)} {T : Nat → Prop} {G Gr Ga Gb : List (Ast wm)} {d : Nat}
def pv (t : TypeId) (k : Int) : Value := .iface t (.int .i64 k)
section
variable {β : Type} {t : TypeId} {K : β → Value → List (Ast wm) → Prop} {f : FuncId} {args : Array Value}
end
section
variable {fn : Func} {R : AEnd → H → Prop} {s : Fs} {v : Value} {pm : PM}
end
section
end
end Go.Abs
end
end
section
noncomputable section
namespace Go.Abs
open Go.Lf
variable {X : Ctx} {n wm : Nat} {rd : Option Nat} {ops : Array Oper} {l : List Oper} {rest : Code}
section
variable {κ ν : Type} {kv : κ → Value} {vv : ν → Value} {ll : List (κ × ν)} {bs : List Nat}
end
section
variable {wm : Nat} {G Gr : List (Ast wm)} {h h0 : H} {T0 : Nat → Prop} {fr : Fr} {ds : List Deferred} {ty : TypeId} {p : String} {af : Array Edge} {g : Option (Nat × Bool)} {κ ν : Type} {kv : κ → Value} {vv : ν → Value} {ll : List (κ × ν)} {d : Nat}
end
end Go.Abs
end
end
section
noncomputable section
namespace Go.Abs
open Go.Lf
variable {X : Ctx} {n wm : Nat} {rd : Option Nat} {ops : Array Oper} {l : List Oper} {fr : Fr} {ds : List Deferred} {h h1 h2 h0 : H} {T : Nat → Prop} {G Gr Ga Gb : List (Ast wm)}
end Go.Abs
end
end
section
namespace Go.Lf
end Go.Lf
end
section
noncomputable section
namespace Go.Abs
open Go.Lf
variable {X : Ctx} {n wm : Nat} {rd : Option Nat} {ops : Array Oper} {l : List Oper} {rest : Code}
section
variable {wm : Nat} {G Gr : List (Ast wm)} {h h0 : H} {T0 : Nat → Prop} {fr : Fr} {ds : List Deferred} {κ ν : Type} {kv : κ → Value} {vv : ν → Value} {ll : List (κ × ν)} {d : Nat}
end
end Go.Abs
end
end
section
noncomputable section
namespace Go.Abs
open Go.Lf
variable {P : Program}
end Go.Abs
end
end
section
noncomputable section
namespace Go.Abs
open Go.Lf
variable {X : Ctx} {n wm : Nat} {rd : Option Nat} {ops : Array Oper} {ol : List Oper} {fr : Fr} {ds : List Deferred} {h h0 : H} {ty : TypeId} {p : String} {af : Array Edge} {g : Option (Nat × Bool)} {T : Nat → Prop} {G Gr : List (Ast wm)} {d : Nat} {l df : Nat} {LO : AObj} {ps : Array Tmp} {as_ bd : Code}
section
variable {sf : ST} {m : Nat}
end
end Go.Abs
end
end
section

end
section
namespace Go.Proofs.YtbmbbcaaimehkaaGreat
structure FerryEntry where
  here : Bool
  to_ : Int
  age : Int
  deriving DecidableEq, Inhabited
structure FerryMail where
  msg : Int
  place : Int
  from_ : Int
  age : Int
  hops : Int
  deriving DecidableEq, Inhabited
structure FerryLetter where
  kind : Int
  to_ : Int
  mail : FerryMail
  places : (List Int)
  ages : (List Int)
  place : Int
  at_ : Int
  age : Int
  deriving DecidableEq, Inhabited
structure FerryWorld where
  in_ : (List Int)
  boxes : (List (List Int))
  entries : (List (List FerryEntry))
  held : (List (List FerryMail))
  wire : (List FerryLetter)
  said : Int
  deriving DecidableEq, Inhabited
structure Spot where
  at_ : Int
  age : Int
  letter : Int
  is : Bool
  deriving DecidableEq, Inhabited
structure Spot_ where
  machine : Int
  here : Bool
  age : Int
  deriving DecidableEq, Inhabited
structure Inspector where
  ferryWorld : FerryWorld
  spots : (List Spot_)
  deriving DecidableEq, Inhabited
def eqFerryEntry (x y : FerryEntry) : Bool := [x.here == y.here, x.to_ == y.to_, x.age == y.age].all id
def eqFerryMail (x y : FerryMail) : Bool := [x.msg == y.msg, x.place == y.place, x.from_ == y.from_, x.age == y.age, x.hops == y.hops].all id
def eqSpot_ (x y : Spot_) : Bool := [x.machine == y.machine, x.here == y.here, x.age == y.age].all id
def f14L : Option Bool := some true
def f94L (p0 : List Int) : Option (List Int) := bif Nat.ble p0.length 1000000 then some (p0.mergeSort fun x y => decide (x ≤ y)) else none
end Go.Proofs.YtbmbbcaaimehkaaGreat
end
section
set_option maxRecDepth 100000
noncomputable section
namespace Go.Proofs.YtbmbbcaaimehkaaGreat
open Go.Abs Go.Lf
def rFerryEntry : Rdr FerryEntry where
  sz := 3
  pos := by decide
  Par := Unit
  dflt := ()
  sh := fun _ x => [.bool x.here, .int .i64 x.to_, .int .i64 x.age]
  len := fun _ _ => rfl
  one := fun _ _ => rfl
  F := fun _ _ _ _ => True
  mono := fun _ x => x
  up := fun _ x => x
def rFerryMail : Rdr FerryMail where
  sz := 5
  pos := by decide
  Par := Unit
  dflt := ()
  sh := fun _ x => [.int .i64 x.msg, .int .i64 x.place, .int .i64 x.from_, .int .i64 x.age, .int .i64 x.hops]
  len := fun _ _ => rfl
  one := fun _ _ => rfl
  F := fun _ _ _ _ => True
  mono := fun _ x => x
  up := fun _ x => x
def rFerryLetter : Rdr FerryLetter where
  sz := 12
  pos := by decide
  Par := (Option Addr × Nat) × (Option Addr × Nat)
  dflt := ((none, 0), (none, 0))
  sh := fun p x => [.int .i64 x.kind, .int .i64 x.to_, .int .i64 x.mail.msg, .int .i64 x.mail.place, .int .i64 x.mail.from_, .int .i64 x.mail.age, .int .i64 x.mail.hops, .slice p.1.1 x.places.length p.1.2, .slice p.2.1 x.ages.length p.2.2, .int .i64 x.place, .int .i64 x.at_, .int .i64 x.age]
  len := fun _ _ => rfl
  one := fun _ _ => rfl
  F := fun wm h p x => Sl (rInt .i64) wm h p.1.1 p.1.2 x.places ∧ Sl (rInt .i64) wm h p.2.1 p.2.2 x.ages
  mono := fun f ⟨y0, y1⟩ => ⟨y0.mono f, y1.mono f⟩
  up := fun f ⟨y0, y1⟩ => ⟨y0.up f, y1.up f⟩
def rFerryWorld : Rdr FerryWorld where
  sz := 6
  pos := by decide
  Par := (Option Addr × Nat) × (Option Addr × Nat) × (Option Addr × Nat) × (Option Addr × Nat) × (Option Addr × Nat)
  dflt := ((none, 0), (none, 0), (none, 0), (none, 0), (none, 0))
  sh := fun p x => [.slice p.1.1 x.in_.length p.1.2, .slice p.2.1.1 x.boxes.length p.2.1.2, .slice p.2.2.1.1 x.entries.length p.2.2.1.2, .slice p.2.2.2.1.1 x.held.length p.2.2.2.1.2, .slice p.2.2.2.2.1 x.wire.length p.2.2.2.2.2, .int .i64 x.said]
  len := fun _ _ => rfl
  one := fun _ _ => rfl
  F := fun wm h p x => Sl (rInt .i64) wm h p.1.1 p.1.2 x.in_ ∧ Sl (rSl (rInt .i64)) wm h p.2.1.1 p.2.1.2 x.boxes ∧ Sl (rSl rFerryEntry) wm h p.2.2.1.1 p.2.2.1.2 x.entries ∧ Sl (rSl rFerryMail) wm h p.2.2.2.1.1 p.2.2.2.1.2 x.held ∧ Sl rFerryLetter wm h p.2.2.2.2.1 p.2.2.2.2.2 x.wire
  mono := fun f ⟨y0, y1, y2, y3, y4⟩ => ⟨y0.mono f, y1.mono f, y2.mono f, y3.mono f, y4.mono f⟩
  up := fun f ⟨y0, y1, y2, y3, y4⟩ => ⟨y0.up f, y1.up f, y2.up f, y3.up f, y4.up f⟩
def rSpot : Rdr Spot where
  sz := 4
  pos := by decide
  Par := Unit
  dflt := ()
  sh := fun _ x => [.int .i64 x.at_, .int .i64 x.age, .int .i64 x.letter, .bool x.is]
  len := fun _ _ => rfl
  one := fun _ _ => rfl
  F := fun _ _ _ _ => True
  mono := fun _ x => x
  up := fun _ x => x
def rSpot_ : Rdr Spot_ where
  sz := 3
  pos := by decide
  Par := Unit
  dflt := ()
  sh := fun _ x => [.int .i64 x.machine, .bool x.here, .int .i64 x.age]
  len := fun _ _ => rfl
  one := fun _ _ => rfl
  F := fun _ _ _ _ => True
  mono := fun _ x => x
  up := fun _ x => x
theorem und4 : XX.P.underlying 4 = some .bool := by kernel_rfl
theorem und22 : XX.P.underlying 22 = some (.slice 3) := by kernel_rfl
theorem und24 : XX.P.underlying 24 = some (.slice 22) := by kernel_rfl
theorem und25 : XX.P.underlying 25 = some (.slice 64) := by kernel_rfl
theorem und26 : XX.P.underlying 26 = some (.slice 90) := by kernel_rfl
theorem und27 : XX.P.underlying 27 = some (.slice 95) := by kernel_rfl
theorem und41 : XX.P.underlying 41 = some (.slice 67) := by kernel_rfl
theorem und46 : XX.P.underlying 46 = some (.slice 40) := by kernel_rfl
theorem und64 : XX.P.underlying 64 = some (.slice 63) := by kernel_rfl
theorem und90 : XX.P.underlying 90 = some (.slice 92) := by kernel_rfl
theorem und102 : XX.P.underlying 102 = some (.slice 104) := by kernel_rfl
theorem und110 : XX.P.underlying 110 = some (.slice 4) := by kernel_rfl
theorem und124 : XX.P.underlying 124 = some (.slice 120) := by kernel_rfl
theorem agg3 : isAggP XX.P 3 = some false := by kernel_rfl
theorem agg4 : isAggP XX.P 4 = some false := by kernel_rfl
theorem agg22 : isAggP XX.P 22 = some false := by kernel_rfl
theorem agg24 : isAggP XX.P 24 = some false := by kernel_rfl
theorem agg25 : isAggP XX.P 25 = some false := by kernel_rfl
theorem agg26 : isAggP XX.P 26 = some false := by kernel_rfl
theorem agg27 : isAggP XX.P 27 = some false := by kernel_rfl
theorem agg29 : isAggP XX.P 29 = some true := by kernel_rfl
theorem agg30 : isAggP XX.P 30 = some false := by kernel_rfl
theorem agg38 : isAggP XX.P 38 = some false := by kernel_rfl
theorem agg40 : isAggP XX.P 40 = some true := by kernel_rfl
theorem agg41 : isAggP XX.P 41 = some false := by kernel_rfl
theorem agg63 : isAggP XX.P 63 = some true := by kernel_rfl
theorem agg64 : isAggP XX.P 64 = some false := by kernel_rfl
theorem agg65 : isAggP XX.P 65 = some false := by kernel_rfl
theorem agg67 : isAggP XX.P 67 = some true := by kernel_rfl
theorem agg90 : isAggP XX.P 90 = some false := by kernel_rfl
theorem agg92 : isAggP XX.P 92 = some true := by kernel_rfl
theorem agg93 : isAggP XX.P 93 = some false := by kernel_rfl
theorem agg95 : isAggP XX.P 95 = some true := by kernel_rfl
theorem agg104 : isAggP XX.P 104 = some true := by kernel_rfl
theorem agg116 : isAggP XX.P 116 = some false := by kernel_rfl
theorem agg120 : isAggP XX.P 120 = some true := by kernel_rfl
theorem agg124 : isAggP XX.P 124 = some false := by kernel_rfl
theorem size3 : sizeP XX.P 3 = some 1 := by kernel_rfl
theorem size4 : sizeP XX.P 4 = some 1 := by kernel_rfl
theorem size22 : sizeP XX.P 22 = some 1 := by kernel_rfl
theorem size24 : sizeP XX.P 24 = some 1 := by kernel_rfl
theorem size25 : sizeP XX.P 25 = some 1 := by kernel_rfl
theorem size26 : sizeP XX.P 26 = some 1 := by kernel_rfl
theorem size27 : sizeP XX.P 27 = some 1 := by kernel_rfl
theorem size29 : sizeP XX.P 29 = some 6 := by kernel_rfl
theorem size30 : sizeP XX.P 30 = some 1 := by kernel_rfl
theorem size40 : sizeP XX.P 40 = some 3 := by kernel_rfl
theorem size41 : sizeP XX.P 41 = some 1 := by kernel_rfl
theorem size63 : sizeP XX.P 63 = some 3 := by kernel_rfl
theorem size64 : sizeP XX.P 64 = some 1 := by kernel_rfl
theorem size67 : sizeP XX.P 67 = some 5 := by kernel_rfl
theorem size90 : sizeP XX.P 90 = some 1 := by kernel_rfl
theorem size92 : sizeP XX.P 92 = some 5 := by kernel_rfl
theorem size95 : sizeP XX.P 95 = some 12 := by kernel_rfl
theorem size104 : sizeP XX.P 104 = some 4 := by kernel_rfl
theorem size116 : sizeP XX.P 116 = some 1 := by kernel_rfl
theorem size120 : sizeP XX.P 120 = some 3 := by kernel_rfl
theorem fld29_0 : FieldAt XX.P 29 0 0 := FieldAt.of (by kernel_rfl)
theorem fld29_1 : FieldAt XX.P 29 1 1 := FieldAt.of (by kernel_rfl)
theorem fld29_2 : FieldAt XX.P 29 2 2 := FieldAt.of (by kernel_rfl)
theorem fld29_3 : FieldAt XX.P 29 3 3 := FieldAt.of (by kernel_rfl)
theorem fld29_4 : FieldAt XX.P 29 4 4 := FieldAt.of (by kernel_rfl)
theorem fld29_5 : FieldAt XX.P 29 5 5 := FieldAt.of (by kernel_rfl)
theorem fld40_0 : FieldAt XX.P 40 0 0 := FieldAt.of (by kernel_rfl)
theorem fld40_1 : FieldAt XX.P 40 1 1 := FieldAt.of (by kernel_rfl)
theorem fld40_2 : FieldAt XX.P 40 2 2 := FieldAt.of (by kernel_rfl)
theorem fld63_0 : FieldAt XX.P 63 0 0 := FieldAt.of (by kernel_rfl)
theorem fld63_1 : FieldAt XX.P 63 1 1 := FieldAt.of (by kernel_rfl)
theorem fld63_2 : FieldAt XX.P 63 2 2 := FieldAt.of (by kernel_rfl)
theorem fld67_0 : FieldAt XX.P 67 0 0 := FieldAt.of (by kernel_rfl)
theorem fld67_1 : FieldAt XX.P 67 1 1 := FieldAt.of (by kernel_rfl)
theorem fld67_2 : FieldAt XX.P 67 2 2 := FieldAt.of (by kernel_rfl)
theorem fld67_3 : FieldAt XX.P 67 3 3 := FieldAt.of (by kernel_rfl)
theorem fld67_4 : FieldAt XX.P 67 4 4 := FieldAt.of (by kernel_rfl)
theorem fld92_0 : FieldAt XX.P 92 0 0 := FieldAt.of (by kernel_rfl)
theorem fld92_1 : FieldAt XX.P 92 1 1 := FieldAt.of (by kernel_rfl)
theorem fld92_2 : FieldAt XX.P 92 2 2 := FieldAt.of (by kernel_rfl)
theorem fld92_3 : FieldAt XX.P 92 3 3 := FieldAt.of (by kernel_rfl)
theorem fld92_4 : FieldAt XX.P 92 4 4 := FieldAt.of (by kernel_rfl)
theorem fld95_0 : FieldAt XX.P 95 0 0 := FieldAt.of (by kernel_rfl)
theorem fld95_1 : FieldAt XX.P 95 1 1 := FieldAt.of (by kernel_rfl)
theorem fld95_2 : FieldAt XX.P 95 2 2 := FieldAt.of (by kernel_rfl)
theorem fld95_3 : FieldAt XX.P 95 3 7 := FieldAt.of (by kernel_rfl)
theorem fld95_4 : FieldAt XX.P 95 4 8 := FieldAt.of (by kernel_rfl)
theorem fld95_5 : FieldAt XX.P 95 5 9 := FieldAt.of (by kernel_rfl)
theorem fld95_6 : FieldAt XX.P 95 6 10 := FieldAt.of (by kernel_rfl)
theorem fld95_7 : FieldAt XX.P 95 7 11 := FieldAt.of (by kernel_rfl)
theorem fld100_0 : FieldAt XX.P 100 0 0 := FieldAt.of (by kernel_rfl)
theorem fld100_1 : FieldAt XX.P 100 1 6 := FieldAt.of (by kernel_rfl)
theorem fld104_0 : FieldAt XX.P 104 0 0 := FieldAt.of (by kernel_rfl)
theorem fld104_1 : FieldAt XX.P 104 1 1 := FieldAt.of (by kernel_rfl)
theorem fld104_2 : FieldAt XX.P 104 2 2 := FieldAt.of (by kernel_rfl)
theorem fld104_3 : FieldAt XX.P 104 3 3 := FieldAt.of (by kernel_rfl)
theorem fld120_0 : FieldAt XX.P 120 0 0 := FieldAt.of (by kernel_rfl)
theorem fld120_1 : FieldAt XX.P 120 1 1 := FieldAt.of (by kernel_rfl)
theorem fld120_2 : FieldAt XX.P 120 2 2 := FieldAt.of (by kernel_rfl)
theorem fld126_0 : FieldAt XX.P 126 0 0 := FieldAt.of (by kernel_rfl)
theorem fld126_1 : FieldAt XX.P 126 1 6 := FieldAt.of (by kernel_rfl)
theorem zero3 : zeroP XX.P 3 = some (.int .i64 0) := by kernel_rfl
theorem zero4 : zeroP XX.P 4 = some (.bool false) := by kernel_rfl
theorem zero22 : zeroP XX.P 22 = some (.slice none 0 0) := by kernel_rfl
theorem zero29 : zeroP XX.P 29 = some (.agg #[.slice none 0 0, .slice none 0 0, .slice none 0 0, .slice none 0 0, .slice none 0 0, .int .i64 0]) := by kernel_rfl
theorem zero30 : zeroP XX.P 30 = some (.int .i64 0) := by kernel_rfl
theorem zero40 : zeroP XX.P 40 = some (.agg #[.int .i64 0, .int .i64 0, .int .i64 0]) := by kernel_rfl
theorem zero63 : zeroP XX.P 63 = some (.agg #[.bool false, .int .i64 0, .int .i64 0]) := by kernel_rfl
theorem zero64 : zeroP XX.P 64 = some (.slice none 0 0) := by kernel_rfl
theorem zero67 : zeroP XX.P 67 = some (.agg #[.int .i64 0, .int .i64 0, .int .i64 0, .int .i64 0, .int .i64 0]) := by kernel_rfl
theorem zero90 : zeroP XX.P 90 = some (.slice none 0 0) := by kernel_rfl
theorem zero92 : zeroP XX.P 92 = some (.agg #[.int .i64 0, .int .i64 0, .int .i64 0, .int .i64 0, .int .i64 0]) := by kernel_rfl
theorem zero95 : zeroP XX.P 95 = some (.agg #[.int .i64 0, .int .i64 0, .int .i64 0, .int .i64 0, .int .i64 0, .int .i64 0, .int .i64 0, .slice none 0 0, .slice none 0 0, .int .i64 0, .int .i64 0, .int .i64 0]) := by kernel_rfl
theorem zero100 : zeroP XX.P 100 = some (.agg #[.slice none 0 0, .slice none 0 0, .slice none 0 0, .slice none 0 0, .slice none 0 0, .int .i64 0, .slice none 0 0]) := by kernel_rfl
theorem zero104 : zeroP XX.P 104 = some (.agg #[.int .i64 0, .int .i64 0, .int .i64 0, .bool false]) := by kernel_rfl
theorem zero116 : zeroP XX.P 116 = some (.nilFunc) := by kernel_rfl
theorem zero120 : zeroP XX.P 120 = some (.agg #[.int .i64 0, .bool false, .int .i64 0]) := by kernel_rfl
theorem zero126 : zeroP XX.P 126 = some (.agg #[.slice none 0 0, .slice none 0 0, .slice none 0 0, .slice none 0 0, .slice none 0 0, .int .i64 0, .slice none 0 0]) := by kernel_rfl
theorem zero142 : zeroP XX.P 142 = some (.nilFunc) := by kernel_rfl
theorem bld63 : BuildAt XX.P 63 [.bool false, .int .i64 0, .int .i64 0] [(0, 1), (1, 1), (2, 1)] := ⟨_, _, zero63, rfl, Tryz.underlying63, by kernel_rfl⟩
theorem bld92 : BuildAt XX.P 92 [.int .i64 0, .int .i64 0, .int .i64 0, .int .i64 0, .int .i64 0] [(0, 1), (1, 1), (2, 1), (3, 1), (4, 1)] := ⟨_, _, zero92, rfl, Tryz.underlying92, by kernel_rfl⟩
theorem bld95 : BuildAt XX.P 95 [.int .i64 0, .int .i64 0, .int .i64 0, .int .i64 0, .int .i64 0, .int .i64 0, .int .i64 0, .slice none 0 0, .slice none 0 0, .int .i64 0, .int .i64 0, .int .i64 0] [(0, 1), (1, 1), (2, 5), (7, 1), (8, 1), (9, 1), (10, 1), (11, 1)] := ⟨_, _, zero95, rfl, Tryz.underlying95, by kernel_rfl⟩
theorem bld104 : BuildAt XX.P 104 [.int .i64 0, .int .i64 0, .int .i64 0, .bool false] [(0, 1), (1, 1), (2, 1), (3, 1)] := ⟨_, _, zero104, rfl, Tryz.underlying104, by kernel_rfl⟩
theorem bld120 : BuildAt XX.P 120 [.int .i64 0, .bool false, .int .i64 0] [(0, 1), (1, 1), (2, 1)] := ⟨_, _, zero120, rfl, Tryz.underlying120, by kernel_rfl⟩
theorem bld126 : BuildAt XX.P 126 [.slice none 0 0, .slice none 0 0, .slice none 0 0, .slice none 0 0, .slice none 0 0, .int .i64 0, .slice none 0 0] [(0, 6), (6, 1)] := ⟨_, _, zero126, rfl, Tryz.underlying126, by kernel_rfl⟩
theorem app22_22 : AppAt XX.P #[22, 22] 1 8 := ⟨3, .int .i64 0, by kernel_rfl⟩
theorem eqs63 (x y : FerryEntry) : EqOf XX.P 63 (rFerryEntry.sh () x) (rFerryEntry.sh () y) (eqFerryEntry x y) :=
  ⟨by kernel_rfl, eq_struct (d := 9999) (bs := [x.here == y.here, x.to_ == y.to_, x.age == y.age]) Tryz.underlying63 (by kernel_rfl) ⟨⟨by decide, _, _, part_cell (by kernel_rfl) rfl, part_cell (by kernel_rfl) rfl, eq_bool (by kernel_rfl)⟩, ⟨by decide, _, _, part_cell (by kernel_rfl) rfl, part_cell (by kernel_rfl) rfl, eq_int (by kernel_rfl)⟩, ⟨by decide, _, _, part_cell (by kernel_rfl) rfl, part_cell (by kernel_rfl) rfl, eq_int (by kernel_rfl)⟩, trivial⟩⟩
theorem eqs92 (x y : FerryMail) : EqOf XX.P 92 (rFerryMail.sh () x) (rFerryMail.sh () y) (eqFerryMail x y) :=
  ⟨by kernel_rfl, eq_struct (d := 9999) (bs := [x.msg == y.msg, x.place == y.place, x.from_ == y.from_, x.age == y.age, x.hops == y.hops]) Tryz.underlying92 (by kernel_rfl) ⟨⟨by decide, _, _, part_cell (by kernel_rfl) rfl, part_cell (by kernel_rfl) rfl, eq_int (by kernel_rfl)⟩, ⟨by decide, _, _, part_cell (by kernel_rfl) rfl, part_cell (by kernel_rfl) rfl, eq_int (by kernel_rfl)⟩, ⟨by decide, _, _, part_cell (by kernel_rfl) rfl, part_cell (by kernel_rfl) rfl, eq_int (by kernel_rfl)⟩, ⟨by decide, _, _, part_cell (by kernel_rfl) rfl, part_cell (by kernel_rfl) rfl, eq_int (by kernel_rfl)⟩, ⟨by decide, _, _, part_cell (by kernel_rfl) rfl, part_cell (by kernel_rfl) rfl, eq_int (by kernel_rfl)⟩, trivial⟩⟩
theorem eqs120 (x y : Spot_) : EqOf XX.P 120 (rSpot_.sh () x) (rSpot_.sh () y) (eqSpot_ x y) :=
  ⟨by kernel_rfl, eq_struct (d := 9999) (bs := [x.machine == y.machine, x.here == y.here, x.age == y.age]) Tryz.underlying120 (by kernel_rfl) ⟨⟨by decide, _, _, part_cell (by kernel_rfl) rfl, part_cell (by kernel_rfl) rfl, eq_int (by kernel_rfl)⟩, ⟨by decide, _, _, part_cell (by kernel_rfl) rfl, part_cell (by kernel_rfl) rfl, eq_bool (by kernel_rfl)⟩, ⟨by decide, _, _, part_cell (by kernel_rfl) rfl, part_cell (by kernel_rfl) rfl, eq_int (by kernel_rfl)⟩, trivial⟩⟩
theorem byts4 : bytesP XX.P 4 = some 1 := by kernel_rfl
theorem byts104 : bytesP XX.P 104 = some 32 := by kernel_rfl
theorem byts120 : bytesP XX.P 120 = some 24 := by kernel_rfl
theorem has14 : (XX.fns.get 14).isSome = true := by kernel_rfl
theorem has19 : (XX.fns.get 19).isSome = true := by kernel_rfl
theorem has21 : (XX.fns.get 21).isSome = true := by kernel_rfl
theorem has32 : (XX.fns.get 32).isSome = true := by kernel_rfl
theorem has33 : (XX.fns.get 33).isSome = true := by kernel_rfl
theorem has34 : (XX.fns.get 34).isSome = true := by kernel_rfl
theorem has35 : (XX.fns.get 35).isSome = true := by kernel_rfl
theorem has36 : (XX.fns.get 36).isSome = true := by kernel_rfl
theorem has51 : (XX.fns.get 51).isSome = true := by kernel_rfl
theorem has52 : (XX.fns.get 52).isSome = true := by kernel_rfl
theorem has53 : (XX.fns.get 53).isSome = true := by kernel_rfl
theorem has54 : (XX.fns.get 54).isSome = true := by kernel_rfl
theorem has55 : (XX.fns.get 55).isSome = true := by kernel_rfl
theorem has66 : (XX.fns.get 66).isSome = true := by kernel_rfl
theorem has67 : (XX.fns.get 67).isSome = true := by kernel_rfl
theorem has68 : (XX.fns.get 68).isSome = true := by kernel_rfl
theorem has69 : (XX.fns.get 69).isSome = true := by kernel_rfl
theorem has70 : (XX.fns.get 70).isSome = true := by kernel_rfl
theorem has71 : (XX.fns.get 71).isSome = true := by kernel_rfl
theorem has72 : (XX.fns.get 72).isSome = true := by kernel_rfl
theorem has73 : (XX.fns.get 73).isSome = true := by kernel_rfl
theorem has74 : (XX.fns.get 74).isSome = true := by kernel_rfl
theorem has78 : (XX.fns.get 78).isSome = true := by kernel_rfl
theorem has86 : (XX.fns.get 86).isSome = true := by kernel_rfl
theorem has92 : (XX.fns.get 92).isSome = true := by kernel_rfl
theorem has93 : (XX.fns.get 93).isSome = true := by kernel_rfl
theorem has94 : (XX.fns.get 94).isSome = true := by kernel_rfl
theorem has95 : (XX.fns.get 95).isSome = true := by kernel_rfl
theorem has96 : (XX.fns.get 96).isSome = true := by kernel_rfl
theorem has99 : (XX.fns.get 99).isSome = true := by kernel_rfl
theorem has105 : (XX.fns.get 105).isSome = true := by kernel_rfl
theorem has106 : (XX.fns.get 106).isSome = true := by kernel_rfl
theorem has109 : (XX.fns.get 109).isSome = true := by kernel_rfl
end Go.Proofs.YtbmbbcaaimehkaaGreat
end
end
section
set_option linter.unusedVariables false
noncomputable section
namespace Go.Abs
open Go.Lf
class AggN (P : Program) (t : TypeId) : Prop where
  out : isAggP P t = some false
class AggY (P : Program) (t : TypeId) : Prop where
  out : isAggP P t = some true
class SzF (P : Program) (t : TypeId) (n : outParam Nat) : Prop where
  out : sizeP P t = some n
class FldF (P : Program) (t : TypeId) (f : Nat) (o : outParam Nat) : Prop where
  out : FieldAt P t f o
class SlcF (P : Program) (t : TypeId) (e : outParam TypeId) : Prop where
  out : P.underlying t = some (.slice e)
class BolF (P : Program) (t : TypeId) : Prop where
  out : P.underlying t = some .bool
class ZroF (P : Program) (t : TypeId) (v : outParam Value) : Prop where
  out : zeroP P t = some v
theorem ia {v : Value} (h : isAny v = false) : isAny v = false := h
theorem evG' {fr : Fr} {t : Nat} {c : Bool} {v : Value} (h : fr.at t = cond c v undef) (ha : isAny v = false) (hc : c = true) : aev fr (.tmp t) = some v := evG h ha hc
section
variable {X : Ctx} {h : H} {fr : Fr} {ty : TypeId} {p' : String} {af : Array Edge} {g : Option (Nat × Bool)} {d : Option Tmp} {wm : Nat} {T : Nat → Prop} {h0 : H} {G Gr : List (Ast wm)}
theorem b_fld {x : Operand} {t : TypeId} {f off b o : Nat} [hf : FldF X.P t f off] (hx : aev fr x = some (.pointer (some ⟨b, o, none⟩))) : aop X h (aev fr) ⟨d, .fieldAddr t x f, ty, p', af, g⟩ = some (.val (.pointer (some ⟨b, o + off, none⟩)), .none) := av_fld hf.out hx
theorem b_ld {x : Operand} {t : TypeId} {b oo : Nat} {vs : List Value} {v : Value} [ht : AggN X.P t] (hx : aev fr x = some (.pointer (some ⟨b, oo, none⟩))) (hS : Sp wm T h0 G h) (pp : Pk G (bx wm b vs) Gr) (hv : vs[oo]? = some v) :
    aop X h (aev fr) ⟨d, .load t x, ty, p', af, g⟩ = some (.val v, .none) := av_ld ht.out hx (hS.atB pp) (Nat.zero_add _).symm hv
theorem b_ldA {x : Operand} {t : TypeId} {b oo sz : Nat} {vs ws : List Value} [ht : AggY X.P t] [hs : SzF X.P t sz] (hx : aev fr x = some (.pointer (some ⟨b, oo, none⟩))) (hS : Sp wm T h0 G h) (pp : Pk G (bx wm b vs) Gr) (hj : Nat.ble (oo + sz) vs.length = true) (hv : (vs.drop oo).take sz = ws) :
    aop X h (aev fr) ⟨d, .load t x, ty, p', af, g⟩ = some (.val (.agg ws.toArray), .none) := av_ldA ht.out hs.out hx (hS.atB pp) (Nat.zero_add _).symm hj hv
theorem b_box {dd : Tmp} {x : Operand} {t : TypeId} {v : Value} {vs : List Value} (hx : aev fr x = some v) (hS : Sp wm T h0 G h) (hv : v.cells.toList = vs) :
    HN X wm ⟨some dd, .box t x, ty, p', af, g⟩ fr h (fun v h' => ∃ b, h.size = b ∧ v = .pointer (some ⟨b, 0, none⟩) ∧ Sp wm T h0 (bx wm b vs :: G) h') := s_box hS hx hv
theorem b_alc {dd : Tmp} {t : TypeId} {v : Value} {vs : List Value} [hz : ZroF X.P t v] (hS : Sp wm T h0 G h) (hv : v.cells.toList = vs) :
    HN X wm ⟨some dd, .alloc t, ty, p', af, g⟩ fr h (fun v h' => ∃ b, h.size = b ∧ v = .pointer (some ⟨b, 0, none⟩) ∧ Sp wm T h0 (bx wm b vs :: G) h') := s_alc hS hz.out hv
theorem b_st {x y : Operand} {t : TypeId} {b o sz : Nat} {cs cs' vs : List Value} {v : Value} [hs : SzF X.P t sz] (hx : aev fr x = some (.pointer (some ⟨b, o, none⟩))) (hS : Sp wm T h0 G h) (pk : Pk G (bx wm b cs) Gr) (hy : aev fr y = some v)
    (hvs : v.cells.toList = vs) (hn : Nat.beq vs.length sz = true) (hl : Nat.ble (o + sz) cs.length = true) (hc : vs.all Value.oneCell' = true) (hv : splice cs o vs = cs') :
    HU X wm ⟨none, .store t x y, ty, p', af, g⟩ fr h (fun i => i = b) (fun h' => Sp wm T h0 (bx wm b cs' :: Gr) h') := s_st hS pk hs.out hx hy hvs hn hl hc hv
theorem b_len {x : Operand} {t e' : TypeId} {a : Option Addr} {mm cc : Nat} {dd : Nat} [hu : SlcF X.P t e'] (hx : aev fr x = some (.slice a mm cc)) :
    aop X h (aev fr) ⟨some dd, .call { callee := .builtin .len, args := #[x], argTypes := #[t] }, ty, p', af, g⟩ = some (.val (.int .i64 (mm : Int)), .none) := av_lenO hu.out hx rfl
end
section
variable {X : Ctx} {n wm : Nat} {rd : Option Nat} {ops : Array Oper} {l : List Oper} {fr : Fr} {ds : List Deferred} {h : H} {ty : TypeId} {p : String} {af : Array Edge} {g : Option (Nat × Bool)} {sf : ST} {m : Nat}
theorem WX.w2 {Q : Fr → H → Prop} {d : Nat} {op : Op} {v : Value} (hg : GuardOn ops ⟨some d, op, ty, p, af, g⟩ fr) (hd : Nat.blt d n = true) (hM : okM ops sf m ⟨some d, op, ty, p, af, g⟩ = true) (ha : aop X h (aev fr) ⟨some d, op, ty, p, af, g⟩ = some (.val v, .none)) (k : WX X n wm rd ops sf (m + 1) h l (Tr.set fr d v) Q) :
    WX X n wm rd ops sf m h (⟨some d, op, ty, p, af, g⟩ :: l) fr Q := WX.w hg hd ha k hM
theorem WX.gv2 {Q : Fr → H → Prop} {d : Nat} {op : Op} {c : Bool} {v : Value} (hg : GuardIs ops ⟨some d, op, ty, p, af, g⟩ fr c) (hd : Nat.blt d n = true) (hM : okM ops sf m ⟨some d, op, ty, p, af, g⟩ = true) (ha : c = true → aop X h (aev fr) ⟨some d, op, ty, p, af, g⟩ = some (.val v, .none)) (k : WX X n wm rd ops sf (m + 1) h l (Tr.set fr d (cond c v undef)) Q) :
    WX X n wm rd ops sf m h (⟨some d, op, ty, p, af, g⟩ :: l) fr Q := WX.gv hg hd ha k hM
end
structure Kp (q : Prop) : Prop where
  out : q
section
variable {X : Ctx} {n wm : Nat} {rd : Option Nat} {Q : XX → Fs → Prop}
theorem cn {c : Operand} {a b : Code} {t : Bool} {fr : Fr} {ds : List Deferred} {h : H} {α : Type} {x y r : α} (hL : (bif t then x else y) = r) (h1 : t = true → x = r → WC X n wm rd a ⟨fr, ds, h, none⟩ Q) (h2 : t = false → y = r → WC X n wm rd b ⟨fr, ds, h, none⟩ Q) (hc : aev fr c = some (.bool t) := by (first | exact evC rfl | (apply evT; (focus (repeat (first | with_reducible exact fh | ((with_reducible apply fs8); exact rfl) | ((with_reducible apply fs4); exact rfl) | ((with_reducible apply fs2); exact rfl) | ((with_reducible apply fskip); exact rfl) | with_reducible assumption)); done); (first | exact ia rfl | assumption)) | (apply evG'; (focus (repeat (first | with_reducible exact fh | ((with_reducible apply fs8); exact rfl) | ((with_reducible apply fs4); exact rfl) | ((with_reducible apply fs2); exact rfl) | ((with_reducible apply fskip); exact rfl) | with_reducible assumption)); done); (first | exact ia rfl | assumption); assumption) | fail)) : WC X n wm rd (.cond c a b) ⟨fr, ds, h, none⟩ Q :=
  WC.condN hc (fun e => h1 e (cond_tt e hL)) (fun e => h2 e (cond_ff e hL))
theorem rt {fn : Func} {fr : Fr} {h h0 : H} {T : Nat → Prop} {G G' : List (Ast wm)} {wr : Option Nat} {t : Tmp} {β : Type} {x r : β} {g : β → Value} (hL : some x = some r) (hT : T = Fps G) (hS : Sp wm T h0 G' h) (hr : fn.results.toList = [.tmp t] := by exact rfl) (hv : aev fr (.tmp t) = some (g x) := by (first | exact evC rfl | (apply evT; (focus (repeat (first | with_reducible exact fh | ((with_reducible apply fs8); exact rfl) | ((with_reducible apply fs4); exact rfl) | ((with_reducible apply fs2); exact rfl) | ((with_reducible apply fskip); exact rfl) | with_reducible assumption)); done); (first | exact ia rfl | assumption)) | (apply evG'; (focus (repeat (first | with_reducible exact fh | ((with_reducible apply fs8); exact rfl) | ((with_reducible apply fs4); exact rfl) | ((with_reducible apply fs2); exact rfl) | ((with_reducible apply fskip); exact rfl) | with_reducible assumption)); done); (first | exact ia rfl | assumption); assumption) | fail)) :
    RetK X fn (fun e h' => ∃ v, e = .ret v ∧ CP (fun v Gb => v = g r ∧ Gb = []) G h0 v h') .ret ⟨fr, [], h, wr⟩ := by
  cases hL; exact RetK.gen1 hr (ares_tmp hv ares_nil) ⟨_, ⟨rfl, rfl⟩, hT ▸ hS.only .n⟩
theorem bg {f : FuncId} {fn : Func} {c : Code} {args : List Value} {n : Nat} {K : Value → List (Ast wm) → Prop} {G : List (Ast wm)} {h : H} {fr : Fr} (hnt : fn.ntmps = n) (hwm : wm ≤ h.size) (hO : Hold G h)
    (k : ∀ T, T = Fps (wm := wm) G → Sp wm T h G h → WC X n wm none c ⟨fr, [], h, none⟩ (RetK X fn (fun e h' => ∃ v, e = .ret v ∧ CP K G h v h'))) (hf : X.fns.get f = some fn := by kernel_rfl) (hb : fn.body = some c := by exact rfl) (hn : args.length ≤ n := by simp)
    (hfr : frameOf args 0 .nil = fr := by (simp only [frameOf_cons, frameOf_nil, Nat.reduceAdd]; exact rfl)) : WR X f args.toArray wm h (CP K G h) := by
  subst hfr
  exact WF.begin hf hb hnt hn (k _ rfl (Sp.start hwm hO))
end
theorem lk {p : Prop} (h : p := by (first | exact evC rfl | (apply evT; (focus (repeat (first | with_reducible exact fh | ((with_reducible apply fs8); exact rfl) | ((with_reducible apply fs4); exact rfl) | ((with_reducible apply fs2); exact rfl) | ((with_reducible apply fskip); exact rfl) | with_reducible assumption)); done); (first | exact ia rfl | assumption)) | (apply evG'; (focus (repeat (first | with_reducible exact fh | ((with_reducible apply fs8); exact rfl) | ((with_reducible apply fs4); exact rfl) | ((with_reducible apply fs2); exact rfl) | ((with_reducible apply fskip); exact rfl) | with_reducible assumption)); done); (first | exact ia rfl | assumption); assumption) | fail)) : p := h
theorem lks {p : Prop} (h : p := by
  repeat (first | exact evs_nil | (apply evs_cons; (focus (first | exact evC rfl | (apply evT; (focus (repeat (first | with_reducible exact fh | ((with_reducible apply fs8); exact rfl) | ((with_reducible apply fs4); exact rfl) | ((with_reducible apply fs2); exact rfl) | ((with_reducible apply fskip); exact rfl) | with_reducible assumption)); done); (first | exact ia rfl | assumption)) | (apply evG'; (focus (repeat (first | with_reducible exact fh | ((with_reducible apply fs8); exact rfl) | ((with_reducible apply fs4); exact rfl) | ((with_reducible apply fs2); exact rfl) | ((with_reducible apply fskip); exact rfl) | with_reducible assumption)); done); (first | exact ia rfl | assumption); assumption) | fail); done)))
  done) : p := h
theorem las {p : Prop} (h : p := by
  repeat (first | with_reducible exact fh | ((with_reducible apply fs8); exact rfl) | ((with_reducible apply fs4); exact rfl) | ((with_reducible apply fs2); exact rfl) | ((with_reducible apply fskip); exact rfl) | with_reducible assumption | refine ⟨?_, ?_⟩)
  done) : p := h
theorem r1 {p q : Prop} (k : q) (h : Kp q → p := by
    intro k
    first
    | refine WO.nil ?_
    | refine SeqK.nrm ?_
    | refine WC.seq ?_
    | refine WC.region ?_
    | ((first | apply WO.w gN rfl | (apply WO.gv; (focus (first | (apply GuardIs.yes rfl rfl rfl; (focus (repeat (first | with_reducible exact fh | ((with_reducible apply fs8); exact rfl) | ((with_reducible apply fs4); exact rfl) | ((with_reducible apply fs2); exact rfl) | ((with_reducible apply fskip); exact rfl) | with_reducible assumption)); done)) | (apply GuardIs.no rfl rfl rfl; (focus (repeat (first | with_reducible exact fh | ((with_reducible apply fs8); exact rfl) | ((with_reducible apply fs4); exact rfl) | ((with_reducible apply fs2); exact rfl) | ((with_reducible apply fskip); exact rfl) | with_reducible assumption)); done)) | (apply GuardIs.yes2 rfl rfl rfl; (focus (repeat (first | with_reducible exact fh | ((with_reducible apply fs8); exact rfl) | ((with_reducible apply fs4); exact rfl) | ((with_reducible apply fs2); exact rfl) | ((with_reducible apply fskip); exact rfl) | with_reducible assumption)); done)) | (apply GuardIs.no2 rfl rfl rfl; (focus (repeat (first | with_reducible exact fh | ((with_reducible apply fs8); exact rfl) | ((with_reducible apply fs4); exact rfl) | ((with_reducible apply fs2); exact rfl) | ((with_reducible apply fskip); exact rfl) | with_reducible assumption)); done)) | fail); done); rfl; intro hg) | (apply WX.w2 gN; rfl; rfl) | (apply WX.gv2; (focus (first | (apply GuardIs.yes rfl rfl rfl; (focus (repeat (first | with_reducible exact fh | ((with_reducible apply fs8); exact rfl) | ((with_reducible apply fs4); exact rfl) | ((with_reducible apply fs2); exact rfl) | ((with_reducible apply fskip); exact rfl) | with_reducible assumption)); done)) | (apply GuardIs.no rfl rfl rfl; (focus (repeat (first | with_reducible exact fh | ((with_reducible apply fs8); exact rfl) | ((with_reducible apply fs4); exact rfl) | ((with_reducible apply fs2); exact rfl) | ((with_reducible apply fskip); exact rfl) | with_reducible assumption)); done)) | (apply GuardIs.yes2 rfl rfl rfl; (focus (repeat (first | with_reducible exact fh | ((with_reducible apply fs8); exact rfl) | ((with_reducible apply fs4); exact rfl) | ((with_reducible apply fs2); exact rfl) | ((with_reducible apply fskip); exact rfl) | with_reducible assumption)); done)) | (apply GuardIs.no2 rfl rfl rfl; (focus (repeat (first | with_reducible exact fh | ((with_reducible apply fs8); exact rfl) | ((with_reducible apply fs4); exact rfl) | ((with_reducible apply fs2); exact rfl) | ((with_reducible apply fskip); exact rfl) | with_reducible assumption)); done)) | fail); done); rfl; rfl; intro hg)); (focus (first
      | ((with_reducible apply av_move); (first | exact evC rfl | (apply evT; (focus (repeat (first | with_reducible exact fh | ((with_reducible apply fs8); exact rfl) | ((with_reducible apply fs4); exact rfl) | ((with_reducible apply fs2); exact rfl) | ((with_reducible apply fskip); exact rfl) | with_reducible assumption)); done); (first | exact ia rfl | assumption)) | (apply evG'; (focus (repeat (first | with_reducible exact fh | ((with_reducible apply fs8); exact rfl) | ((with_reducible apply fs4); exact rfl) | ((with_reducible apply fs2); exact rfl) | ((with_reducible apply fskip); exact rfl) | with_reducible assumption)); done); (first | exact ia rfl | assumption); assumption) | fail))
      | ((with_reducible apply b_ld); (focus (first | exact evC rfl | (apply evT; (focus (repeat (first | with_reducible exact fh | ((with_reducible apply fs8); exact rfl) | ((with_reducible apply fs4); exact rfl) | ((with_reducible apply fs2); exact rfl) | ((with_reducible apply fskip); exact rfl) | with_reducible assumption)); done); (first | exact ia rfl | assumption)) | (apply evG'; (focus (repeat (first | with_reducible exact fh | ((with_reducible apply fs8); exact rfl) | ((with_reducible apply fs4); exact rfl) | ((with_reducible apply fs2); exact rfl) | ((with_reducible apply fskip); exact rfl) | with_reducible assumption)); done); (first | exact ia rfl | assumption); assumption) | fail); done); assumption; (focus (first | exact k0 | exact k1 | exact k2 | exact k3 | exact k4 | exact k5 | exact k6 | exact k7 | (repeat (first | exact k7 | apply Pk.s))); done); rfl)
      | ((with_reducible apply b_fld); (first | exact evC rfl | (apply evT; (focus (repeat (first | with_reducible exact fh | ((with_reducible apply fs8); exact rfl) | ((with_reducible apply fs4); exact rfl) | ((with_reducible apply fs2); exact rfl) | ((with_reducible apply fskip); exact rfl) | with_reducible assumption)); done); (first | exact ia rfl | assumption)) | (apply evG'; (focus (repeat (first | with_reducible exact fh | ((with_reducible apply fs8); exact rfl) | ((with_reducible apply fs4); exact rfl) | ((with_reducible apply fs2); exact rfl) | ((with_reducible apply fskip); exact rfl) | with_reducible assumption)); done); (first | exact ia rfl | assumption); assumption) | fail))
      | ((with_reducible apply av_assign); (first | exact evC rfl | (apply evT; (focus (repeat (first | with_reducible exact fh | ((with_reducible apply fs8); exact rfl) | ((with_reducible apply fs4); exact rfl) | ((with_reducible apply fs2); exact rfl) | ((with_reducible apply fskip); exact rfl) | with_reducible assumption)); done); (first | exact ia rfl | assumption)) | (apply evG'; (focus (repeat (first | with_reducible exact fh | ((with_reducible apply fs8); exact rfl) | ((with_reducible apply fs4); exact rfl) | ((with_reducible apply fs2); exact rfl) | ((with_reducible apply fskip); exact rfl) | with_reducible assumption)); done); (first | exact ia rfl | assumption); assumption) | fail))
      | ((with_reducible apply av_bin); (focus (first | exact evC rfl | (apply evT; (focus (repeat (first | with_reducible exact fh | ((with_reducible apply fs8); exact rfl) | ((with_reducible apply fs4); exact rfl) | ((with_reducible apply fs2); exact rfl) | ((with_reducible apply fskip); exact rfl) | with_reducible assumption)); done); (first | exact ia rfl | assumption)) | (apply evG'; (focus (repeat (first | with_reducible exact fh | ((with_reducible apply fs8); exact rfl) | ((with_reducible apply fs4); exact rfl) | ((with_reducible apply fs2); exact rfl) | ((with_reducible apply fskip); exact rfl) | with_reducible assumption)); done); (first | exact ia rfl | assumption); assumption) | fail); done); (focus (first | exact evC rfl | (apply evT; (focus (repeat (first | with_reducible exact fh | ((with_reducible apply fs8); exact rfl) | ((with_reducible apply fs4); exact rfl) | ((with_reducible apply fs2); exact rfl) | ((with_reducible apply fskip); exact rfl) | with_reducible assumption)); done); (first | exact ia rfl | assumption)) | (apply evG'; (focus (repeat (first | with_reducible exact fh | ((with_reducible apply fs8); exact rfl) | ((with_reducible apply fs4); exact rfl) | ((with_reducible apply fs2); exact rfl) | ((with_reducible apply fskip); exact rfl) | with_reducible assumption)); done); (first | exact ia rfl | assumption); assumption) | fail); done); (first | with_reducible exact abin_addw | with_reducible exact abin_eql | with_reducible exact abin_lss | with_reducible exact abin_neq | with_reducible exact abin_subw | with_reducible exact abin_gtr | with_reducible exact abin_geq | with_reducible exact abin_leq | with_reducible exact abin_mulw | with_reducible exact abin_eqlB BolF.out | with_reducible exact abin_neqB BolF.out))
      | ((with_reducible apply b_ldA); (focus (first | exact evC rfl | (apply evT; (focus (repeat (first | with_reducible exact fh | ((with_reducible apply fs8); exact rfl) | ((with_reducible apply fs4); exact rfl) | ((with_reducible apply fs2); exact rfl) | ((with_reducible apply fskip); exact rfl) | with_reducible assumption)); done); (first | exact ia rfl | assumption)) | (apply evG'; (focus (repeat (first | with_reducible exact fh | ((with_reducible apply fs8); exact rfl) | ((with_reducible apply fs4); exact rfl) | ((with_reducible apply fs2); exact rfl) | ((with_reducible apply fskip); exact rfl) | with_reducible assumption)); done); (first | exact ia rfl | assumption); assumption) | fail); done); assumption; (focus (first | exact k0 | exact k1 | exact k2 | exact k3 | exact k4 | exact k5 | exact k6 | exact k7 | (repeat (first | exact k7 | apply Pk.s))); done); rfl; (focus simp only [Nat.zero_add, Nat.reduceAdd, List.drop_succ_cons, List.drop_zero, List.take_succ_cons, List.take_zero, List.take_nil]; rfl))
      | ((with_reducible apply b_len); (first | exact evC rfl | (apply evT; (focus (repeat (first | with_reducible exact fh | ((with_reducible apply fs8); exact rfl) | ((with_reducible apply fs4); exact rfl) | ((with_reducible apply fs2); exact rfl) | ((with_reducible apply fskip); exact rfl) | with_reducible assumption)); done); (first | exact ia rfl | assumption)) | (apply evG'; (focus (repeat (first | with_reducible exact fh | ((with_reducible apply fs8); exact rfl) | ((with_reducible apply fs4); exact rfl) | ((with_reducible apply fs2); exact rfl) | ((with_reducible apply fskip); exact rfl) | with_reducible assumption)); done); (first | exact ia rfl | assumption); assumption) | fail))
      | ((with_reducible apply av_extract); (focus (first | exact evC rfl | (apply evT; (focus (repeat (first | with_reducible exact fh | ((with_reducible apply fs8); exact rfl) | ((with_reducible apply fs4); exact rfl) | ((with_reducible apply fs2); exact rfl) | ((with_reducible apply fskip); exact rfl) | with_reducible assumption)); done); (first | exact ia rfl | assumption)) | (apply evG'; (focus (repeat (first | with_reducible exact fh | ((with_reducible apply fs8); exact rfl) | ((with_reducible apply fs4); exact rfl) | ((with_reducible apply fs2); exact rfl) | ((with_reducible apply fskip); exact rfl) | with_reducible assumption)); done); (first | exact ia rfl | assumption); assumption) | fail); done); rfl)
      | ((with_reducible apply av_not); (first | exact evC rfl | (apply evT; (focus (repeat (first | with_reducible exact fh | ((with_reducible apply fs8); exact rfl) | ((with_reducible apply fs4); exact rfl) | ((with_reducible apply fs2); exact rfl) | ((with_reducible apply fskip); exact rfl) | with_reducible assumption)); done); (first | exact ia rfl | assumption)) | (apply evG'; (focus (repeat (first | with_reducible exact fh | ((with_reducible apply fs8); exact rfl) | ((with_reducible apply fs4); exact rfl) | ((with_reducible apply fs2); exact rfl) | ((with_reducible apply fskip); exact rfl) | with_reducible assumption)); done); (first | exact ia rfl | assumption); assumption) | fail))
      | ((with_reducible apply av_nck); (first | exact evC rfl | (apply evT; (focus (repeat (first | with_reducible exact fh | ((with_reducible apply fs8); exact rfl) | ((with_reducible apply fs4); exact rfl) | ((with_reducible apply fs2); exact rfl) | ((with_reducible apply fskip); exact rfl) | with_reducible assumption)); done); (first | exact ia rfl | assumption)) | (apply evG'; (focus (repeat (first | with_reducible exact fh | ((with_reducible apply fs8); exact rfl) | ((with_reducible apply fs4); exact rfl) | ((with_reducible apply fs2); exact rfl) | ((with_reducible apply fskip); exact rfl) | with_reducible assumption)); done); (first | exact ia rfl | assumption); assumption) | fail))
      | ((with_reducible apply av_and); (focus (first | exact evC rfl | (apply evT; (focus (repeat (first | with_reducible exact fh | ((with_reducible apply fs8); exact rfl) | ((with_reducible apply fs4); exact rfl) | ((with_reducible apply fs2); exact rfl) | ((with_reducible apply fskip); exact rfl) | with_reducible assumption)); done); (first | exact ia rfl | assumption)) | (apply evG'; (focus (repeat (first | with_reducible exact fh | ((with_reducible apply fs8); exact rfl) | ((with_reducible apply fs4); exact rfl) | ((with_reducible apply fs2); exact rfl) | ((with_reducible apply fskip); exact rfl) | with_reducible assumption)); done); (first | exact ia rfl | assumption); assumption) | fail); done); (focus (apply evGU; (focus (repeat (first | with_reducible exact fh | ((with_reducible apply fs8); exact rfl) | ((with_reducible apply fs4); exact rfl) | ((with_reducible apply fs2); exact rfl) | ((with_reducible apply fskip); exact rfl) | with_reducible assumption)); done)); done); (first | exact evC rfl | (apply evT; (focus (repeat (first | with_reducible exact fh | ((with_reducible apply fs8); exact rfl) | ((with_reducible apply fs4); exact rfl) | ((with_reducible apply fs2); exact rfl) | ((with_reducible apply fskip); exact rfl) | with_reducible assumption)); done); (first | exact ia rfl | assumption)) | (apply evG'; (focus (repeat (first | with_reducible exact fh | ((with_reducible apply fs8); exact rfl) | ((with_reducible apply fs4); exact rfl) | ((with_reducible apply fs2); exact rfl) | ((with_reducible apply fskip); exact rfl) | with_reducible assumption)); done); (first | exact ia rfl | assumption); assumption) | fail))
      | ((with_reducible apply av_or); (focus (first | exact evC rfl | (apply evT; (focus (repeat (first | with_reducible exact fh | ((with_reducible apply fs8); exact rfl) | ((with_reducible apply fs4); exact rfl) | ((with_reducible apply fs2); exact rfl) | ((with_reducible apply fskip); exact rfl) | with_reducible assumption)); done); (first | exact ia rfl | assumption)) | (apply evG'; (focus (repeat (first | with_reducible exact fh | ((with_reducible apply fs8); exact rfl) | ((with_reducible apply fs4); exact rfl) | ((with_reducible apply fs2); exact rfl) | ((with_reducible apply fskip); exact rfl) | with_reducible assumption)); done); (first | exact ia rfl | assumption); assumption) | fail); done); (focus (first | exact evC rfl | (apply evT; (focus (repeat (first | with_reducible exact fh | ((with_reducible apply fs8); exact rfl) | ((with_reducible apply fs4); exact rfl) | ((with_reducible apply fs2); exact rfl) | ((with_reducible apply fskip); exact rfl) | with_reducible assumption)); done); (first | exact ia rfl | assumption)) | (apply evG'; (focus (repeat (first | with_reducible exact fh | ((with_reducible apply fs8); exact rfl) | ((with_reducible apply fs4); exact rfl) | ((with_reducible apply fs2); exact rfl) | ((with_reducible apply fskip); exact rfl) | with_reducible assumption)); done); (first | exact ia rfl | assumption); assumption) | fail); done); (apply evGU; (focus (repeat (first | with_reducible exact fh | ((with_reducible apply fs8); exact rfl) | ((with_reducible apply fs4); exact rfl) | ((with_reducible apply fs2); exact rfl) | ((with_reducible apply fskip); exact rfl) | with_reducible assumption)); done)))
      | fail)))
    | (apply WO.hu gN; (focus (first | (((with_reducible apply b_st)); (focus (first | exact evC rfl | (apply evT; (focus (repeat (first | with_reducible exact fh | ((with_reducible apply fs8); exact rfl) | ((with_reducible apply fs4); exact rfl) | ((with_reducible apply fs2); exact rfl) | ((with_reducible apply fskip); exact rfl) | with_reducible assumption)); done); (first | exact ia rfl | assumption)) | (apply evG'; (focus (repeat (first | with_reducible exact fh | ((with_reducible apply fs8); exact rfl) | ((with_reducible apply fs4); exact rfl) | ((with_reducible apply fs2); exact rfl) | ((with_reducible apply fskip); exact rfl) | with_reducible assumption)); done); (first | exact ia rfl | assumption); assumption) | fail); done); assumption; (focus (first | exact k0 | exact k1 | exact k2 | exact k3 | exact k4 | exact k5 | exact k6 | exact k7 | (repeat (first | exact k7 | apply Pk.s))); done); (focus (first | exact evC rfl | (apply evT; (focus (repeat (first | with_reducible exact fh | ((with_reducible apply fs8); exact rfl) | ((with_reducible apply fs4); exact rfl) | ((with_reducible apply fs2); exact rfl) | ((with_reducible apply fskip); exact rfl) | with_reducible assumption)); done); (first | exact ia rfl | assumption)) | (apply evG'; (focus (repeat (first | with_reducible exact fh | ((with_reducible apply fs8); exact rfl) | ((with_reducible apply fs4); exact rfl) | ((with_reducible apply fs2); exact rfl) | ((with_reducible apply fskip); exact rfl) | with_reducible assumption)); done); (first | exact ia rfl | assumption); assumption) | fail); done); (focus (first | (simp only [cells_int, cells_bool, cells_slice, cells_ptr, cells_map, cells_agg, cells_string, cells_func, cells_nilFunc, cells_nilIface, cells_iface]; exact rfl) | exact rfl)); exact rfl; exact rfl; exact rfl; (focus simp only [splice, List.take_succ_cons, List.take_zero, List.drop_succ_cons, List.drop_zero, List.cons_append, List.nil_append, List.append_nil, List.length_cons, List.length_nil, Nat.reduceAdd, Nat.zero_add, List.take_nil, List.drop_nil]; exact rfl)) | fail)))
    | (apply WO.hn gN rfl; (focus (first | (((with_reducible apply b_box)); (focus (first | exact evC rfl | (apply evT; (focus (repeat (first | with_reducible exact fh | ((with_reducible apply fs8); exact rfl) | ((with_reducible apply fs4); exact rfl) | ((with_reducible apply fs2); exact rfl) | ((with_reducible apply fskip); exact rfl) | with_reducible assumption)); done); (first | exact ia rfl | assumption)) | (apply evG'; (focus (repeat (first | with_reducible exact fh | ((with_reducible apply fs8); exact rfl) | ((with_reducible apply fs4); exact rfl) | ((with_reducible apply fs2); exact rfl) | ((with_reducible apply fskip); exact rfl) | with_reducible assumption)); done); (first | exact ia rfl | assumption); assumption) | fail); done); assumption; (focus (first | (simp only [cells_int, cells_bool, cells_slice, cells_ptr, cells_map, cells_agg, cells_string, cells_func, cells_nilFunc, cells_nilIface, cells_iface]; exact rfl) | exact rfl))) | (((with_reducible apply b_alc)); assumption; (focus (first | (simp only [cells_int, cells_bool, cells_slice, cells_ptr, cells_map, cells_agg, cells_string, cells_func, cells_nilFunc, cells_nilIface, cells_iface]; exact rfl) | exact rfl))) | fail)))
    | refine WC.skip ?_
    | refine WC.ret ?_
    | refine WC.block ?_
    | refine WC.exit ?_
    | refine SeqK.ret ?_
    | refine SeqK.exit ?_
    | refine BlkK.ret ?_
    | refine BlkK.nrm ?_
    | refine BlkK.here ?_
    | refine LoopK.exit ?_
    | refine LoopK.ret ?_
    | refine WX.nil ?_
    | fail
    exact k.out) : p := h ⟨k⟩
theorem r2 {p q : Prop} (k : q) (h : Kp q → p := by
    intro k
    iterate 2 (refine r1 ?_)
    exact k.out) : p := h ⟨k⟩
theorem r3 {p q : Prop} (k : q) (h : Kp q → p := by
    intro k
    iterate 3 (refine r1 ?_)
    exact k.out) : p := h ⟨k⟩
theorem r4 {p q : Prop} (k : q) (h : Kp q → p := by
    intro k
    iterate 4 (refine r1 ?_)
    exact k.out) : p := h ⟨k⟩
theorem r6 {p q : Prop} (k : q) (h : Kp q → p := by
    intro k
    iterate 6 (refine r1 ?_)
    exact k.out) : p := h ⟨k⟩
theorem r8 {p q : Prop} (k : q) (h : Kp q → p := by
    intro k
    iterate 8 (refine r1 ?_)
    exact k.out) : p := h ⟨k⟩
theorem r12 {p q : Prop} (k : q) (h : Kp q → p := by
    intro k
    iterate 12 (refine r1 ?_)
    exact k.out) : p := h ⟨k⟩
theorem r16 {p q : Prop} (k : q) (h : Kp q → p := by
    intro k
    iterate 16 (refine r1 ?_)
    exact k.out) : p := h ⟨k⟩
end Go.Abs
end
end
section
noncomputable section
namespace Go.Proofs.YtbmbbcaaimehkaaGreat
open Go.Abs Go.Lf
instance : AggN XX.P 3 := ⟨agg3⟩
instance : AggN XX.P 4 := ⟨agg4⟩
instance : AggN XX.P 22 := ⟨agg22⟩
instance : AggN XX.P 24 := ⟨agg24⟩
instance : AggN XX.P 25 := ⟨agg25⟩
instance : AggN XX.P 26 := ⟨agg26⟩
instance : AggN XX.P 27 := ⟨agg27⟩
instance : AggY XX.P 29 := ⟨agg29⟩
instance : AggN XX.P 30 := ⟨agg30⟩
instance : AggN XX.P 38 := ⟨agg38⟩
instance : AggY XX.P 40 := ⟨agg40⟩
instance : AggN XX.P 41 := ⟨agg41⟩
instance : AggY XX.P 63 := ⟨agg63⟩
instance : AggN XX.P 64 := ⟨agg64⟩
instance : AggN XX.P 65 := ⟨agg65⟩
instance : AggY XX.P 67 := ⟨agg67⟩
instance : AggN XX.P 90 := ⟨agg90⟩
instance : AggY XX.P 92 := ⟨agg92⟩
instance : AggN XX.P 93 := ⟨agg93⟩
instance : AggY XX.P 95 := ⟨agg95⟩
instance : AggY XX.P 104 := ⟨agg104⟩
instance : AggN XX.P 116 := ⟨agg116⟩
instance : AggY XX.P 120 := ⟨agg120⟩
instance : AggN XX.P 124 := ⟨agg124⟩
instance : SzF XX.P 3 1 := ⟨size3⟩
instance : SzF XX.P 4 1 := ⟨size4⟩
instance : SzF XX.P 22 1 := ⟨size22⟩
instance : SzF XX.P 24 1 := ⟨size24⟩
instance : SzF XX.P 25 1 := ⟨size25⟩
instance : SzF XX.P 26 1 := ⟨size26⟩
instance : SzF XX.P 27 1 := ⟨size27⟩
instance : SzF XX.P 29 6 := ⟨size29⟩
instance : SzF XX.P 30 1 := ⟨size30⟩
instance : SzF XX.P 40 3 := ⟨size40⟩
instance : SzF XX.P 41 1 := ⟨size41⟩
instance : SzF XX.P 63 3 := ⟨size63⟩
instance : SzF XX.P 64 1 := ⟨size64⟩
instance : SzF XX.P 67 5 := ⟨size67⟩
instance : SzF XX.P 90 1 := ⟨size90⟩
instance : SzF XX.P 92 5 := ⟨size92⟩
instance : SzF XX.P 95 12 := ⟨size95⟩
instance : SzF XX.P 104 4 := ⟨size104⟩
instance : SzF XX.P 116 1 := ⟨size116⟩
instance : SzF XX.P 120 3 := ⟨size120⟩
instance : FldF XX.P 29 0 0 := ⟨fld29_0⟩
instance : FldF XX.P 29 1 1 := ⟨fld29_1⟩
instance : FldF XX.P 29 2 2 := ⟨fld29_2⟩
instance : FldF XX.P 29 3 3 := ⟨fld29_3⟩
instance : FldF XX.P 29 4 4 := ⟨fld29_4⟩
instance : FldF XX.P 29 5 5 := ⟨fld29_5⟩
instance : FldF XX.P 40 0 0 := ⟨fld40_0⟩
instance : FldF XX.P 40 1 1 := ⟨fld40_1⟩
instance : FldF XX.P 40 2 2 := ⟨fld40_2⟩
instance : FldF XX.P 63 0 0 := ⟨fld63_0⟩
instance : FldF XX.P 63 1 1 := ⟨fld63_1⟩
instance : FldF XX.P 63 2 2 := ⟨fld63_2⟩
instance : FldF XX.P 67 0 0 := ⟨fld67_0⟩
instance : FldF XX.P 67 1 1 := ⟨fld67_1⟩
instance : FldF XX.P 67 2 2 := ⟨fld67_2⟩
instance : FldF XX.P 67 3 3 := ⟨fld67_3⟩
instance : FldF XX.P 67 4 4 := ⟨fld67_4⟩
instance : FldF XX.P 92 0 0 := ⟨fld92_0⟩
instance : FldF XX.P 92 1 1 := ⟨fld92_1⟩
instance : FldF XX.P 92 2 2 := ⟨fld92_2⟩
instance : FldF XX.P 92 3 3 := ⟨fld92_3⟩
instance : FldF XX.P 92 4 4 := ⟨fld92_4⟩
instance : FldF XX.P 95 0 0 := ⟨fld95_0⟩
instance : FldF XX.P 95 1 1 := ⟨fld95_1⟩
instance : FldF XX.P 95 2 2 := ⟨fld95_2⟩
instance : FldF XX.P 95 3 7 := ⟨fld95_3⟩
instance : FldF XX.P 95 4 8 := ⟨fld95_4⟩
instance : FldF XX.P 95 5 9 := ⟨fld95_5⟩
instance : FldF XX.P 95 6 10 := ⟨fld95_6⟩
instance : FldF XX.P 95 7 11 := ⟨fld95_7⟩
instance : FldF XX.P 100 0 0 := ⟨fld100_0⟩
instance : FldF XX.P 100 1 6 := ⟨fld100_1⟩
instance : FldF XX.P 104 0 0 := ⟨fld104_0⟩
instance : FldF XX.P 104 1 1 := ⟨fld104_1⟩
instance : FldF XX.P 104 2 2 := ⟨fld104_2⟩
instance : FldF XX.P 104 3 3 := ⟨fld104_3⟩
instance : FldF XX.P 120 0 0 := ⟨fld120_0⟩
instance : FldF XX.P 120 1 1 := ⟨fld120_1⟩
instance : FldF XX.P 120 2 2 := ⟨fld120_2⟩
instance : FldF XX.P 126 0 0 := ⟨fld126_0⟩
instance : FldF XX.P 126 1 6 := ⟨fld126_1⟩
instance : SlcF XX.P 22 3 := ⟨und22⟩
instance : SlcF XX.P 24 22 := ⟨und24⟩
instance : SlcF XX.P 25 64 := ⟨und25⟩
instance : SlcF XX.P 26 90 := ⟨und26⟩
instance : SlcF XX.P 27 95 := ⟨und27⟩
instance : SlcF XX.P 41 67 := ⟨und41⟩
instance : SlcF XX.P 46 40 := ⟨und46⟩
instance : SlcF XX.P 64 63 := ⟨und64⟩
instance : SlcF XX.P 90 92 := ⟨und90⟩
instance : SlcF XX.P 102 104 := ⟨und102⟩
instance : SlcF XX.P 110 4 := ⟨und110⟩
instance : SlcF XX.P 124 120 := ⟨und124⟩
instance : BolF XX.P 4 := ⟨und4⟩
instance : ZroF XX.P 3 (.int .i64 0) := ⟨zero3⟩
instance : ZroF XX.P 4 (.bool false) := ⟨zero4⟩
instance : ZroF XX.P 22 (.slice none 0 0) := ⟨zero22⟩
instance : ZroF XX.P 29 (.agg #[.slice none 0 0, .slice none 0 0, .slice none 0 0, .slice none 0 0, .slice none 0 0, .int .i64 0]) := ⟨zero29⟩
instance : ZroF XX.P 30 (.int .i64 0) := ⟨zero30⟩
instance : ZroF XX.P 40 (.agg #[.int .i64 0, .int .i64 0, .int .i64 0]) := ⟨zero40⟩
instance : ZroF XX.P 63 (.agg #[.bool false, .int .i64 0, .int .i64 0]) := ⟨zero63⟩
instance : ZroF XX.P 64 (.slice none 0 0) := ⟨zero64⟩
instance : ZroF XX.P 67 (.agg #[.int .i64 0, .int .i64 0, .int .i64 0, .int .i64 0, .int .i64 0]) := ⟨zero67⟩
instance : ZroF XX.P 90 (.slice none 0 0) := ⟨zero90⟩
instance : ZroF XX.P 92 (.agg #[.int .i64 0, .int .i64 0, .int .i64 0, .int .i64 0, .int .i64 0]) := ⟨zero92⟩
instance : ZroF XX.P 95 (.agg #[.int .i64 0, .int .i64 0, .int .i64 0, .int .i64 0, .int .i64 0, .int .i64 0, .int .i64 0, .slice none 0 0, .slice none 0 0, .int .i64 0, .int .i64 0, .int .i64 0]) := ⟨zero95⟩
instance : ZroF XX.P 100 (.agg #[.slice none 0 0, .slice none 0 0, .slice none 0 0, .slice none 0 0, .slice none 0 0, .int .i64 0, .slice none 0 0]) := ⟨zero100⟩
instance : ZroF XX.P 104 (.agg #[.int .i64 0, .int .i64 0, .int .i64 0, .bool false]) := ⟨zero104⟩
instance : ZroF XX.P 116 (.nilFunc) := ⟨zero116⟩
instance : ZroF XX.P 120 (.agg #[.int .i64 0, .bool false, .int .i64 0]) := ⟨zero120⟩
instance : ZroF XX.P 126 (.agg #[.slice none 0 0, .slice none 0 0, .slice none 0 0, .slice none 0 0, .slice none 0 0, .int .i64 0, .slice none 0 0]) := ⟨zero126⟩
instance : ZroF XX.P 142 (.nilFunc) := ⟨zero142⟩
end Go.Proofs.YtbmbbcaaimehkaaGreat
end
end
section
set_option linter.unusedVariables false
set_option linter.unusedSimpArgs false
namespace Go.Proofs.YtbmbbcaaimehkaaGreat
open Go.Lf
def f19_b3 (p0 : FerryWorld) : Int → (Int → Option Bool) → Option Bool := fun v46 next48 =>
  (bif decide (v46 < (p0.wire.length : Int)) then (geti p0.wire v46).bind fun x49 => (bif ((decide ((x49.places.length : Int) > 20)) || (decide ((x49.ages.length : Int) > 20))) then some false else next48 (w64 (v46 + 1))) else some true)
def f19_b2 (F : Nat) (p0 : FerryWorld) : Int → (Int → Option Bool) → Option Bool := fun v34 next36 =>
  (bif decide (v34 < (p0.held.length : Int)) then (geti p0.held v34).bind fun x37 => (bif decide ((x37.length : Int) > 100) then some false else next36 (w64 (v34 + 1))) else loop F (f19_b3 p0) 0)
def f19_b1 (F : Nat) (p0 : FerryWorld) : Int → (Int → Option Bool) → Option Bool := fun v21 next23 =>
  (bif decide (v21 < (p0.entries.length : Int)) then (geti p0.entries v21).bind fun x24 => (bif decide ((x24.length : Int) > 20) then some false else next23 (w64 (v21 + 1))) else loop F (f19_b2 F p0) 0)
def f19_b0 (F : Nat) (p0 : FerryWorld) : Int → (Int → Option Bool) → Option Bool := fun v8 next10 =>
  (bif decide (v8 < (p0.boxes.length : Int)) then (geti p0.boxes v8).bind fun x11 => (bif decide ((x11.length : Int) > 100) then some false else next10 (w64 (v8 + 1))) else loop F (f19_b1 F p0) 0)
def f19L (F : Nat) (p0 : FerryWorld) : Option Bool :=
  (bif (((((decide ((p0.in_.length : Int) > 20)) || (decide ((p0.boxes.length : Int) > 20))) || (decide ((p0.entries.length : Int) > 20))) || (decide ((p0.held.length : Int) > 20))) || (decide ((p0.wire.length : Int) > 200))) then some false else loop F (f19_b0 F p0) 0)
end Go.Proofs.YtbmbbcaaimehkaaGreat
end
section
set_option linter.unusedVariables false
set_option linter.unusedSimpArgs false
set_option maxRecDepth 20000
noncomputable section
namespace Go.Proofs.YtbmbbcaaimehkaaGreat
open Go.Abs Go.Lf
theorem f19_wf {F : Nat} {wm : Nat} {h : H} {p0 : FerryWorld} {pa0_0 : Option Addr} {pc0_0 : Nat} {pa0_1 : Option Addr} {pc0_1 : Nat} {pa0_2 : Option Addr} {pc0_2 : Nat} {pa0_3 : Option Addr} {pc0_3 : Nat} {pa0_4 : Option Addr} {pc0_4 : Nat} {r : Bool} (hwm : wm ≤ h.size) (hsp0_0 : Sl (rInt .i64) wm h pa0_0 pc0_0 p0.in_) (hsp0_1 : Sl (rSl (rInt .i64)) wm h pa0_1 pc0_1 p0.boxes) (hsp0_2 : Sl (rSl rFerryEntry) wm h pa0_2 pc0_2 p0.entries) (hsp0_3 : Sl (rSl rFerryMail) wm h pa0_3 pc0_3 p0.held) (hsp0_4 : Sl rFerryLetter wm h pa0_4 pc0_4 p0.wire) (hL : f19L F p0 = some r) :
    WR XX 19 #[.agg [.slice pa0_0 p0.in_.length pc0_0, .slice pa0_1 p0.boxes.length pc0_1, .slice pa0_2 p0.entries.length pc0_2, .slice pa0_3 p0.held.length pc0_3, .slice pa0_4 p0.wire.length pc0_4, .int .i64 p0.said].toArray] wm h (CP (fun (v : Value) (Gb : List (Ast wm)) => v = .bool r ∧ Gb = []) [] h) := by
 refine bg Tryz.ntmps19 hwm Hold.nil ?_
 intro T hT hS
 unfold f19L at hL
 refine r3 ?_
 rintro _ h2 ⟨b1, eb1, rfl, hS⟩
 refine r16 ?_
 refine r16 ?_
 refine r4 ?_
 refine cn hL ?_ ?_
 · intro hc hL
   refine r6 ?_
   refine r1 ?_
   exact rt hL hT hS
 · intro hc hL
   refine r12 ?_
   refine WC.loop (WL.lift hL (fun (v8 : Int) (s : Fs) => ∃ (fr4 : Fr) (h3 : H), s = ⟨fr4, [], h3, none⟩ ∧ Sp wm T h [bx wm b1 [.slice pa0_0 p0.in_.length pc0_0, .slice pa0_1 p0.boxes.length pc0_1, .slice pa0_2 p0.entries.length pc0_2, .slice pa0_3 p0.held.length pc0_3, .slice pa0_4 p0.wire.length pc0_4, .int .i64 p0.said]] h3 ∧ fr4.at 1 = .pointer (some ⟨b1, 0, none⟩) ∧ fr4.at 40 = .slice pa0_1 p0.boxes.length pc0_1 ∧ fr4.at 41 = .int .i64 (p0.boxes.length : Int) ∧ fr4.at 42 = .int .i64 v8) ⟨_, _, rfl, hS.only (.c k0 .n), las⟩ ?_)
   clear hL hS
   rintro next10 v8 s hnext10 hL ⟨fr4, h3, rfl, hS, e5, e6, e7, e9⟩
   dsimp only [f19_b0] at hL
   refine r6 ?_
   refine cn hL ?_ ?_
   · intro hc hL
     refine r6 ?_
     obtain ⟨x11, hx11, hL⟩ := bind_some hL
     obtain ⟨b12, o13, ⟨a14, c15⟩, hab12, hAb12, hBb12, hFb12⟩ := Sl.at_ hsp0_1 hx11
     refine WO.w gN rfl (av_ixn und24 size22 lk lk rfl hab12 hx11) ?_
     have hsa14 : Sl (rInt .i64) wm h a14 c15 x11 := hFb12
     refine WO.w gN rfl (av_ld agg22 (evT fh rfl) (At.fz hS.fz hBb12 hAb12) (j := 0) rfl (v := .slice a14 x11.length c15) rfl) ?_
     refine r8 ?_
     refine r2 ?_
     refine cn hL ?_ ?_
     · intro hc hL
       refine r8 ?_
       refine r3 ?_
       exact rt hL hT hS
     · intro hc hL
       refine r6 ?_
       refine r1 ?_
       exact LoopK.nrm (hnext10 _ _ hL ⟨_, _, rfl, hS.only (.c k0 .n), las⟩)
   · intro hc hL
     refine r12 ?_
     refine r3 ?_
     refine WC.loop (WL.lift hL (fun (v21 : Int) (s : Fs) => ∃ (fr17 : Fr) (h16 : H), s = ⟨fr17, [], h16, none⟩ ∧ Sp wm T h [bx wm b1 [.slice pa0_0 p0.in_.length pc0_0, .slice pa0_1 p0.boxes.length pc0_1, .slice pa0_2 p0.entries.length pc0_2, .slice pa0_3 p0.held.length pc0_3, .slice pa0_4 p0.wire.length pc0_4, .int .i64 p0.said]] h16 ∧ fr17.at 1 = .pointer (some ⟨b1, 0, none⟩) ∧ fr17.at 51 = .slice pa0_2 p0.entries.length pc0_2 ∧ fr17.at 52 = .int .i64 (p0.entries.length : Int) ∧ fr17.at 53 = .int .i64 v21) ⟨_, _, rfl, hS.only (.c k0 .n), las⟩ ?_)
     clear hL hS
     rintro next23 v21 s hnext23 hL ⟨fr17, h16, rfl, hS, e18, e19, e20, e22⟩
     dsimp only [f19_b1] at hL
     refine r6 ?_
     refine cn hL ?_ ?_
     · intro hc hL
       refine r6 ?_
       obtain ⟨x24, hx24, hL⟩ := bind_some hL
       obtain ⟨b25, o26, ⟨a27, c28⟩, hab25, hAb25, hBb25, hFb25⟩ := Sl.at_ hsp0_2 hx24
       refine WO.w gN rfl (av_ixn und25 size64 lk lk rfl hab25 hx24) ?_
       have hsa27 : Sl rFerryEntry wm h a27 c28 x24 := hFb25
       refine WO.w gN rfl (av_ld agg64 (evT fh rfl) (At.fz hS.fz hBb25 hAb25) (j := 0) rfl (v := .slice a27 x24.length c28) rfl) ?_
       refine r8 ?_
       refine r2 ?_
       refine cn hL ?_ ?_
       · intro hc hL
         refine r8 ?_
         refine r3 ?_
         exact rt hL hT hS
       · intro hc hL
         refine r6 ?_
         refine r1 ?_
         exact LoopK.nrm (hnext23 _ _ hL ⟨_, _, rfl, hS.only (.c k0 .n), las⟩)
     · intro hc hL
       refine r12 ?_
       refine r3 ?_
       refine WC.loop (WL.lift hL (fun (v34 : Int) (s : Fs) => ∃ (fr30 : Fr) (h29 : H), s = ⟨fr30, [], h29, none⟩ ∧ Sp wm T h [bx wm b1 [.slice pa0_0 p0.in_.length pc0_0, .slice pa0_1 p0.boxes.length pc0_1, .slice pa0_2 p0.entries.length pc0_2, .slice pa0_3 p0.held.length pc0_3, .slice pa0_4 p0.wire.length pc0_4, .int .i64 p0.said]] h29 ∧ fr30.at 1 = .pointer (some ⟨b1, 0, none⟩) ∧ fr30.at 62 = .slice pa0_3 p0.held.length pc0_3 ∧ fr30.at 63 = .int .i64 (p0.held.length : Int) ∧ fr30.at 64 = .int .i64 v34) ⟨_, _, rfl, hS.only (.c k0 .n), las⟩ ?_)
       clear hL hS
       rintro next36 v34 s hnext36 hL ⟨fr30, h29, rfl, hS, e31, e32, e33, e35⟩
       dsimp only [f19_b2] at hL
       refine r6 ?_
       refine cn hL ?_ ?_
       · intro hc hL
         refine r6 ?_
         obtain ⟨x37, hx37, hL⟩ := bind_some hL
         obtain ⟨b38, o39, ⟨a40, c41⟩, hab38, hAb38, hBb38, hFb38⟩ := Sl.at_ hsp0_3 hx37
         refine WO.w gN rfl (av_ixn und26 size90 lk lk rfl hab38 hx37) ?_
         have hsa40 : Sl rFerryMail wm h a40 c41 x37 := hFb38
         refine WO.w gN rfl (av_ld agg90 (evT fh rfl) (At.fz hS.fz hBb38 hAb38) (j := 0) rfl (v := .slice a40 x37.length c41) rfl) ?_
         refine r8 ?_
         refine r2 ?_
         refine cn hL ?_ ?_
         · intro hc hL
           refine r8 ?_
           refine r3 ?_
           exact rt hL hT hS
         · intro hc hL
           refine r6 ?_
           refine r1 ?_
           exact LoopK.nrm (hnext36 _ _ hL ⟨_, _, rfl, hS.only (.c k0 .n), las⟩)
       · intro hc hL
         refine r12 ?_
         refine r3 ?_
         refine WC.loop (WL.lift hL (fun (v46 : Int) (s : Fs) => ∃ (fr43 : Fr) (h42 : H), s = ⟨fr43, [], h42, none⟩ ∧ Sp wm T h [] h42 ∧ fr43.at 73 = .slice pa0_4 p0.wire.length pc0_4 ∧ fr43.at 74 = .int .i64 (p0.wire.length : Int) ∧ fr43.at 75 = .int .i64 v46) ⟨_, _, rfl, hS.only .n, las⟩ ?_)
         clear hL hS
         rintro next48 v46 s hnext48 hL ⟨fr43, h42, rfl, hS, e44, e45, e47⟩
         dsimp only [f19_b3] at hL
         refine r6 ?_
         refine cn hL ?_ ?_
         · intro hc hL
           refine r6 ?_
           obtain ⟨x49, hx49, hL⟩ := bind_some hL
           obtain ⟨b50, o51, ⟨⟨a52, c53⟩, ⟨a54, c55⟩⟩, hab50, hAb50, hBb50, hFb50⟩ := Sl.at_ hsp0_4 hx49
           refine WO.w gN rfl (av_ixn und27 size95 lk lk rfl hab50 hx49) ?_
           have hsa52 : Sl (rInt .i64) wm h a52 c53 x49.places := hFb50.1
           have hsa54 : Sl (rInt .i64) wm h a54 c55 x49.ages := hFb50.2
           refine WO.w gN rfl (av_ldA agg95 size95 (evT fh rfl) (At.fz hS.fz hBb50 hAb50) (j := 0) rfl rfl (ws := [.int .i64 x49.kind, .int .i64 x49.to_, .int .i64 x49.mail.msg, .int .i64 x49.mail.place, .int .i64 x49.mail.from_, .int .i64 x49.mail.age, .int .i64 x49.mail.hops, .slice a52 x49.places.length c53, .slice a54 x49.ages.length c55, .int .i64 x49.place, .int .i64 x49.at_, .int .i64 x49.age]) rfl) ?_
           refine r1 ?_
           rintro _ h57 ⟨b56, eb56, rfl, hS⟩
           refine r1 ?_
           rintro h58 hS
           refine r16 ?_
           refine cn hL ?_ ?_
           · intro hc hL
             refine r8 ?_
             refine r3 ?_
             exact rt hL hT hS
           · intro hc hL
             refine r6 ?_
             refine r1 ?_
             exact LoopK.nrm (hnext48 _ _ hL ⟨_, _, rfl, hS.only .n, las⟩)
         · intro hc hL
           refine r8 ?_
           refine r3 ?_
           exact rt hL hT hS
end Go.Proofs.YtbmbbcaaimehkaaGreat
end
end
section
set_option linter.unusedVariables false
set_option linter.unusedSimpArgs false
namespace Go.Proofs.YtbmbbcaaimehkaaGreat
open Go.Lf
def f32L (p0 : Int) (p1 : Int) : Option Bool :=
  some ((decide (p0 ≥ 0)) && (decide (p0 < p1)))
end Go.Proofs.YtbmbbcaaimehkaaGreat
end
section
set_option linter.unusedVariables false
set_option linter.unusedSimpArgs false
set_option maxRecDepth 20000
noncomputable section
namespace Go.Proofs.YtbmbbcaaimehkaaGreat
open Go.Abs Go.Lf
theorem f32_wf {wm : Nat} {h : H} {p0 : Int} {p1 : Int}  {r : Bool} (hwm : wm ≤ h.size)  (hL : f32L p0 p1 = some r) :
    WR XX 32 #[.int .i64 p0, .int .i64 p1] wm h (CP (fun (v : Value) (Gb : List (Ast wm)) => v = .bool r ∧ Gb = []) [] h) := by
 refine bg Tryz.ntmps32 hwm Hold.nil ?_
 intro T hT hS
 unfold f32L at hL
 refine r16 ?_
 refine r2 ?_
 exact rt hL hT hS
theorem f32_ok {h : H} {p0 : Int} {p1 : Int}  {r : Bool}  (hL : f32L p0 p1 = some r) : Pure XX 32 #[.int .i64 p0, .int .i64 p1] h (.bool r) :=
 WR.pureC rfl (f32_wf (Nat.le_refl _)  hL)
end Go.Proofs.YtbmbbcaaimehkaaGreat
end
end
section
set_option linter.unusedVariables false
set_option linter.unusedSimpArgs false
namespace Go.Proofs.YtbmbbcaaimehkaaGreat
open Go.Lf
def f52_j0 (v16 : Int) (next22 : (Int × Int × Int × Int × Int × Bool → Option (Spot × Bool))) : Int × Int × Int × Int × Bool → Option (Spot × Bool) := fun (v29, v33, v34, v35, v36) =>
  next22 (v29, w64 (v16 + 1), v33, v34, v35, v36)
def f52_j1 (v94 : Int) (next100 : (Int × Int × Int × Int × Int × Bool → Option (Spot × Bool))) : Int × Int × Int × Int × Bool → Option (Spot × Bool) := fun (v106, v116, v117, v118, v119) =>
  next100 (v106, w64 (v94 + 1), v116, v117, v118, v119)
def f52_b2 (p1 : Int) (v63 : Int) (next69 : (Int × Int × Int × Int × Int × Bool → Option (Spot × Bool))) (x70 : FerryLetter) : Int × Int × Int × Int × Int × Bool → (Int × Int × Int × Int × Int × Bool → Option (Spot × Bool)) → Option (Spot × Bool) := fun (v85, v94, v96, v97, v98, v99) next100 =>
  (bif decide (v94 < (x70.places.length : Int)) then (geti x70.places v94).bind fun x120 => (bif ((x120 == p1) && (decide (v94 < (x70.ages.length : Int)))) then (geti x70.ages v94).bind fun x123 => (f52_j1 v94 next100) (w64 (v85 + 1), x70.to_, x123, v63, false) else (f52_j1 v94 next100) (v85, v96, v97, v98, v99)) else next69 (v85, w64 (v63 + 1), v96, v97, v98, v99))
def f52_b1 (F : Nat) (p0 : FerryWorld) (p1 : Int) : Int × Int × Int × Int × Int × Bool → (Int × Int × Int × Int × Int × Bool → Option (Spot × Bool)) → Option (Spot × Bool) := fun (v59, v63, v65, v66, v67, v68) next69 =>
  (bif decide (v63 < (p0.wire.length : Int)) then (geti p0.wire v63).bind fun x70 => loop F (f52_b2 p1 v63 next69 x70) (v59, 0, v65, v66, v67, v68) else some ((Spot.mk v65 v66 v67 v68), (v59 == 1)))
def f52_b0 (F : Nat) (p0 : FerryWorld) (p1 : Int) : Int × Int × Int × Int × Int × Bool → (Int × Int × Int × Int × Int × Bool → Option (Spot × Bool)) → Option (Spot × Bool) := fun (v13, v16, v18, v19, v20, v21) next22 =>
  (bif decide (v16 < (p0.entries.length : Int)) then (geti p0.entries v16).bind fun x37 => (geti x37 p1).bind fun x42 => (bif x42.here then (geti p0.entries v16).bind fun x45 => (geti x45 p1).bind fun x50 => (f52_j0 v16 next22) (w64 (v13 + 1), v16, x50.age, (-1), true) else (f52_j0 v16 next22) (v13, v18, v19, v20, v21)) else loop F (f52_b1 F p0 p1) (v13, 0, v18, v19, v20, v21))
def f52L (F : Nat) (p0 : FerryWorld) (p1 : Int) : Option (Spot × Bool) :=
  loop F (f52_b0 F p0 p1) (0, 0, 0, 0, 0, false)
def f53L (p0 : FerryWorld) (p1 : Int) (p2 : Spot) (p3 : Int) (p4 : Int) : Option Bool :=
  (bif ((((decide (p3 < 0)) || (decide (p3 ≥ (p0.entries.length : Int)))) || (decide (p4 < 0))) || (decide (p4 > p2.age))) then some false else (bif (p4 == p2.age) then some (p2.at_ == p3) else (geti p0.entries p3).bind fun x5 => (geti x5 p1).bind fun x10 => some (decide (x10.age > p4))))
def f54L (p0 : FerryWorld) (p1 : (List Spot)) (p2 : FerryMail) (p3 : Int) (p4 : Bool) : Option Bool :=
  (bif ((((((((decide (p2.place < 0)) || (decide (p2.place ≥ (p0.in_.length : Int)))) || (decide (p2.from_ < 0))) || (decide (p2.from_ ≥ (p0.entries.length : Int)))) || (decide (p2.age < 0))) || (decide (p2.age > 30))) || (decide (p2.hops < 1))) || (decide (p2.hops > (w64 (p2.age + 1))))) then some false else (geti p1 p2.place).bind fun x5 => (bif p4 then some (((!x5.is) && (x5.at_ == p3)) && (x5.age == p2.age)) else (f53L p0 p2.place x5 p3 p2.age).bind fun x11 => some x11))
end Go.Proofs.YtbmbbcaaimehkaaGreat
end
section
set_option linter.unusedVariables false
set_option linter.unusedSimpArgs false
set_option maxRecDepth 20000
noncomputable section
namespace Go.Proofs.YtbmbbcaaimehkaaGreat
open Go.Abs Go.Lf
theorem f52_wf {F : Nat} {wm : Nat} {h : H} {p0 : FerryWorld} {p1 : Int} {pa0_0 : Option Addr} {pc0_0 : Nat} {pa0_1 : Option Addr} {pc0_1 : Nat} {pa0_2 : Option Addr} {pc0_2 : Nat} {pa0_3 : Option Addr} {pc0_3 : Nat} {pa0_4 : Option Addr} {pc0_4 : Nat} {r : (Spot × Bool)} (hwm : wm ≤ h.size) (hsp0_0 : Sl (rInt .i64) wm h pa0_0 pc0_0 p0.in_) (hsp0_1 : Sl (rSl (rInt .i64)) wm h pa0_1 pc0_1 p0.boxes) (hsp0_2 : Sl (rSl rFerryEntry) wm h pa0_2 pc0_2 p0.entries) (hsp0_3 : Sl (rSl rFerryMail) wm h pa0_3 pc0_3 p0.held) (hsp0_4 : Sl rFerryLetter wm h pa0_4 pc0_4 p0.wire) (hL : f52L F p0 p1 = some r) :
    WR XX 52 #[.agg [.slice pa0_0 p0.in_.length pc0_0, .slice pa0_1 p0.boxes.length pc0_1, .slice pa0_2 p0.entries.length pc0_2, .slice pa0_3 p0.held.length pc0_3, .slice pa0_4 p0.wire.length pc0_4, .int .i64 p0.said].toArray, .int .i64 p1] wm h (CP (fun (v : Value) (Gb : List (Ast wm)) => v = .tuple [.agg [.int .i64 r.1.at_, .int .i64 r.1.age, .int .i64 r.1.letter, .bool r.1.is].toArray, .bool r.2].toArray ∧ Gb = []) [] h) := by
 refine bg Tryz.ntmps52 hwm Hold.nil ?_
 intro T hT hS
 unfold f52L at hL
 refine r3 ?_
 rintro _ h2 ⟨b1, eb1, rfl, hS⟩
 refine r1 ?_
 rintro _ h4 ⟨b3, eb3, rfl, hS⟩
 refine r6 ?_
 rintro _ h6 ⟨b5, eb5, rfl, hS⟩
 refine r16 ?_
 refine r1 ?_
 refine WC.loop (WL.lift hL (fun (p : Int × Int × Int × Int × Int × Bool) (s : Fs) => match p with | (v13, v16, v18, v19, v20, v21) => ∃ (fr8 : Fr) (h7 : H), s = ⟨fr8, [], h7, none⟩ ∧ Sp wm T h [bx wm b1 [.slice pa0_0 p0.in_.length pc0_0, .slice pa0_1 p0.boxes.length pc0_1, .slice pa0_2 p0.entries.length pc0_2, .slice pa0_3 p0.held.length pc0_3, .slice pa0_4 p0.wire.length pc0_4, .int .i64 p0.said], bx wm b3 [.int .i64 0, .int .i64 0, .int .i64 0, .bool false], bx wm b5 [.int .i64 v18, .int .i64 v19, .int .i64 v20, .bool v21]] h7 ∧ fr8.at 1 = .int .i64 p1 ∧ fr8.at 2 = .pointer (some ⟨b1, 0, none⟩) ∧ fr8.at 4 = .pointer (some ⟨b3, 0, none⟩) ∧ fr8.at 6 = .pointer (some ⟨b5, 0, none⟩) ∧ fr8.at 7 = .int .i64 v13 ∧ fr8.at 15 = .int .i64 (p0.entries.length : Int) ∧ fr8.at 16 = .int .i64 v16) ⟨_, _, rfl, hS.only (.c k2 (.c k1 (.c k0 .n))), las⟩ ?_)
 clear hL hS
 rintro next22 ⟨v13, v16, v18, v19, v20, v21⟩ s hnext22 hL ⟨fr8, h7, rfl, hS, e9, e10, e11, e12, e14, e15, e17⟩
 dsimp only [f52_b0] at hL
 refine r6 ?_
 refine cn hL ?_ ?_
 · intro hc hL
   refine r2 ?_
   refine WC.seqJ (r := r) (fun (p : Int × Int × Int × Int × Bool) (s : Fs) => match p with | (v29, v33, v34, v35, v36) => ∃ (fr24 : Fr) (h23 : H), s = ⟨fr24, [], h23, none⟩ ∧ Sp wm T h [bx wm b1 [.slice pa0_0 p0.in_.length pc0_0, .slice pa0_1 p0.boxes.length pc0_1, .slice pa0_2 p0.entries.length pc0_2, .slice pa0_3 p0.held.length pc0_3, .slice pa0_4 p0.wire.length pc0_4, .int .i64 p0.said], bx wm b3 [.int .i64 0, .int .i64 0, .int .i64 0, .bool false], bx wm b5 [.int .i64 v33, .int .i64 v34, .int .i64 v35, .bool v36]] h23 ∧ fr24.at 1 = .int .i64 p1 ∧ fr24.at 2 = .pointer (some ⟨b1, 0, none⟩) ∧ fr24.at 4 = .pointer (some ⟨b3, 0, none⟩) ∧ fr24.at 6 = .pointer (some ⟨b5, 0, none⟩) ∧ fr24.at 7 = .int .i64 v29 ∧ fr24.at 15 = .int .i64 (p0.entries.length : Int) ∧ fr24.at 16 = .int .i64 v16) (f52_j0 v16 next22) ?_ ?_
   · clear hL hS
     rintro ⟨v29, v33, v34, v35, v36⟩ s hL ⟨fr24, h23, rfl, hS, e25, e26, e27, e28, e30, e31, e32⟩
     dsimp only [f52_j0] at hL
     refine r4 ?_
     exact LoopK.nrm (hnext22 _ _ hL ⟨_, _, rfl, hS.only (.c k0 (.c k0 (.c k0 .n))), las⟩)
   · skip
     refine r12 ?_
     obtain ⟨x37, hx37, hL⟩ := bind_some hL
     obtain ⟨b38, o39, ⟨a40, c41⟩, hab38, hAb38, hBb38, hFb38⟩ := Sl.at_ hsp0_2 hx37
     refine WO.w gN rfl (av_ixn und25 size64 lk lk rfl hab38 hx37) ?_
     have hsa40 : Sl rFerryEntry wm h a40 c41 x37 := hFb38
     refine WO.w gN rfl (av_ld agg64 (evT fh rfl) (At.fz hS.fz hBb38 hAb38) (j := 0) rfl (v := .slice a40 x37.length c41) rfl) ?_
     refine r1 ?_
     obtain ⟨x42, hx42, hL⟩ := bind_some hL
     obtain ⟨b43, o44, _, hab43, hAb43, hBb43, hFb43⟩ := Sl.at_ hsa40 hx42
     refine WO.w gN rfl (av_ixn und64 size63 lk lk rfl hab43 hx42) ?_
     refine r1 ?_
     refine WO.w gN rfl (av_ld agg4 (evT fh rfl) (At.fz hS.fz hBb43 hAb43) (j := 0) rfl (v := .bool x42.here) rfl) ?_
     refine r2 ?_
     refine cn hL ?_ ?_
     · intro hc hL
       refine r6 ?_
       obtain ⟨x45, hx45, hL⟩ := bind_some hL
       obtain ⟨b46, o47, ⟨a48, c49⟩, hab46, hAb46, hBb46, hFb46⟩ := Sl.at_ hsp0_2 hx45
       refine WO.w gN rfl (av_ixn und25 size64 lk lk rfl hab46 hx45) ?_
       have hsa48 : Sl rFerryEntry wm h a48 c49 x45 := hFb46
       refine WO.w gN rfl (av_ld agg64 (evT fh rfl) (At.fz hS.fz hBb46 hAb46) (j := 0) rfl (v := .slice a48 x45.length c49) rfl) ?_
       refine r1 ?_
       obtain ⟨x50, hx50, hL⟩ := bind_some hL
       obtain ⟨b51, o52, _, hab51, hAb51, hBb51, hFb51⟩ := Sl.at_ hsa48 hx50
       refine WO.w gN rfl (av_ixn und64 size63 lk lk rfl hab51 hx50) ?_
       refine r1 ?_
       refine WO.w gN rfl (av_ld agg3 (evT fh rfl) (At.fz hS.fz hBb51 hAb51) (j := 2) rfl (v := .int .i64 x50.age) rfl) ?_
       refine WO.w gN rfl (av_bld bld104 (evp_cons lk (evp_cons lk (evp_cons lk (evp_cons lk evp_nil)))) rfl (cs' := [.int .i64 v16, .int .i64 x50.age, .int .i64 (-1), .bool true]) rfl) ?_
       refine r1 ?_
       rintro h53 hS
       refine r8 ?_
       exact SeqJ.nrm _ hL ⟨_, _, rfl, hS.only (.c k1 (.c k1 (.c k0 .n))), las⟩
     · intro hc hL
       refine r2 ?_
       exact SeqJ.nrm _ hL ⟨_, _, rfl, hS.only (.c k0 (.c k0 (.c k0 .n))), las⟩
 · intro hc hL
   refine r12 ?_
   refine r3 ?_
   refine WC.loop (WL.lift hL (fun (p : Int × Int × Int × Int × Int × Bool) (s : Fs) => match p with | (v59, v63, v65, v66, v67, v68) => ∃ (fr55 : Fr) (h54 : H), s = ⟨fr55, [], h54, none⟩ ∧ Sp wm T h [bx wm b3 [.int .i64 0, .int .i64 0, .int .i64 0, .bool false], bx wm b5 [.int .i64 v65, .int .i64 v66, .int .i64 v67, .bool v68]] h54 ∧ fr55.at 1 = .int .i64 p1 ∧ fr55.at 4 = .pointer (some ⟨b3, 0, none⟩) ∧ fr55.at 6 = .pointer (some ⟨b5, 0, none⟩) ∧ fr55.at 7 = .int .i64 v59 ∧ fr55.at 43 = .slice pa0_4 p0.wire.length pc0_4 ∧ fr55.at 44 = .int .i64 (p0.wire.length : Int) ∧ fr55.at 45 = .int .i64 v63) ⟨_, _, rfl, hS.only (.c k1 (.c k1 .n)), las⟩ ?_)
   clear hL hS
   rintro next69 ⟨v59, v63, v65, v66, v67, v68⟩ s hnext69 hL ⟨fr55, h54, rfl, hS, e56, e57, e58, e60, e61, e62, e64⟩
   dsimp only [f52_b1] at hL
   refine r6 ?_
   refine cn hL ?_ ?_
   · intro hc hL
     refine r6 ?_
     refine r1 ?_
     obtain ⟨x70, hx70, hL⟩ := bind_some hL
     obtain ⟨b71, o72, ⟨⟨a73, c74⟩, ⟨a75, c76⟩⟩, hab71, hAb71, hBb71, hFb71⟩ := Sl.at_ hsp0_4 hx70
     refine WO.w gN rfl (av_ixn und27 size95 lk lk rfl hab71 hx70) ?_
     have hsa73 : Sl (rInt .i64) wm h a73 c74 x70.places := hFb71.1
     have hsa75 : Sl (rInt .i64) wm h a75 c76 x70.ages := hFb71.2
     refine WO.w gN rfl (av_ldA agg95 size95 (evT fh rfl) (At.fz hS.fz hBb71 hAb71) (j := 0) rfl rfl (ws := [.int .i64 x70.kind, .int .i64 x70.to_, .int .i64 x70.mail.msg, .int .i64 x70.mail.place, .int .i64 x70.mail.from_, .int .i64 x70.mail.age, .int .i64 x70.mail.hops, .slice a73 x70.places.length c74, .slice a75 x70.ages.length c76, .int .i64 x70.place, .int .i64 x70.at_, .int .i64 x70.age]) rfl) ?_
     refine r1 ?_
     rintro _ h78 ⟨b77, eb77, rfl, hS⟩
     refine r2 ?_
     rintro h79 hS
     refine r8 ?_
     refine r3 ?_
     refine WC.loop (WL.lift hL (fun (p : Int × Int × Int × Int × Int × Bool) (s : Fs) => match p with | (v85, v94, v96, v97, v98, v99) => ∃ (fr81 : Fr) (h80 : H), s = ⟨fr81, [], h80, none⟩ ∧ Sp wm T h [bx wm b3 [.int .i64 0, .int .i64 0, .int .i64 0, .bool false], bx wm b5 [.int .i64 v96, .int .i64 v97, .int .i64 v98, .bool v99], bx wm b77 [.int .i64 x70.kind, .int .i64 x70.to_, .int .i64 x70.mail.msg, .int .i64 x70.mail.place, .int .i64 x70.mail.from_, .int .i64 x70.mail.age, .int .i64 x70.mail.hops, .slice a73 x70.places.length c74, .slice a75 x70.ages.length c76, .int .i64 x70.place, .int .i64 x70.at_, .int .i64 x70.age]] h80 ∧ fr81.at 1 = .int .i64 p1 ∧ fr81.at 4 = .pointer (some ⟨b3, 0, none⟩) ∧ fr81.at 6 = .pointer (some ⟨b5, 0, none⟩) ∧ fr81.at 7 = .int .i64 v85 ∧ fr81.at 9 = .int .i64 v63 ∧ fr81.at 10 = .pointer (some ⟨b77, 0, none⟩) ∧ fr81.at 43 = .slice pa0_4 p0.wire.length pc0_4 ∧ fr81.at 44 = .int .i64 (p0.wire.length : Int) ∧ fr81.at 45 = .int .i64 v63 ∧ fr81.at 51 = .slice a73 x70.places.length c74 ∧ fr81.at 52 = .int .i64 (x70.places.length : Int) ∧ fr81.at 53 = .int .i64 v94) ⟨_, _, rfl, hS.only (.c k1 (.c k1 (.c k0 .n))), las⟩ ?_)
     clear hL hS
     rintro next100 ⟨v85, v94, v96, v97, v98, v99⟩ s hnext100 hL ⟨fr81, h80, rfl, hS, e82, e83, e84, e86, e87, e88, e89, e90, e91, e92, e93, e95⟩
     dsimp only [f52_b2] at hL
     refine r6 ?_
     refine cn hL ?_ ?_
     · intro hc hL
       refine r2 ?_
       refine WC.seqJ (r := r) (fun (p : Int × Int × Int × Int × Bool) (s : Fs) => match p with | (v106, v116, v117, v118, v119) => ∃ (fr102 : Fr) (h101 : H), s = ⟨fr102, [], h101, none⟩ ∧ Sp wm T h [bx wm b3 [.int .i64 0, .int .i64 0, .int .i64 0, .bool false], bx wm b5 [.int .i64 v116, .int .i64 v117, .int .i64 v118, .bool v119], bx wm b77 [.int .i64 x70.kind, .int .i64 x70.to_, .int .i64 x70.mail.msg, .int .i64 x70.mail.place, .int .i64 x70.mail.from_, .int .i64 x70.mail.age, .int .i64 x70.mail.hops, .slice a73 x70.places.length c74, .slice a75 x70.ages.length c76, .int .i64 x70.place, .int .i64 x70.at_, .int .i64 x70.age]] h101 ∧ fr102.at 1 = .int .i64 p1 ∧ fr102.at 4 = .pointer (some ⟨b3, 0, none⟩) ∧ fr102.at 6 = .pointer (some ⟨b5, 0, none⟩) ∧ fr102.at 7 = .int .i64 v106 ∧ fr102.at 9 = .int .i64 v63 ∧ fr102.at 10 = .pointer (some ⟨b77, 0, none⟩) ∧ fr102.at 43 = .slice pa0_4 p0.wire.length pc0_4 ∧ fr102.at 44 = .int .i64 (p0.wire.length : Int) ∧ fr102.at 45 = .int .i64 v63 ∧ fr102.at 51 = .slice a73 x70.places.length c74 ∧ fr102.at 52 = .int .i64 (x70.places.length : Int) ∧ fr102.at 53 = .int .i64 v94) (f52_j1 v94 next100) ?_ ?_
       · clear hL hS
         rintro ⟨v106, v116, v117, v118, v119⟩ s hL ⟨fr102, h101, rfl, hS, e103, e104, e105, e107, e108, e109, e110, e111, e112, e113, e114, e115⟩
         dsimp only [f52_j1] at hL
         refine r4 ?_
         exact LoopK.nrm (hnext100 _ _ hL ⟨_, _, rfl, hS.only (.c k0 (.c k0 (.c k0 .n))), las⟩)
       · skip
         refine r4 ?_
         obtain ⟨x120, hx120, hL⟩ := bind_some hL
         obtain ⟨b121, o122, _, hab121, hAb121, hBb121, hFb121⟩ := Sl.at_ hsa73 hx120
         refine WO.w gN rfl (av_ixn und22 size3 lk lk rfl hab121 hx120) ?_
         refine WO.w gN rfl (av_ld agg3 (evT fh rfl) (At.fz hS.fz hBb121 hAb121) (j := 0) rfl (v := .int .i64 x120) rfl) ?_
         refine r16 ?_
         refine r2 ?_
         refine cn hL ?_ ?_
         · intro hc hL
           refine r1 ?_
           refine WC.drawX mixed (by kernel_rfl) ?_
           refine r4 ?_
           refine r1 ?_
           obtain ⟨x123, hx123, hL⟩ := bind_some hL
           obtain ⟨b124, o125, _, hab124, hAb124, hBb124, hFb124⟩ := Sl.at_ hsa75 hx123
           refine WX.w gN rfl (av_ixn und22 size3 lk lk rfl hab124 hx123) ?_ rfl
           refine WX.w gN rfl (av_ld agg3 (evT fh rfl) (At.fz hS.fz hBb124 hAb124) (j := 0) rfl (v := .int .i64 x123) rfl) ?_ rfl
           refine r1 ?_
           refine WX.w gN rfl (av_bld bld104 (evp_cons lk (evp_cons lk (evp_cons lk (evp_cons lk evp_nil)))) rfl (cs' := [.int .i64 x70.to_, .int .i64 x123, .int .i64 v63, .bool false]) rfl) ?_ rfl
           refine WX.hu gN (s_st hS k1 size104 lk lk (vs := [.int .i64 x70.to_, .int .i64 x123, .int .i64 v63, .bool false]) rfl rfl rfl rfl (cs' := [.int .i64 x70.to_, .int .i64 x123, .int .i64 v63, .bool false]) rfl) ?_ rfl rfl [] (by kernel_rfl) Blind.e
           rintro h126 hS
           refine r8 ?_
           exact SeqJ.nrm _ hL ⟨_, _, rfl, hS.only (.c k1 (.c k0 (.c k0 .n))), las⟩
         · intro hc hL
           refine r2 ?_
           exact SeqJ.nrm _ hL ⟨_, _, rfl, hS.only (.c k0 (.c k0 (.c k0 .n))), las⟩
     · intro hc hL
       refine r8 ?_
       refine r2 ?_
       exact LoopK.nrm (hnext69 _ _ hL ⟨_, _, rfl, hS.only (.c k0 (.c k0 .n)), las⟩)
   · intro hc hL
     refine r8 ?_
     refine r3 ?_
     rintro h127 hS
     refine r4 ?_
     have hr := Option.some.inj hL
     subst hr
     exact RetK.gen (vs := [.agg [.int .i64 v65, .int .i64 v66, .int .i64 v67, .bool v68].toArray, .bool (v59 == 1)]) rfl (ares_cell (fs4 rfl (fskip rfl e57)) (aload_atA agg104 size104 (hS.atB k0) (j := 0) rfl rfl (ws := [.int .i64 v65, .int .i64 v66, .int .i64 v67, .bool v68]) rfl) (ares_tmp lk ares_nil)) rfl ⟨_, ⟨rfl, rfl⟩, hT ▸ hS.only .n⟩
theorem f53_wf {wm : Nat} {h : H} {p0 : FerryWorld} {p1 : Int} {p2 : Spot} {p3 : Int} {p4 : Int} {pa0_0 : Option Addr} {pc0_0 : Nat} {pa0_1 : Option Addr} {pc0_1 : Nat} {pa0_2 : Option Addr} {pc0_2 : Nat} {pa0_3 : Option Addr} {pc0_3 : Nat} {pa0_4 : Option Addr} {pc0_4 : Nat} {r : Bool} (hwm : wm ≤ h.size) (hsp0_0 : Sl (rInt .i64) wm h pa0_0 pc0_0 p0.in_) (hsp0_1 : Sl (rSl (rInt .i64)) wm h pa0_1 pc0_1 p0.boxes) (hsp0_2 : Sl (rSl rFerryEntry) wm h pa0_2 pc0_2 p0.entries) (hsp0_3 : Sl (rSl rFerryMail) wm h pa0_3 pc0_3 p0.held) (hsp0_4 : Sl rFerryLetter wm h pa0_4 pc0_4 p0.wire) (hL : f53L p0 p1 p2 p3 p4 = some r) :
    WR XX 53 #[.agg [.slice pa0_0 p0.in_.length pc0_0, .slice pa0_1 p0.boxes.length pc0_1, .slice pa0_2 p0.entries.length pc0_2, .slice pa0_3 p0.held.length pc0_3, .slice pa0_4 p0.wire.length pc0_4, .int .i64 p0.said].toArray, .int .i64 p1, .agg [.int .i64 p2.at_, .int .i64 p2.age, .int .i64 p2.letter, .bool p2.is].toArray, .int .i64 p3, .int .i64 p4] wm h (CP (fun (v : Value) (Gb : List (Ast wm)) => v = .bool r ∧ Gb = []) [] h) := by
 refine bg Tryz.ntmps53 hwm Hold.nil ?_
 intro T hT hS
 unfold f53L at hL
 refine r3 ?_
 rintro _ h2 ⟨b1, eb1, rfl, hS⟩
 refine r1 ?_
 rintro _ h4 ⟨b3, eb3, rfl, hS⟩
 refine r16 ?_
 refine r8 ?_
 refine r3 ?_
 refine cn hL ?_ ?_
 · intro hc hL
   refine r6 ?_
   refine r1 ?_
   exact rt hL hT hS
 · intro hc hL
   refine r8 ?_
   refine r3 ?_
   refine cn hL ?_ ?_
   · intro hc hL
     refine r8 ?_
     refine r3 ?_
     exact rt hL hT hS
   · intro hc hL
     refine r6 ?_
     refine r1 ?_
     obtain ⟨x5, hx5, hL⟩ := bind_some hL
     obtain ⟨b6, o7, ⟨a8, c9⟩, hab6, hAb6, hBb6, hFb6⟩ := Sl.at_ hsp0_2 hx5
     refine WO.w gN rfl (av_ixn und25 size64 lk lk rfl hab6 hx5) ?_
     have hsa8 : Sl rFerryEntry wm h a8 c9 x5 := hFb6
     refine WO.w gN rfl (av_ld agg64 (evT fh rfl) (At.fz hS.fz hBb6 hAb6) (j := 0) rfl (v := .slice a8 x5.length c9) rfl) ?_
     refine r1 ?_
     obtain ⟨x10, hx10, hL⟩ := bind_some hL
     obtain ⟨b11, o12, _, hab11, hAb11, hBb11, hFb11⟩ := Sl.at_ hsa8 hx10
     refine WO.w gN rfl (av_ixn und64 size63 lk lk rfl hab11 hx10) ?_
     refine r1 ?_
     refine WO.w gN rfl (av_ld agg3 (evT fh rfl) (At.fz hS.fz hBb11 hAb11) (j := 2) rfl (v := .int .i64 x10.age) rfl) ?_
     refine r6 ?_
     exact rt hL hT hS
theorem f53_ok {h : H} {p0 : FerryWorld} {p1 : Int} {p2 : Spot} {p3 : Int} {p4 : Int} {pa0_0 : Option Addr} {pc0_0 : Nat} {pa0_1 : Option Addr} {pc0_1 : Nat} {pa0_2 : Option Addr} {pc0_2 : Nat} {pa0_3 : Option Addr} {pc0_3 : Nat} {pa0_4 : Option Addr} {pc0_4 : Nat} {r : Bool} (hsp0_0 : Sl (rInt .i64) h.size h pa0_0 pc0_0 p0.in_) (hsp0_1 : Sl (rSl (rInt .i64)) h.size h pa0_1 pc0_1 p0.boxes) (hsp0_2 : Sl (rSl rFerryEntry) h.size h pa0_2 pc0_2 p0.entries) (hsp0_3 : Sl (rSl rFerryMail) h.size h pa0_3 pc0_3 p0.held) (hsp0_4 : Sl rFerryLetter h.size h pa0_4 pc0_4 p0.wire) (hL : f53L p0 p1 p2 p3 p4 = some r) : Pure XX 53 #[.agg [.slice pa0_0 p0.in_.length pc0_0, .slice pa0_1 p0.boxes.length pc0_1, .slice pa0_2 p0.entries.length pc0_2, .slice pa0_3 p0.held.length pc0_3, .slice pa0_4 p0.wire.length pc0_4, .int .i64 p0.said].toArray, .int .i64 p1, .agg [.int .i64 p2.at_, .int .i64 p2.age, .int .i64 p2.letter, .bool p2.is].toArray, .int .i64 p3, .int .i64 p4] h (.bool r) :=
 WR.pureC rfl (f53_wf (Nat.le_refl _) hsp0_0 hsp0_1 hsp0_2 hsp0_3 hsp0_4 hL)
theorem f54_wf {wm : Nat} {h : H} {p0 : FerryWorld} {p1 : (List Spot)} {p2 : FerryMail} {p3 : Int} {p4 : Bool} {pa0_0 : Option Addr} {pc0_0 : Nat} {pa0_1 : Option Addr} {pc0_1 : Nat} {pa0_2 : Option Addr} {pc0_2 : Nat} {pa0_3 : Option Addr} {pc0_3 : Nat} {pa0_4 : Option Addr} {pc0_4 : Nat} {pa1_0 : Option Addr} {pc1_0 : Nat} {r : Bool} (hwm : wm ≤ h.size) (hsp0_0 : Sl (rInt .i64) wm h pa0_0 pc0_0 p0.in_) (hsp0_1 : Sl (rSl (rInt .i64)) wm h pa0_1 pc0_1 p0.boxes) (hsp0_2 : Sl (rSl rFerryEntry) wm h pa0_2 pc0_2 p0.entries) (hsp0_3 : Sl (rSl rFerryMail) wm h pa0_3 pc0_3 p0.held) (hsp0_4 : Sl rFerryLetter wm h pa0_4 pc0_4 p0.wire) (hsp1_0 : Sl rSpot wm h pa1_0 pc1_0 p1) (hL : f54L p0 p1 p2 p3 p4 = some r) :
    WR XX 54 #[.agg [.slice pa0_0 p0.in_.length pc0_0, .slice pa0_1 p0.boxes.length pc0_1, .slice pa0_2 p0.entries.length pc0_2, .slice pa0_3 p0.held.length pc0_3, .slice pa0_4 p0.wire.length pc0_4, .int .i64 p0.said].toArray, .slice pa1_0 p1.length pc1_0, .agg [.int .i64 p2.msg, .int .i64 p2.place, .int .i64 p2.from_, .int .i64 p2.age, .int .i64 p2.hops].toArray, .int .i64 p3, .bool p4] wm h (CP (fun (v : Value) (Gb : List (Ast wm)) => v = .bool r ∧ Gb = []) [] h) := by
 refine bg Tryz.ntmps54 hwm Hold.nil ?_
 intro T hT hS
 unfold f54L at hL
 refine r3 ?_
 rintro _ h2 ⟨b1, eb1, rfl, hS⟩
 refine r1 ?_
 rintro _ h4 ⟨b3, eb3, rfl, hS⟩
 refine r16 ?_
 refine r16 ?_
 refine r16 ?_
 refine r6 ?_
 refine r1 ?_
 refine cn hL ?_ ?_
 · intro hc hL
   refine r6 ?_
   refine r1 ?_
   exact rt hL hT hS
 · intro hc hL
   refine r6 ?_
   refine r1 ?_
   obtain ⟨x5, hx5, hL⟩ := bind_some hL
   obtain ⟨b6, o7, _, hab6, hAb6, hBb6, hFb6⟩ := Sl.at_ hsp1_0 hx5
   refine WO.w gN rfl (av_ixn und102 size104 lk lk rfl hab6 hx5) ?_
   refine WO.w gN rfl (av_ldA agg104 size104 (evT fh rfl) (At.fz hS.fz hBb6 hAb6) (j := 0) rfl rfl (ws := [.int .i64 x5.at_, .int .i64 x5.age, .int .i64 x5.letter, .bool x5.is]) rfl) ?_
   refine r1 ?_
   rintro _ h9 ⟨b8, eb8, rfl, hS⟩
   refine r1 ?_
   rintro h10 hS
   refine r8 ?_
   refine cn hL ?_ ?_
   · intro hc hL
     refine r16 ?_
     refine r6 ?_
     refine r1 ?_
     exact rt hL hT hS
   · intro hc hL
     refine r8 ?_
     refine r3 ?_
     obtain ⟨x11, hx11, hL⟩ := bind_some hL
     refine WO.cp gN rfl (Ent.fn has53 (evs_cons lk (evs_cons lk (evs_cons lk (evs_cons lk (evs_cons lk evs_nil)))))) (f53_ok (hS.slu hsp0_0) (hS.slu hsp0_1) (hS.slu hsp0_2) (hS.slu hsp0_3) (hS.slu hsp0_4) hx11) ?_
     refine r4 ?_
     exact rt hL hT hS
theorem f54_ok {h : H} {p0 : FerryWorld} {p1 : (List Spot)} {p2 : FerryMail} {p3 : Int} {p4 : Bool} {pa0_0 : Option Addr} {pc0_0 : Nat} {pa0_1 : Option Addr} {pc0_1 : Nat} {pa0_2 : Option Addr} {pc0_2 : Nat} {pa0_3 : Option Addr} {pc0_3 : Nat} {pa0_4 : Option Addr} {pc0_4 : Nat} {pa1_0 : Option Addr} {pc1_0 : Nat} {r : Bool} (hsp0_0 : Sl (rInt .i64) h.size h pa0_0 pc0_0 p0.in_) (hsp0_1 : Sl (rSl (rInt .i64)) h.size h pa0_1 pc0_1 p0.boxes) (hsp0_2 : Sl (rSl rFerryEntry) h.size h pa0_2 pc0_2 p0.entries) (hsp0_3 : Sl (rSl rFerryMail) h.size h pa0_3 pc0_3 p0.held) (hsp0_4 : Sl rFerryLetter h.size h pa0_4 pc0_4 p0.wire) (hsp1_0 : Sl rSpot h.size h pa1_0 pc1_0 p1) (hL : f54L p0 p1 p2 p3 p4 = some r) : Pure XX 54 #[.agg [.slice pa0_0 p0.in_.length pc0_0, .slice pa0_1 p0.boxes.length pc0_1, .slice pa0_2 p0.entries.length pc0_2, .slice pa0_3 p0.held.length pc0_3, .slice pa0_4 p0.wire.length pc0_4, .int .i64 p0.said].toArray, .slice pa1_0 p1.length pc1_0, .agg [.int .i64 p2.msg, .int .i64 p2.place, .int .i64 p2.from_, .int .i64 p2.age, .int .i64 p2.hops].toArray, .int .i64 p3, .bool p4] h (.bool r) :=
 WR.pureC rfl (f54_wf (Nat.le_refl _) hsp0_0 hsp0_1 hsp0_2 hsp0_3 hsp0_4 hsp1_0 hL)
end Go.Proofs.YtbmbbcaaimehkaaGreat
end
end
section
set_option linter.unusedVariables false
set_option linter.unusedSimpArgs false
namespace Go.Proofs.YtbmbbcaaimehkaaGreat
open Go.Lf
def f55_b2 (v35 : Int) (next37 : ((List Int) × Int → Option (List Int))) (x38 : (List FerryMail)) : (List Int) × Int → ((List Int) × Int → Option (List Int)) → Option (List Int) := fun (v46, v56) next58 =>
  (bif decide (v56 < (x38.length : Int)) then (geti x38 v56).bind fun x59 => (app 8 v46 [x59.msg]).bind fun z67 => next58 (z67, w64 (v56 + 1)) else next37 (v46, w64 (v35 + 1)))
def f55_j0 (v80 : Int) (next82 : ((List Int) × Int → Option (List Int))) : (List Int) → Option (List Int) := fun v85 =>
  next82 (v85, w64 (v80 + 1))
def f55_b3 (p0 : FerryWorld) : (List Int) × Int → ((List Int) × Int → Option (List Int)) → Option (List Int) := fun (v73, v80) next82 =>
  (bif decide (v80 < (p0.wire.length : Int)) then (geti p0.wire v80).bind fun x93 => (bif (x93.kind == 1) then (app 8 v73 [x93.mail.msg]).bind fun z105 => (f55_j0 v80 next82) z105 else (f55_j0 v80 next82) v73) else some v73)
def f55_b1 (F : Nat) (p0 : FerryWorld) : (List Int) × Int → ((List Int) × Int → Option (List Int)) → Option (List Int) := fun (v28, v35) next37 =>
  (bif decide (v35 < (p0.held.length : Int)) then (geti p0.held v35).bind fun x38 => loop F (f55_b2 v35 next37 x38) (v28, 0) else loop F (f55_b3 p0) (v28, 0))
def f55_b0 (F : Nat) (p0 : FerryWorld) : (List Int) × Int → ((List Int) × Int → Option (List Int)) → Option (List Int) := fun (v6, v13) next15 =>
  (bif decide (v13 < (p0.boxes.length : Int)) then (geti p0.boxes v13).bind fun x16 => (app 8 v6 x16).bind fun z21 => next15 (z21, w64 (v13 + 1)) else loop F (f55_b1 F p0) (v6, 0))
def f55L (F : Nat) (p0 : FerryWorld) : Option (List Int) :=
  loop F (f55_b0 F p0) ([], 0)
end Go.Proofs.YtbmbbcaaimehkaaGreat
end
section
set_option linter.unusedVariables false
set_option linter.unusedSimpArgs false
set_option maxRecDepth 20000
noncomputable section
namespace Go.Proofs.YtbmbbcaaimehkaaGreat
open Go.Abs Go.Lf
theorem f55_wf {F : Nat} {wm : Nat} {h : H} {p0 : FerryWorld} {pa0_0 : Option Addr} {pc0_0 : Nat} {pa0_1 : Option Addr} {pc0_1 : Nat} {pa0_2 : Option Addr} {pc0_2 : Nat} {pa0_3 : Option Addr} {pc0_3 : Nat} {pa0_4 : Option Addr} {pc0_4 : Nat} {r : (List Int)} (hwm : wm ≤ h.size) (hsp0_0 : Sl (rInt .i64) wm h pa0_0 pc0_0 p0.in_) (hsp0_1 : Sl (rSl (rInt .i64)) wm h pa0_1 pc0_1 p0.boxes) (hsp0_2 : Sl (rSl rFerryEntry) wm h pa0_2 pc0_2 p0.entries) (hsp0_3 : Sl (rSl rFerryMail) wm h pa0_3 pc0_3 p0.held) (hsp0_4 : Sl rFerryLetter wm h pa0_4 pc0_4 p0.wire) (hL : f55L F p0 = some r) :
    WR XX 55 #[.agg [.slice pa0_0 p0.in_.length pc0_0, .slice pa0_1 p0.boxes.length pc0_1, .slice pa0_2 p0.entries.length pc0_2, .slice pa0_3 p0.held.length pc0_3, .slice pa0_4 p0.wire.length pc0_4, .int .i64 p0.said].toArray] wm h (CP (fun (v : Value) (Gb : List (Ast wm)) => ∃ (ra0_0 : Option Addr) (rn0_0 : Nat) (rc0_0 : Nat), v = .slice ra0_0 rn0_0 rc0_0 ∧ Gb = [ow wm (rInt .i64) ra0_0 rn0_0 rc0_0 r]) [] h) := by
 refine bg Tryz.ntmps55 hwm Hold.nil ?_
 intro T hT hS
 unfold f55L at hL
 refine r3 ?_
 rintro _ h2 ⟨b1, eb1, rfl, hS⟩
 refine r16 ?_
 refine r2 ?_
 have hS := hS.nil (e := (rInt .i64))
 refine WC.loop (WL.lift hL (fun (p : (List Int) × Int) (s : Fs) => match p with | (v6, v13) => ∃ (fr4 : Fr) (h3 : H) (a7 : Option Addr) (c8 : Nat) (n9 : Nat), s = ⟨fr4, [], h3, none⟩ ∧ Sp wm T h [ow wm (rInt .i64) a7 n9 c8 v6, bx wm b1 [.slice pa0_0 p0.in_.length pc0_0, .slice pa0_1 p0.boxes.length pc0_1, .slice pa0_2 p0.entries.length pc0_2, .slice pa0_3 p0.held.length pc0_3, .slice pa0_4 p0.wire.length pc0_4, .int .i64 p0.said]] h3 ∧ fr4.at 1 = .pointer (some ⟨b1, 0, none⟩) ∧ fr4.at 3 = .slice a7 n9 c8 ∧ fr4.at 13 = .slice pa0_1 p0.boxes.length pc0_1 ∧ fr4.at 14 = .int .i64 (p0.boxes.length : Int) ∧ fr4.at 15 = .int .i64 v13) ⟨_, _, none, 0, 0, rfl, hS.only (.c k0 (.c k0 .n)), las⟩ ?_)
 clear hL hS
 rintro next15 ⟨v6, v13⟩ s hnext15 hL ⟨fr4, h3, a7, c8, n9, rfl, hS, e5, e10, e11, e12, e14⟩
 obtain rfl := hS.on k0
 dsimp only [f55_b0] at hL
 refine r6 ?_
 refine cn hL ?_ ?_
 · intro hc hL
   refine r6 ?_
   obtain ⟨x16, hx16, hL⟩ := bind_some hL
   obtain ⟨b17, o18, ⟨a19, c20⟩, hab17, hAb17, hBb17, hFb17⟩ := Sl.at_ hsp0_1 hx16
   refine WO.w gN rfl (av_ixn und24 size22 lk lk rfl hab17 hx16) ?_
   have hsa19 : Sl (rInt .i64) wm h a19 c20 x16 := hFb17
   refine WO.w gN rfl (av_ld agg22 (evT fh rfl) (At.fz hS.fz hBb17 hAb17) (j := 0) rfl (v := .slice a19 x16.length c20) rfl) ?_
   refine r6 ?_
   obtain ⟨z21, hz21, hL⟩ := bind_some hL
   refine WO.hv gN rfl (s_ap (e := (rInt .i64)) hS k0 app22_22 lk lk (Sl.src (hS.sl hsa19)) rfl hz21) ?_
   rintro _ h24 ⟨a22, c23, rfl, hS⟩
   refine r8 ?_
   exact LoopK.nrm (hnext15 _ _ hL ⟨_, _, a22, c23, z21.length, rfl, hS.only (.c k0 (.c k0 .n)), las⟩)
 · intro hc hL
   refine r12 ?_
   refine r3 ?_
   refine WC.loop (WL.lift hL (fun (p : (List Int) × Int) (s : Fs) => match p with | (v28, v35) => ∃ (fr26 : Fr) (h25 : H) (a29 : Option Addr) (c30 : Nat) (n31 : Nat), s = ⟨fr26, [], h25, none⟩ ∧ Sp wm T h [ow wm (rInt .i64) a29 n31 c30 v28, bx wm b1 [.slice pa0_0 p0.in_.length pc0_0, .slice pa0_1 p0.boxes.length pc0_1, .slice pa0_2 p0.entries.length pc0_2, .slice pa0_3 p0.held.length pc0_3, .slice pa0_4 p0.wire.length pc0_4, .int .i64 p0.said]] h25 ∧ fr26.at 1 = .pointer (some ⟨b1, 0, none⟩) ∧ fr26.at 3 = .slice a29 n31 c30 ∧ fr26.at 24 = .slice pa0_3 p0.held.length pc0_3 ∧ fr26.at 25 = .int .i64 (p0.held.length : Int) ∧ fr26.at 26 = .int .i64 v35) ⟨_, _, a7, c8, v6.length, rfl, hS.only (.c k0 (.c k0 .n)), las⟩ ?_)
   clear hL hS
   rintro next37 ⟨v28, v35⟩ s hnext37 hL ⟨fr26, h25, a29, c30, n31, rfl, hS, e27, e32, e33, e34, e36⟩
   obtain rfl := hS.on k0
   dsimp only [f55_b1] at hL
   refine r6 ?_
   refine cn hL ?_ ?_
   · intro hc hL
     refine r6 ?_
     obtain ⟨x38, hx38, hL⟩ := bind_some hL
     obtain ⟨b39, o40, ⟨a41, c42⟩, hab39, hAb39, hBb39, hFb39⟩ := Sl.at_ hsp0_3 hx38
     refine WO.w gN rfl (av_ixn und26 size90 lk lk rfl hab39 hx38) ?_
     have hsa41 : Sl rFerryMail wm h a41 c42 x38 := hFb39
     refine WO.w gN rfl (av_ld agg90 (evT fh rfl) (At.fz hS.fz hBb39 hAb39) (j := 0) rfl (v := .slice a41 x38.length c42) rfl) ?_
     refine r8 ?_
     refine r3 ?_
     refine WC.loop (WL.lift hL (fun (p : (List Int) × Int) (s : Fs) => match p with | (v46, v56) => ∃ (fr44 : Fr) (h43 : H) (a47 : Option Addr) (c48 : Nat) (n49 : Nat), s = ⟨fr44, [], h43, none⟩ ∧ Sp wm T h [ow wm (rInt .i64) a47 n49 c48 v46, bx wm b1 [.slice pa0_0 p0.in_.length pc0_0, .slice pa0_1 p0.boxes.length pc0_1, .slice pa0_2 p0.entries.length pc0_2, .slice pa0_3 p0.held.length pc0_3, .slice pa0_4 p0.wire.length pc0_4, .int .i64 p0.said]] h43 ∧ fr44.at 1 = .pointer (some ⟨b1, 0, none⟩) ∧ fr44.at 3 = .slice a47 n49 c48 ∧ fr44.at 24 = .slice pa0_3 p0.held.length pc0_3 ∧ fr44.at 25 = .int .i64 (p0.held.length : Int) ∧ fr44.at 26 = .int .i64 v35 ∧ fr44.at 30 = .slice a41 x38.length c42 ∧ fr44.at 31 = .int .i64 (x38.length : Int) ∧ fr44.at 32 = .int .i64 v56) ⟨_, _, a29, c30, v28.length, rfl, hS.only (.c k0 (.c k0 .n)), las⟩ ?_)
     clear hL hS
     rintro next58 ⟨v46, v56⟩ s hnext58 hL ⟨fr44, h43, a47, c48, n49, rfl, hS, e45, e50, e51, e52, e53, e54, e55, e57⟩
     obtain rfl := hS.on k0
     dsimp only [f55_b2] at hL
     refine r6 ?_
     refine cn hL ?_ ?_
     · intro hc hL
       refine r6 ?_
       obtain ⟨x59, hx59, hL⟩ := bind_some hL
       obtain ⟨b60, o61, _, hab60, hAb60, hBb60, hFb60⟩ := Sl.at_ hsa41 hx59
       refine WO.w gN rfl (av_ixn und90 size92 lk lk rfl hab60 hx59) ?_
       refine WO.w gN rfl (av_ldA agg92 size92 (evT fh rfl) (At.fz hS.fz hBb60 hAb60) (j := 0) rfl rfl (ws := [.int .i64 x59.msg, .int .i64 x59.place, .int .i64 x59.from_, .int .i64 x59.age, .int .i64 x59.hops]) rfl) ?_
       refine r1 ?_
       rintro _ h63 ⟨b62, eb62, rfl, hS⟩
       refine r1 ?_
       rintro h64 hS
       refine r6 ?_
       refine WO.hn gN rfl (s_bs (e := (rInt .i64)) hS und22 size3 zero3 rfl rfl rfl (evp_cons lk evp_nil) rfl [((), x59.msg)] rfl (xs := [x59.msg]) rfl (by intro q hq; simp only [List.mem_cons, List.not_mem_nil, or_false] at hq; subst hq; exact trivial) rfl) ?_
       rintro _ h66 ⟨b65, eb65, rfl, hS⟩
       obtain ⟨z67, hz67, hL⟩ := bind_some hL
       refine WO.hv gN rfl (s_ap (e := (rInt .i64)) hS k2 app22_22 lk lk (hS.osrc k0) (hS.on k0) hz67) ?_
       rintro _ h70 ⟨a68, c69, rfl, hS⟩
       refine r8 ?_
       exact LoopK.nrm (hnext58 _ _ hL ⟨_, _, a68, c69, z67.length, rfl, hS.only (.c k0 (.c k2 .n)), las⟩)
     · intro hc hL
       refine r8 ?_
       refine r2 ?_
       exact LoopK.nrm (hnext37 _ _ hL ⟨_, _, a47, c48, v46.length, rfl, hS.only (.c k0 (.c k0 .n)), las⟩)
   · intro hc hL
     refine r12 ?_
     refine r3 ?_
     refine WC.loop (WL.lift hL (fun (p : (List Int) × Int) (s : Fs) => match p with | (v73, v80) => ∃ (fr72 : Fr) (h71 : H) (a74 : Option Addr) (c75 : Nat) (n76 : Nat), s = ⟨fr72, [], h71, none⟩ ∧ Sp wm T h [ow wm (rInt .i64) a74 n76 c75 v73] h71 ∧ fr72.at 3 = .slice a74 n76 c75 ∧ fr72.at 44 = .slice pa0_4 p0.wire.length pc0_4 ∧ fr72.at 45 = .int .i64 (p0.wire.length : Int) ∧ fr72.at 46 = .int .i64 v80) ⟨_, _, a29, c30, v28.length, rfl, hS.only (.c k0 .n), las⟩ ?_)
     clear hL hS
     rintro next82 ⟨v73, v80⟩ s hnext82 hL ⟨fr72, h71, a74, c75, n76, rfl, hS, e77, e78, e79, e81⟩
     obtain rfl := hS.on k0
     dsimp only [f55_b3] at hL
     refine r6 ?_
     refine cn hL ?_ ?_
     · intro hc hL
       refine r2 ?_
       refine WC.seqJ (r := r) (fun (v85 : (List Int)) (s : Fs) => ∃ (fr84 : Fr) (h83 : H) (a86 : Option Addr) (c87 : Nat) (n88 : Nat), s = ⟨fr84, [], h83, none⟩ ∧ Sp wm T h [ow wm (rInt .i64) a86 n88 c87 v85] h83 ∧ fr84.at 3 = .slice a86 n88 c87 ∧ fr84.at 44 = .slice pa0_4 p0.wire.length pc0_4 ∧ fr84.at 45 = .int .i64 (p0.wire.length : Int) ∧ fr84.at 46 = .int .i64 v80) (f55_j0 v80 next82) ?_ ?_
       · clear hL hS
         rintro v85 s hL ⟨fr84, h83, a86, c87, n88, rfl, hS, e89, e90, e91, e92⟩
         obtain rfl := hS.on k0
         dsimp only [f55_j0] at hL
         refine r4 ?_
         exact LoopK.nrm (hnext82 _ _ hL ⟨_, _, a86, c87, v85.length, rfl, hS.only (.c k0 .n), las⟩)
       · skip
         refine r3 ?_
         obtain ⟨x93, hx93, hL⟩ := bind_some hL
         obtain ⟨b94, o95, ⟨⟨a96, c97⟩, ⟨a98, c99⟩⟩, hab94, hAb94, hBb94, hFb94⟩ := Sl.at_ hsp0_4 hx93
         refine WO.w gN rfl (av_ixn und27 size95 lk lk rfl hab94 hx93) ?_
         have hsa96 : Sl (rInt .i64) wm h a96 c97 x93.places := hFb94.1
         have hsa98 : Sl (rInt .i64) wm h a98 c99 x93.ages := hFb94.2
         refine WO.w gN rfl (av_ldA agg95 size95 (evT fh rfl) (At.fz hS.fz hBb94 hAb94) (j := 0) rfl rfl (ws := [.int .i64 x93.kind, .int .i64 x93.to_, .int .i64 x93.mail.msg, .int .i64 x93.mail.place, .int .i64 x93.mail.from_, .int .i64 x93.mail.age, .int .i64 x93.mail.hops, .slice a96 x93.places.length c97, .slice a98 x93.ages.length c99, .int .i64 x93.place, .int .i64 x93.at_, .int .i64 x93.age]) rfl) ?_
         refine r1 ?_
         rintro _ h101 ⟨b100, eb100, rfl, hS⟩
         refine r1 ?_
         rintro h102 hS
         refine r8 ?_
         refine r1 ?_
         refine cn hL ?_ ?_
         · intro hc hL
           refine r4 ?_
           refine r1 ?_
           refine WO.hn gN rfl (s_bs (e := (rInt .i64)) hS und22 size3 zero3 rfl rfl rfl (evp_cons lk evp_nil) rfl [((), x93.mail.msg)] rfl (xs := [x93.mail.msg]) rfl (by intro q hq; simp only [List.mem_cons, List.not_mem_nil, or_false] at hq; subst hq; exact trivial) rfl) ?_
           rintro _ h104 ⟨b103, eb103, rfl, hS⟩
           obtain ⟨z105, hz105, hL⟩ := bind_some hL
           refine WO.hv gN rfl (s_ap (e := (rInt .i64)) hS k2 app22_22 lk lk (hS.osrc k0) (hS.on k0) hz105) ?_
           rintro _ h108 ⟨a106, c107, rfl, hS⟩
           refine r3 ?_
           exact SeqJ.nrm _ hL ⟨_, _, a106, c107, z105.length, rfl, hS.only (.c k0 .n), las⟩
         · intro hc hL
           refine r2 ?_
           exact SeqJ.nrm _ hL ⟨_, _, a74, c75, v73.length, rfl, hS.only (.c k1 .n), las⟩
     · intro hc hL
       refine r12 ?_
       have hr := Option.some.inj hL
       subst hr
       exact RetK.gen1 rfl (ares_tmp lk ares_nil) ⟨_, ⟨a74, v73.length, c75, rfl, rfl⟩, hT ▸ hS.only (.c k0 .n)⟩
end Go.Proofs.YtbmbbcaaimehkaaGreat
end
end
