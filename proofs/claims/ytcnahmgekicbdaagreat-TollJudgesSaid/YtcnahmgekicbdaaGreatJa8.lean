/- Judges Part 8 of the proof. -/
import GoSem.Core.View
import Derived.Test.YtcnahmgekicbdaaGreatJa7
set_option linter.all false
set_option maxHeartbeats 2000000
section
namespace Go.Lf
def loop {α β : Type} : Nat → (α → (α → Option β) → Option β) → α → Option β
  | 0, _, _ => none
  | F + 1, body, a => body a (loop F body)
theorem loop_succ {α β : Type} (F : Nat) (body : α → (α → Option β) → Option β) (a : α) : loop (F + 1) body a = body a (loop F body) := rfl
def geti {α : Type} (l : List α) (k : Int) : Option α := bif decide (0 ≤ k) then l[k.toNat]? else none
theorem geti_nat {α : Type} (l : List α) (k : Nat) : geti l (k : Int) = l[k]? := by simp [geti]
theorem geti_some {α : Type} {l : List α} {k : Int} {x : α} (h : geti l k = some x) : (k.toNat : Int) = k ∧ k.toNat < l.length ∧ l[k.toNat]? = some x := by
  unfold geti at h
  by_cases hk : 0 ≤ k
  · rw [decide_eq_true hk, cond_true] at h
    exact ⟨by omega, (List.getElem?_eq_some_iff.1 h).1, h⟩
  · rw [decide_eq_false hk, cond_false] at h; cases h
def w64 (n : Int) : Int := Go.IntKind.i64.wrap n
theorem w64_id {n : Int} (h1 : -9223372036854775808 ≤ n) (h2 : n ≤ 9223372036854775807) : w64 n = n := by
  unfold w64 Go.IntKind.wrap
  have e1 : (2 ^ IntKind.i64.bits : Int) = 18446744073709551616 := by decide
  have e2 : (2 ^ (IntKind.i64.bits - 1) : Int) = 9223372036854775808 := by decide
  have e3 : IntKind.i64.signed = true := rfl
  rw [e1, e2, e3]
  dsimp only
  split
  · rename_i h; simp at h; omega
  · rename_i h; simp at h; omega
def slL {α : Type} (xs : List α) (lo hi : Int) : Option (List α) := bif decide (0 ≤ lo) && (decide (lo ≤ hi) && decide (hi ≤ xs.length)) then some ((xs.take hi.toNat).drop lo.toNat) else none
def gd {α : Type} (g : Bool) (m : Option α) (d : α) : Option α := bif g then m else some d
theorem gd_true {α : Type} (m : Option α) (d : α) : gd true m d = m := rfl
theorem gd_false {α : Type} (m : Option α) (d : α) : gd false m d = some d := rfl
def app {α : Type} (by_ : Nat) (xs ys : List α) : Option (List α) := bif Nat.ble ((2 * (xs.length + ys.length) + 1000) * by_) (2 ^ 47) then some (xs ++ ys) else none
theorem app_eq {α : Type} {by_ : Nat} {xs ys : List α} (h : (2 * (xs.length + ys.length) + 1000) * by_ ≤ 2 ^ 47) : app by_ xs ys = some (xs ++ ys) := by
  unfold app; rw [Nat.ble_eq_true_of_le h]; rfl
theorem app_some {α : Type} {by_ : Nat} {xs ys zs : List α} (h : app by_ xs ys = some zs) : zs = xs ++ ys ∧ (2 * (xs.length + ys.length) + 1000) * by_ ≤ 2 ^ 47 := by
  unfold app at h
  cases hb : Nat.ble ((2 * (xs.length + ys.length) + 1000) * by_) (2 ^ 47) <;> rw [hb] at h
  · cases h
  · cases h; exact ⟨rfl, Nat.le_of_ble_eq_true hb⟩
theorem bind_some {α β : Type} {m : Option α} {f : α → Option β} {r : β} (h : m.bind f = some r) : ∃ x, m = some x ∧ f x = some r := Option.bind_eq_some_iff.1 h
theorem gd_some {α β : Type} {g : Bool} {m : Option α} {d : α} {f : α → Option β} {r : β} (h : (gd g m d).bind f = some r) : ∃ x, (g = true → m = some x) ∧ f x = some r := by
  obtain ⟨x, h1, h2⟩ := bind_some h
  refine ⟨x, fun hg => ?_, h2⟩
  subst hg; exact h1
theorem cond_tt {α : Type} {c : Bool} {a b : α} {r : α} (hc : c = true) (h : (bif c then a else b) = r) : a = r := by subst hc; exact h
theorem cond_ff {α : Type} {c : Bool} {a b : α} {r : α} (hc : c = false) (h : (bif c then a else b) = r) : b = r := by subst hc; exact h
section
variable {κ ν : Type} [DecidableEq κ]
end
def lenS (x : Int) : Option Int := bif decide (0 ≤ x) && decide (x ≤ 12) then some ([0, 1, 2, 2, 3, 3, 3, 3, 4, 4, 4, 4, 4].getD x.toNat 0) else none
end Go.Lf
end
section
noncomputable section
namespace Go.Abs
open Go.Lf
structure Fz (wm : Nat) (h h' : H) : Prop where
  size : h.size ≤ h'.size
  keep : ∀ i cs own z, h.at i = .row cs own z → (i < wm ∨ own = false) → h'.at i = .row cs own z
  low : ∀ i, i < wm → i < h.size → h'.at i = h.at i
theorem Fz.refl (wm : Nat) (h : H) : Fz wm h h := ⟨Nat.le_refl _, fun _ _ _ _ e _ => e, fun _ _ _ => rfl⟩
theorem Fz.trans {wm : Nat} {a b c : H} (x : Fz wm a b) (y : Fz wm b c) : Fz wm a c :=
  ⟨Nat.le_trans x.size y.size, fun i cs own z e s => y.keep i cs own z (x.keep i cs own z e s) s, fun i h1 h2 => (y.low i h1 (Nat.lt_of_lt_of_le h2 x.size)).trans (x.low i h1 h2)⟩
structure Up (lo : Nat) (t : Nat → Prop) (h h' : H) : Prop where
  size : h.size ≤ h'.size
  keep : ∀ i, i < h.size → ¬ t i → h'.at i = h.at i
  own : ∀ i, t i → lo ≤ i ∧ (h.at i).own = true
theorem Up.fz {lo wm : Nat} {t : Nat → Prop} {h h' : H} (u : Up lo t h h') (hw : wm ≤ lo) : Fz wm h h' := by
  refine ⟨u.size, fun i cs own z e s => ?_, fun i h1 h2 => u.keep i h2 fun ht => by have := (u.own i ht).1; omega⟩
  rw [u.keep i (live_lt e rfl) ?_, e]
  intro ht
  obtain ⟨h1, h2⟩ := u.own i ht
  rw [e] at h2
  rcases s with s | s
  · omega
  · subst s; cases h2
theorem Up.of_grow {h h' : H} (lo : Nat) (g : Grow h h') : Up lo (fun _ => False) h h' := ⟨g.size, fun i hi _ => g.keep i hi, fun _ e => e.elim⟩
theorem Up.push (lo : Nat) (h : H) (A : AObj) : Up lo (fun _ => False) h (h.push A) := Up.of_grow lo ((Grow.refl h).push A)
theorem Up.put {lo : Nat} {h : H} {b : Nat} {A : AObj} (hl : lo ≤ b) (ho : (h.at b).own = true) : Up lo (fun i => i = b) h (h.put b A) :=
  ⟨Nat.le_refl _, fun i _ hn => at_put_other hn A, fun i e => by subst e; exact ⟨hl, ho⟩⟩
def At (h : H) (b o : Nat) (vs : List Value) : Prop := ∃ cs own z, h.at b = .row cs own z ∧ (cs.drop o).take vs.length = vs ∧ o + vs.length ≤ cs.length
def Stb (wm : Nat) (h : H) (b : Nat) : Prop := b < wm ∨ (h.at b).own = false
theorem At.box {h : H} {b : Nat} {vs : List Value} {own : Bool} {z : Nat} (hb : h.at b = .row vs own z) : At h b 0 vs := ⟨vs, own, z, hb, by simp, by omega⟩
theorem At.fz {wm : Nat} {h h' : H} {b o : Nat} {vs : List Value} (f : Fz wm h h') (s : Stb wm h b) (a : At h b o vs) : At h' b o vs := by
  obtain ⟨cs, own, z, h1, h2, h3⟩ := a
  exact ⟨cs, own, z, f.keep _ _ _ _ h1 (s.imp id fun e => by rw [h1] at e; exact e), h2, h3⟩
theorem At.cell {h : H} {b o j : Nat} {vs : List Value} {v : Value} (a : At h b o vs) (hv : vs[j]? = some v) : ∃ cs own z, h.at b = .row cs own z ∧ cs[o + j]? = some v := by
  obtain ⟨cs, own, z, h1, h2, h3⟩ := a
  refine ⟨cs, own, z, h1, ?_⟩
  have hj := (List.getElem?_eq_some_iff.1 hv).1
  rw [← h2, List.getElem?_take_of_lt hj, List.getElem?_drop] at hv
  exact hv
theorem At.part {h : H} {b o j n : Nat} {vs ws : List Value} (a : At h b o vs) (hj : j + n ≤ vs.length) (hw : (vs.drop j).take n = ws) : ∃ cs own z, h.at b = .row cs own z ∧ o + j + n ≤ cs.length ∧ (cs.drop (o + j)).take n = ws := by
  obtain ⟨cs, own, z, h1, h2, h3⟩ := a
  refine ⟨cs, own, z, h1, by omega, ?_⟩
  rw [← hw, ← h2, List.drop_take, List.take_take, List.drop_drop]
  have e : min n (vs.length - j) = n := by omega
  rw [e]
structure Rdr (α : Type) where
  sz : Nat
  pos : 0 < sz
  Par : Type
  dflt : Par
  sh : Par → α → List Value
  len : ∀ p x, (sh p x).length = sz
  one : ∀ p x, (sh p x).all Value.oneCell' = true
  F : Nat → H → Par → α → Prop
  mono : ∀ {wm h h' p x}, Fz wm h h' → F wm h p x → F wm h' p x
  up : ∀ {wm wm' h p x}, wm ≤ wm' → F wm h p x → F wm' h p x
def Nilish (a : Option Addr) (c : Nat) : Prop := (a = none ∧ c = 0) ∨ (a = some ⟨0, 0, some 0⟩ ∧ c = 0) ∨ ∃ i o, a = some ⟨i, o, none⟩
structure ElAt {α : Type} (e : Rdr α) (wm : Nat) (h : H) (cs : List Value) (o : Nat) (xs : List α) : Prop where
  len : o + xs.length * e.sz ≤ cs.length
  get : ∀ k x, xs[k]? = some x → ∃ q, (cs.drop (o + k * e.sz)).take e.sz = e.sh q x ∧ e.F wm h q x
theorem ElAt.mono {α : Type} {e : Rdr α} {wm : Nat} {h h' : H} {cs : List Value} {o : Nat} {xs : List α} (f : Fz wm h h') (a : ElAt e wm h cs o xs) : ElAt e wm h' cs o xs :=
  ⟨a.len, fun k x hk => let ⟨q, h1, h2⟩ := a.get k x hk; ⟨q, h1, e.mono f h2⟩⟩
theorem ElAt.up {α : Type} {e : Rdr α} {wm wm' : Nat} {h : H} {cs : List Value} {o : Nat} {xs : List α} (f : wm ≤ wm') (a : ElAt e wm h cs o xs) : ElAt e wm' h cs o xs :=
  ⟨a.len, fun k x hk => let ⟨q, h1, h2⟩ := a.get k x hk; ⟨q, h1, e.up f h2⟩⟩
structure Src {α : Type} (e : Rdr α) (wm : Nat) (h : H) (a : Option Addr) (c : Nat) (xs : List α) : Prop where
  max : xs.length ≤ 9223372036854775807
  cap : xs.length ≤ c / 2
  nl : Nilish a c
  mem : xs = [] ∨ ∃ i o cs own z, a = some ⟨i, o, none⟩ ∧ h.at i = .row cs own z ∧ ElAt e wm h cs o xs
structure Sl {α : Type} (e : Rdr α) (wm : Nat) (h : H) (a : Option Addr) (c : Nat) (xs : List α) : Prop where
  max : xs.length ≤ 9223372036854775807
  cap : xs.length ≤ c / 2
  nl : Nilish a c
  mem : xs = [] ∨ ∃ i o cs own z, a = some ⟨i, o, none⟩ ∧ h.at i = .row cs own z ∧ (i < wm ∨ own = false) ∧ ElAt e wm h cs o xs
structure OwnS {α : Type} (e : Rdr α) (wm lo : Nat) (h : H) (a : Option Addr) (c : Nat) (xs : List α) : Prop where
  max : xs.length ≤ 9223372036854775807
  mem : (a = none ∧ c = 0 ∧ xs = []) ∨ ∃ i o cs, a = some ⟨i, o, none⟩ ∧ lo ≤ i ∧ h.at i = .row cs true e.sz ∧ xs.length ≤ c / 2 ∧ o + (c / 2) * e.sz ≤ cs.length ∧ ElAt e wm h cs o xs
variable {α : Type} {e : Rdr α} {wm wm' lo : Nat} {h h' : H} {a : Option Addr} {c : Nat} {xs : List α}
theorem OwnS.nl (s : OwnS e wm lo h a c xs) : Nilish a c := by
  rcases s.mem with ⟨h1, h2, _⟩ | ⟨i, o, cs, h1, _⟩
  · exact .inl ⟨h1, h2⟩
  · exact .inr (.inr ⟨i, o, h1⟩)
theorem OwnS.cap (s : OwnS e wm lo h a c xs) : xs.length ≤ c / 2 := by
  rcases s.mem with ⟨_, _, h3⟩ | ⟨i, o, cs, h1, _, h3, h4, _⟩
  · subst h3; exact Nat.zero_le _
  · exact h4
theorem OwnS.src (s : OwnS e wm lo h a c xs) : Src e wm h a c xs := ⟨s.max, s.cap, s.nl, by
  rcases s.mem with ⟨_, _, h3⟩ | ⟨i, o, cs, h1, _, h3, _, _, h6⟩
  · exact .inl h3
  · exact .inr ⟨i, o, cs, true, _, h1, h3, h6⟩⟩
theorem Sl.mono (f : Fz wm h h') (s : Sl e wm h a c xs) : Sl e wm h' a c xs := ⟨s.max, s.cap, s.nl, s.mem.imp id fun ⟨i, o, cs, own, z, h1, h2, h3, h4⟩ => ⟨i, o, cs, own, z, h1, f.keep _ _ _ _ h2 h3, h3, h4.mono f⟩⟩
theorem Sl.up (f : wm ≤ wm') (s : Sl e wm h a c xs) : Sl e wm' h a c xs := ⟨s.max, s.cap, s.nl, s.mem.imp id fun ⟨i, o, cs, own, z, h1, h2, h3, h4⟩ => ⟨i, o, cs, own, z, h1, h2, h3.imp (fun x => by omega) id, h4.up f⟩⟩
theorem Sl.nil : Sl e wm h none 0 ([] : List α) := ⟨by simp, by simp, .inl ⟨rfl, rfl⟩, .inl rfl⟩
theorem OwnS.nil : OwnS e wm lo h none 0 ([] : List α) := ⟨by simp, .inl ⟨rfl, rfl, rfl⟩⟩
def BaseA (a : Option Addr) (i : Nat) : Prop := ∃ o, a = some ⟨i, o, none⟩
theorem Src.at_ {k : Int} {x : α} (s : Src e wm h a c xs) (hk : geti xs k = some x) : ∃ i o q, a = some ⟨i, o, none⟩ ∧ At h i (o + k.toNat * e.sz) (e.sh q x) ∧ e.F wm h q x := by
  obtain ⟨h1, h2, h3⟩ := geti_some hk
  rcases s.mem with z | ⟨i, o, cs, own, z, q1, q2, q3⟩
  · subst z; simp at h2
  · obtain ⟨q, g1, g2⟩ := q3.get _ _ h3
    refine ⟨i, o, q, q1, ⟨cs, own, z, q2, by rw [e.len]; exact g1, ?_⟩, g2⟩
    rw [e.len]
    have := q3.len
    have : (k.toNat + 1) * e.sz ≤ xs.length * e.sz := Nat.mul_le_mul_right _ h2
    rw [Nat.succ_mul] at this
    omega
theorem Sl.at_ {k : Int} {x : α} (s : Sl e wm h a c xs) (hk : geti xs k = some x) : ∃ i o q, a = some ⟨i, o, none⟩ ∧ At h i (o + k.toNat * e.sz) (e.sh q x) ∧ Stb wm h i ∧ e.F wm h q x := by
  obtain ⟨h1, h2, h3⟩ := geti_some hk
  rcases s.mem with z | ⟨i, o, cs, own, z, q1, q2, q4, q3⟩
  · subst z; simp at h2
  · obtain ⟨q, g1, g2⟩ := q3.get _ _ h3
    refine ⟨i, o, q, q1, ⟨cs, own, z, q2, by rw [e.len]; exact g1, ?_⟩, q4.imp id (fun z => by rw [q2]; exact z), g2⟩
    rw [e.len]
    have := q3.len
    have : (k.toNat + 1) * e.sz ≤ xs.length * e.sz := Nat.mul_le_mul_right _ h2
    rw [Nat.succ_mul] at this
    omega
def rInt (k : IntKind) : Rdr Int where
  sz := 1
  pos := Nat.one_pos
  Par := Unit
  dflt := ()
  sh := fun _ x => [.int k x]
  len := fun _ _ => rfl
  one := fun _ _ => rfl
  F := fun _ _ _ _ => True
  mono := fun _ x => x
  up := fun _ x => x
def rSl {α : Type} (e : Rdr α) : Rdr (List α) where
  sz := 1
  pos := Nat.one_pos
  Par := Option Addr × Nat
  dflt := (none, 0)
  sh := fun p x => [.slice p.1 x.length p.2]
  len := fun _ _ => rfl
  one := fun _ _ => rfl
  F := fun wm h p x => Sl e wm h p.1 p.2 x
  mono := fun f x => x.mono f
  up := fun f x => x.up f
end Go.Abs
end
end
section
noncomputable section
namespace Go.Abs
open Go.Lf
variable {X : Ctx} {n wm : Nat} {rd : Option Nat} {s : Fs} {Q : XX → Fs → Prop}
theorem fhit (fr : Fr) (d : Nat) (v : Value) : Fr.at (Tr.set fr d v) d = v := by rw [at_set, if_pos rfl]
theorem fskip {fr : Fr} {d t : Nat} {v w : Value} (hn : Nat.beq t d = false) (k : Fr.at fr t = v) : Fr.at (Tr.set fr d w) t = v := by
  rw [at_set, if_neg (fun e => by rw [e, Nat.beq_refl] at hn; cases hn)]; exact k
theorem fs2 {fr : Fr} {a b t : Nat} {v x y : Value} (hn : (Nat.beq t a || Nat.beq t b) = false) (k : Fr.at fr t = v) : Fr.at (Tr.set (Tr.set fr b y) a x) t = v := by
  rw [Bool.or_eq_false_iff] at hn; exact fskip hn.1 (fskip hn.2 k)
theorem fs4 {fr : Fr} {a b c d t : Nat} {v x y z w : Value} (hn : ((Nat.beq t a || Nat.beq t b) || (Nat.beq t c || Nat.beq t d)) = false) (k : Fr.at fr t = v) : Fr.at (Tr.set (Tr.set (Tr.set (Tr.set fr d w) c z) b y) a x) t = v := by
  rw [Bool.or_eq_false_iff] at hn; exact fs2 hn.1 (fs2 hn.2 k)
theorem fs8 {fr : Fr} {a b c d a' b' c' d' t : Nat} {v x y z w x' y' z' w' : Value} (hn : (((Nat.beq t a || Nat.beq t b) || (Nat.beq t c || Nat.beq t d)) || ((Nat.beq t a' || Nat.beq t b') || (Nat.beq t c' || Nat.beq t d'))) = false) (k : Fr.at fr t = v) :
    Fr.at (Tr.set (Tr.set (Tr.set (Tr.set (Tr.set (Tr.set (Tr.set (Tr.set fr d' w') c' z') b' y') a' x') d w) c z) b y) a x) t = v := by
  rw [Bool.or_eq_false_iff] at hn; exact fs4 hn.1 (fs4 hn.2 k)
theorem fh {fr : Fr} {d : Nat} {v : Value} : Fr.at (Tr.set fr d v) d = v := fhit _ _ _
theorem evT {fr : Fr} {t : Nat} {v : Value} (h : fr.at t = v) (ha : isAny v = false) : aev fr (.tmp t) = some v := by rw [aev_tmp, h, ha]; rfl
theorem evG {fr : Fr} {t : Nat} {c : Bool} {v : Value} (h : fr.at t = cond c v undef) (ha : isAny v = false) : c = true → aev fr (.tmp t) = some v := fun hc => by
  rw [aev_tmp, h, hc, cond_true, ha]; rfl
theorem evC {fr : Fr} {v : Value} (h : plain v = true) : aev fr (.const v) = some v := by rw [aev_const, h]; rfl
theorem evGU {fr : Fr} {t : Nat} {c : Bool} {b : Bool} (h : fr.at t = cond c (.bool b) undef) : aev fr (.tmp t) = some (cond c (.bool b) undef) := by
  rw [aev_tmp, h]; cases c <;> rfl
theorem evGU2 {fr : Fr} {t : Nat} {a c b : Bool} (h : fr.at t = cond (a && c) (.bool b) undef) (ha : a = true) : aev fr (.tmp t) = some (cond c (.bool b) undef) := by
  subst ha
  rw [aev_tmp, h]; cases c <;> rfl
def SeqJd {α β : Type} (I : α → Fs → Prop) (j : α → Option β) (r : β) (Q : XX → Fs → Prop) : XX → Fs → Prop := fun e s =>
  match e with
  | .normal => ∃ a, j a = some r ∧ I a s
  | e => Q e s
structure SeqJ {α β : Type} (I : α → Fs → Prop) (j : α → Option β) (r : β) (Q : XX → Fs → Prop) (e : XX) (s : Fs) : Prop where
  out : SeqJd I j r Q e s
theorem SeqJ.nrm {α β : Type} {I : α → Fs → Prop} {j : α → Option β} {r : β} (a : α) (h : j a = some r) (i : I a s) : SeqJ I j r Q .normal s := ⟨a, h, i⟩
theorem SeqJ.ret {α β : Type} {I : α → Fs → Prop} {j : α → Option β} {r : β} (h : Q .ret s) : SeqJ I j r Q .ret s := ⟨h⟩
theorem WC.seqJ {α β : Type} {a b : Code} {r : β} (I : α → Fs → Prop) (j : α → Option β) (k : ∀ x s', j x = some r → I x s' → WC X n wm rd b s' Q) (h : WC X n wm rd a s (SeqJ I j r Q)) : WC X n wm rd (.seq a b) s Q := by
  refine WC.seq (h.mono fun e s' q => ⟨?_⟩)
  have q := q.out
  cases e with
  | normal => obtain ⟨x, h1, h2⟩ := q; exact k x s' h1 h2
  | _ => exact q
theorem WC.condN {c : Operand} {a b : Code} {t : Bool} {fr : Fr} {ds : List Deferred} {h : H} (hc : aev fr c = some (.bool t)) (h1 : t = true → WC X n wm rd a ⟨fr, ds, h, none⟩ Q) (h2 : t = false → WC X n wm rd b ⟨fr, ds, h, none⟩ Q) : WC X n wm rd (.cond c a b) ⟨fr, ds, h, none⟩ Q := WC.cond (s := ⟨fr, ds, h, none⟩) hc h1 h2
theorem WC.condFN {c : Operand} {a b : Code} {t : Bool} {fr : Fr} {ds : List Deferred} {h : H} (hc : aev fr c = some (.bool t)) (ht : t = false) (k : WC X n wm rd b ⟨fr, ds, h, none⟩ Q) : WC X n wm rd (.cond c a b) ⟨fr, ds, h, none⟩ Q := WC.condF (s := ⟨fr, ds, h, none⟩) hc ht k
theorem WL.lift {α β : Type} {c : Code} {body : α → (α → Option β) → Option β} {r : β} {F : Nat} {a : α} (hL : loop F body a = some r) (I : α → Fs → Prop) (init : I a s)
    (round : ∀ (next : α → Option β) a s, (∀ a' s', next a' = some r → I a' s' → WL X n wm rd c s' Q) → body a next = some r → I a s → WC X n wm rd c s (LoopK X n wm rd c Q)) : WL X n wm rd c s Q := by
  induction F generalizing a s with
  | zero => cases hL
  | succ F ih => exact WL.step (round _ _ _ (fun a' s' h1 h2 => ih h1 h2) hL init)
section
variable {h : H} {ev : Operand → Option Value} {d : Option Tmp} {ty : TypeId} {p : String} {af : Array Edge} {g : Option (Nat × Bool)}
theorem av_ld {x : Operand} {t : TypeId} {b o oo j : Nat} {vs : List Value} {v : Value} (ht : isAggP X.P t = some false) (hx : ev x = some (.pointer (some ⟨b, oo, none⟩))) (ha : At h b o vs) (ho : oo = o + j) (hv : vs[j]? = some v) :
    aop X h ev ⟨d, .load t x, ty, p, af, g⟩ = some (.val v, .none) := by
  obtain ⟨cs, own, z, h1, h2⟩ := ha.cell hv
  subst ho
  exact av_load1 ht hx h1 h2
theorem av_ldA {x : Operand} {t : TypeId} {b o oo j sz : Nat} {vs ws : List Value} (ht : isAggP X.P t = some true) (hs : sizeP X.P t = some sz) (hx : ev x = some (.pointer (some ⟨b, oo, none⟩))) (ha : At h b o vs) (ho : oo = o + j) (hj : Nat.ble (j + sz) vs.length = true) (hv : (vs.drop j).take sz = ws) :
    aop X h ev ⟨d, .load t x, ty, p, af, g⟩ = some (.val (.agg ws.toArray), .none) := by
  obtain ⟨cs, own, z, h1, h2, h3⟩ := ha.part (Nat.le_of_ble_eq_true hj) hv
  subst ho
  exact av_loadA ht hs hx h1 h2 h3
theorem av_ix {α : Type} {xs : List α} {v : α} {x y : Operand} {t e : TypeId} {sz b o c : Nat} {a : Option Addr} {k : Int} (hu : X.P.underlying t = some (.slice e)) (hs : sizeP X.P e = some sz) (hx : ev x = some (.slice a xs.length c)) (hy : ev y = some (.int .i64 k)) (ha : a = some ⟨b, o, none⟩) (hk : geti xs k = some v) :
    aop X h ev ⟨d, .indexAddr t x y, ty, p, af, g⟩ = some (.val (.pointer (some ⟨b, o + k.toNat * sz, none⟩)), .none) := by
  obtain ⟨h1, h2, _⟩ := geti_some hk
  subst ha
  exact av_idx hu hs hx hy h1.symm h2
theorem abin_w {op : BinOp} {t : TypeId} {P : Program} {x y : Operand} {a b c : Int} (h1 : op = .add ∧ c = a + b ∨ op = .sub ∧ c = a - b ∨ op = .mul ∧ c = a * b) : abin P op t x y (.int .i64 a) (.int .i64 b) = some (.val (.int .i64 (w64 c)), .none) := abin_arith h1
theorem abin_addw {t : TypeId} {P : Program} {x y : Operand} {a b : Int} : abin P .add t x y (.int .i64 a) (.int .i64 b) = some (.val (.int .i64 (w64 (a + b))), .none) := abin_w (.inl ⟨rfl, rfl⟩)
theorem abin_subw {t : TypeId} {P : Program} {x y : Operand} {a b : Int} : abin P .sub t x y (.int .i64 a) (.int .i64 b) = some (.val (.int .i64 (w64 (a - b))), .none) := abin_w (.inr (.inl ⟨rfl, rfl⟩))
theorem abin_mulw {t : TypeId} {P : Program} {x y : Operand} {a b : Int} : abin P .mul t x y (.int .i64 a) (.int .i64 b) = some (.val (.int .i64 (w64 (a * b))), .none) := abin_w (.inr (.inr ⟨rfl, rfl⟩))
end
theorem Sl.atG {α : Type} {e : Rdr α} {wm : Nat} {h : H} {a : Option Addr} {c : Nat} {xs : List α} {k : Int} {x : α} {g : Bool} (s : g = true → Sl e wm h a c xs) (hk : g = true → geti xs k = some x) :
    ∃ i o q, g = true → (a = some ⟨i, o, none⟩ ∧ At h i (o + k.toNat * e.sz) (e.sh q x) ∧ Stb wm h i ∧ e.F wm h q x) := by
  cases g with
  | false => exact ⟨0, 0, e.dflt, fun z => by cases z⟩
  | true => obtain ⟨i, o, q, z⟩ := (s rfl).at_ (hk rfl); exact ⟨i, o, q, fun _ => z⟩
section
variable {ops : Array Oper} {l : List Oper} {fr : Fr} {ds : List Deferred} {h : H} {d : Nat} {ty : TypeId} {p : String} {af : Array Edge} {g : Option (Nat × Bool)} {c : Bool} {QQ : Fr → Prop}
end
abbrev WR (X : Ctx) (f : FuncId) (args : Array Value) (wm : Nat) (h : H) (R : Value → H → Prop) : Prop := WF X f args wm h (fun e h' => ∃ v, e = .ret v ∧ R v h')
theorem WF.pureR {f : FuncId} {args : Array Value} {h : H} {v : Value} (hp : plain v = true) (k : WR X f args h.size h (fun v' _ => v' = v)) : Pure X f args h v :=
  WF.pure hp (k.mono fun e h' ⟨v', h1, h2⟩ => by rw [h1, h2])
end Go.Abs
end
end
section
noncomputable section
namespace Go.Abs
open Go.Lf
variable {X : Ctx} {n wm : Nat} {rd : Option Nat} {Q : XX → Fs → Prop}
variable {ops : Array Oper} {l : List Oper} {fr : Fr} {ds : List Deferred} {h : H} {d : Nat} {ty : TypeId} {p : String} {af : Array Edge} {g : Option (Nat × Bool)}
section
variable {α : Type} {e : Rdr α} {lo : Nat} {h' : H}
theorem ElAt.nil {wm : Nat} {cs : List Value} {o : Nat} (hl : o ≤ cs.length) : ElAt e wm h cs o ([] : List α) := ⟨by simpa using hl, fun k x hk => by simp at hk⟩
theorem ElAt.of_list {wm : Nat} : ∀ (qs : List (e.Par × α)), (∀ q ∈ qs, e.F wm h q.1 q.2) → ElAt e wm h (qs.flatMap fun q => e.sh q.1 q.2) 0 (qs.map (·.2)) := by
  intro qs hq
  have hl : ∀ (qs : List (e.Par × α)), (qs.flatMap fun q => e.sh q.1 q.2).length = qs.length * e.sz := by
    intro qs
    induction qs with
    | nil => simp
    | cons q qs ih => rw [List.flatMap_cons, List.length_append, ih, e.len, List.length_cons, Nat.succ_mul]; omega
  refine ⟨by rw [hl]; simp, ?_⟩
  induction qs with
  | nil => intro k x hk; simp at hk
  | cons q qs ih =>
    intro k x hk
    cases k with
    | zero =>
      simp at hk; subst hk
      refine ⟨q.1, ?_, hq q (by simp)⟩
      rw [List.flatMap_cons, Nat.zero_mul, Nat.add_zero, List.drop_zero, List.take_append_of_le_length (by rw [e.len]; exact Nat.le_refl _), List.take_of_length_le (by rw [e.len]; exact Nat.le_refl _)]
    | succ k =>
      obtain ⟨q', h1, h2⟩ := ih (fun q hq' => hq q (by simp [hq'])) k x (by simpa using hk)
      refine ⟨q', ?_, h2⟩
      rw [← h1, List.flatMap_cons, List.drop_append, e.len, List.drop_of_length_le (by rw [e.len, Nat.succ_mul]; omega), List.nil_append]
      congr 2
      rw [Nat.succ_mul]; omega
theorem ElAt.cut {wm : Nat} {cs : List Value} {o : Nat} {xs : List α} (a : ElAt e wm h cs o xs) : ElAt e wm h ((cs.drop o).take (xs.length * e.sz)) 0 xs := by
  have hl := a.len
  refine ⟨by rw [List.length_take, List.length_drop]; omega, fun k x hk => ?_⟩
  obtain ⟨q, h1, h2⟩ := a.get k x hk
  refine ⟨q, ?_, h2⟩
  have hk' : k < xs.length := (List.getElem?_eq_some_iff.1 hk).1
  have : (k + 1) * e.sz ≤ xs.length * e.sz := Nat.mul_le_mul_right _ hk'
  rw [Nat.succ_mul] at this
  rw [← h1, List.drop_take, List.take_take, List.drop_drop, Nat.zero_add]
  congr 1; omega
theorem ElAt.uncut {wm : Nat} {cs : List Value} {o : Nat} {xs : List α} (hl : o + xs.length * e.sz ≤ cs.length) (a : ElAt e wm h ((cs.drop o).take (xs.length * e.sz)) 0 xs) : ElAt e wm h cs o xs := by
  refine ⟨hl, fun k x hk => ?_⟩
  obtain ⟨q, h1, h2⟩ := a.get k x hk
  refine ⟨q, ?_, h2⟩
  have hk' : k < xs.length := (List.getElem?_eq_some_iff.1 hk).1
  have : (k + 1) * e.sz ≤ xs.length * e.sz := Nat.mul_le_mul_right _ hk'
  rw [Nat.succ_mul] at this
  rw [← h1, List.drop_take, List.take_take, List.drop_drop, Nat.zero_add]
  congr 1; omega
theorem ElAt.append {wm : Nat} {as_ bs : List Value} {xs ys : List α} (hl : as_.length = xs.length * e.sz) (a : ElAt e wm h as_ 0 xs) (b : ElAt e wm h bs 0 ys) : ElAt e wm h (as_ ++ bs) 0 (xs ++ ys) := by
  have h1 := a.len
  have h2 := b.len
  refine ⟨by rw [List.length_append, List.length_append, Nat.add_mul]; omega, fun k x hk => ?_⟩
  rw [Nat.zero_add]
  by_cases hk' : k < xs.length
  · rw [List.getElem?_append_left hk'] at hk
    obtain ⟨q, q1, q2⟩ := a.get k x hk
    refine ⟨q, ?_, q2⟩
    have : (k + 1) * e.sz ≤ xs.length * e.sz := Nat.mul_le_mul_right _ hk'
    rw [Nat.succ_mul] at this
    rw [Nat.zero_add] at q1
    rw [← q1, List.drop_append, List.take_append_of_le_length (by rw [List.length_drop]; omega)]
  · rw [List.getElem?_append_right (by omega)] at hk
    obtain ⟨q, q1, q2⟩ := b.get _ x hk
    refine ⟨q, ?_, q2⟩
    have : xs.length * e.sz ≤ k * e.sz := Nat.mul_le_mul_right _ (by omega)
    rw [Nat.zero_add] at q1
    rw [← q1, List.drop_append, List.drop_of_length_le (by omega), List.nil_append, hl, Nat.sub_mul]
theorem ElAt.one {wm : Nat} {cs : List Value} {xs : List α} (hl : cs.length = xs.length * e.sz) (a : ElAt e wm h cs 0 xs) : cs.all Value.oneCell' = true := by
  rw [List.all_eq_true]
  intro v hv
  obtain ⟨j, hj⟩ := List.mem_iff_getElem?.1 hv
  have hjl : j < cs.length := (List.getElem?_eq_some_iff.1 hj).1
  have hp := e.pos
  have hk : j / e.sz < xs.length := Nat.div_lt_of_lt_mul (by rw [Nat.mul_comm, ← hl]; exact hjl)
  obtain ⟨q, q1, _⟩ := a.get (j / e.sz) xs[j / e.sz] (List.getElem?_eq_getElem hk)
  have hone := e.one q xs[j / e.sz]
  rw [List.all_eq_true] at hone
  refine hone v ?_
  rw [← q1, List.mem_iff_getElem?]
  refine ⟨j % e.sz, ?_⟩
  rw [List.getElem?_take_of_lt (Nat.mod_lt _ hp), List.getElem?_drop, Nat.zero_add]
  have : j / e.sz * e.sz + j % e.sz = j := Nat.div_add_mod' j e.sz
  rw [this]; exact hj
theorem reads_some (h : H) (i o m c sz : Nat) : Go.Abs.reads h (.slice (some ⟨i, o, none⟩) m c) sz = bif Nat.beq m 0 then some [] else
    match h.at i with
    | .row cs _ _ => bif Nat.ble (o + m * sz) cs.length then some ((cs.drop o).take (m * sz)) else none
    | _ => none := by cases i <;> cases o <;> rfl
theorem Src.reads {wm : Nat} {a : Option Addr} {c : Nat} {xs : List α} (s : Src e wm h a c xs) : ∃ vs, reads h (.slice a xs.length c) e.sz = some vs ∧ vs.length = xs.length * e.sz ∧ ElAt e wm h vs 0 xs := by
  rcases s.mem with z | ⟨i, o, cs, own, z, h1, h2, h3⟩
  · subst z
    refine ⟨[], ?_, by simp, ElAt.nil (by simp)⟩
    rcases s.nl with ⟨rfl, rfl⟩ | ⟨rfl, rfl⟩ | ⟨i, o, rfl⟩
    · rfl
    · rfl
    · rw [reads_some]; rfl
  · subst h1
    by_cases hx : xs = []
    · subst hx
      exact ⟨[], by rw [reads_some]; rfl, by simp, ElAt.nil (by simp)⟩
    · have hl := h3.len
      have hpos : 0 < xs.length := List.length_pos_iff.2 hx
      refine ⟨(cs.drop o).take (xs.length * e.sz), ?_, by rw [List.length_take, List.length_drop]; omega, h3.cut⟩
      rw [reads_some]
      have hb : Nat.beq xs.length 0 = false := by rw [Bool.eq_false_iff]; intro hh; have := Nat.eq_of_beq_eq_true hh; omega
      simp only [hb, cond_false, h2]
      rw [Nat.ble_eq_true_of_le hl]; rfl
theorem OwnS.mk' {wm : Nat} {h : H} {xs : List α} {vs : List Value} {i c : Nat} (hm : xs.length ≤ 9223372036854775807) (hlo : lo ≤ i) (hr : h.at i = .row vs true e.sz) (hc : xs.length ≤ c / 2) (hcl : (c / 2) * e.sz ≤ vs.length) (ha : ElAt e wm h vs 0 xs) : OwnS e wm lo h (some ⟨i, 0, none⟩) c xs :=
  ⟨hm, .inr ⟨i, 0, vs, rfl, hlo, hr, hc, by omega, ha⟩⟩
def AppAt (P : Program) (ts : Array TypeId) (sz by_ : Nat) : Prop := ∃ el z, appInfo P ts = some (el, sz, by_, z)
theorem ap_gen {K : Prop} {J : Value → H → Prop} {ts : Array TypeId} {x y : Operand} {by_ : Nat} {a a2 : Option Addr} {c c2 : Nat} {xs ys zs : List α} (lo : Nat) (k' : ∀ v E h1, aop X h (aev fr) ⟨some d, .call { callee := .builtin .append, args := #[x, y], argTypes := ts }, ty, p, af, g⟩ = some (.val v, E) → E.apply wm h = some h1 → J v h1 → K)
    (hi : AppAt X.P ts e.sz by_) (hw : wm ≤ lo) (hlo : lo ≤ h.size) (hx : aev fr x = some (.slice a xs.length c)) (hy : aev fr y = some (.slice a2 ys.length c2)) (so : OwnS e wm lo h a c xs) (sr : Src e wm h a2 c2 ys) (ha : app by_ xs ys = some zs)
    (k : ∀ a' c' h', Up lo (BaseA a) h h' → OwnS e wm lo h' a' c' zs → (∀ i, BaseA a' i → BaseA a i ∨ i = h.size) → J (.slice a' zs.length c') h') : K := by
  obtain ⟨rfl, hbd⟩ := app_some ha
  obtain ⟨el, z, hi⟩ := hi
  obtain ⟨new, n1, n2, n3⟩ := sr.reads
  have n4 := n3.one n2
  have hpos := e.pos
  have hev : evs (aev fr) (#[x, y] : Array Operand).toList = some [.slice a xs.length c, .slice a2 ys.length c2] := evs_cons hx (evs_cons hy evs_nil)
  have hls : lenS (.slice a2 ys.length c2) = ys.length := rfl
  have key : ∀ (v : Value) (E : Eff), aappend X.P h ts (.slice a xs.length c) (.slice a2 ys.length c2) = some (v, E) → aop X h (aev fr) ⟨some d, .call { callee := .builtin .append, args := #[x, y], argTypes := ts }, ty, p, af, g⟩ = some (.val v, E) := by
    intro v E hE
    rw [aop_builtin, hev]
    show vE (aappend X.P h ts (.slice a xs.length c) (.slice a2 ys.length c2)) = _
    rw [hE]; rfl
  have hbyle : by_ = 0 ∨ (2 * (xs.length + ys.length) + 1000) ≤ 2 ^ 47 := by
    rcases Nat.eq_zero_or_pos by_ with z | z
    · exact .inl z
    · right
      have : (2 * (xs.length + ys.length) + 1000) * 1 ≤ (2 * (xs.length + ys.length) + 1000) * by_ := Nat.mul_le_mul_left _ z
      rw [Nat.mul_one] at this
      exact Nat.le_trans this hbd
  have hby : 1 ≤ by_ := by
    unfold appInfo at hi
    split at hi
    · split at hi
      · split at hi
        · rename_i sz0 by0 z0 hs hb hz
          cases hc : (Nat.ble 1 sz0 && Nat.ble 1 by0 && Nat.beq z0.cells.toList.length sz0) <;> rw [hc] at hi <;> simp at hi
          obtain ⟨_, _, rfl, _⟩ := hi
          rw [Bool.and_eq_true, Bool.and_eq_true] at hc
          exact Nat.le_of_ble_eq_true hc.1.2
        · cases hi
      · cases hi
    · cases hi
  have hmax : (xs ++ ys).length ≤ 9223372036854775807 := by
    rw [List.length_append]
    rcases hbyle with z | z <;> omega
  have hle2 : (xs ++ ys).length = xs.length + ys.length := List.length_append
  rcases so.mem with ⟨rfl, rfl, rfl⟩ | ⟨i, o, cs, rfl, hlo2, hrow, hc1, hc2, hel⟩
  · -- of nothing
    by_cases hy0 : ys = []
    · subst hy0
      refine k' _ (.none) _ (key (.slice none 0 0) _ ?_) rfl ?_
      · unfold aappend; rw [hi]; dsimp only; rw [n1]; rfl
      · exact k none 0 h ⟨Nat.le_refl _, fun _ _ _ => rfl, fun i hb => by obtain ⟨o, hb⟩ := hb; cases hb⟩ OwnS.nil (fun i hb => by obtain ⟨o, hb⟩ := hb; cases hb)
    · have hyl : 0 < ys.length := List.length_pos_iff.2 hy0
      refine k' _ (.new (.row ([] ++ new) true e.sz)) _ (key (.slice (some ⟨h.size, 0, none⟩) ([] ++ ys).length (2 * ([] ++ ys).length + 1)) _ ?_) rfl ?_
      · unfold aappend; rw [hi]; dsimp only; rw [n1]; dsimp only
        rw [hls]
        have b1 : Nat.ble (([] : List α).length + ys.length) (0 / 2) = false := by rw [Bool.eq_false_iff]; intro q; have q := Nat.le_of_ble_eq_true q; rw [List.length_nil, Nat.zero_add, Nat.zero_div] at q; omega
        rw [b1, Nat.ble_eq_true_of_le hbd, n4]
        simp only [cond_false, Bool.and_self, cond_true]
        have b2 : reads h (.slice none ([] : List α).length 0) e.sz = some [] := rfl
        rw [b2]
        simp
      · refine k _ _ _ ⟨Nat.le_succ _, fun i hi _ => at_push_old hi _, fun i hb => by obtain ⟨o, hb⟩ := hb; cases hb⟩ ?_ (fun i hb => by obtain ⟨o, hb⟩ := hb; cases hb; exact .inr rfl)
        refine OwnS.mk' hmax hlo (at_push_new h _) (by simp only [List.nil_append]; omega) ?_ ?_
        · simp only [List.nil_append]; rw [n2]; have : (2 * ys.length + 1) / 2 = ys.length := by omega
          rw [this]; omega
        · simp only [List.nil_append]; exact n3.mono ((Up.push lo h _).fz hw)
  · have hown : (h.at i).own = true := by rw [hrow]; rfl
    have hil : i < h.size := live_lt hrow rfl
    have hxl : o + xs.length * e.sz ≤ cs.length := hel.len
    by_cases hroom : xs.length + ys.length ≤ c / 2
    · -- there is room
      by_cases hy0 : ys = []
      · subst hy0
        refine k' _ (.none) _ (key (.slice (some ⟨i, o, none⟩) xs.length c) _ ?_) rfl ?_
        · unfold aappend; rw [hi]; dsimp only; rw [n1]; dsimp only; rw [hls, Nat.ble_eq_true_of_le hroom]; rfl
        · have := k (some ⟨i, o, none⟩) c h ⟨Nat.le_refl _, fun _ _ _ => rfl, fun j hb => by obtain ⟨o', hb⟩ := hb; cases hb; exact ⟨hlo2, hown⟩⟩ (by simpa using so) (fun j hb => .inl hb)
          simpa using this
      · have hyl : 0 < ys.length := List.length_pos_iff.2 hy0
        have hfit : o + xs.length * e.sz + new.length ≤ cs.length := by
          rw [n2]
          have : (xs.length + ys.length) * e.sz ≤ c / 2 * e.sz := Nat.mul_le_mul_right _ hroom
          rw [Nat.add_mul] at this
          omega
        refine k' _ (.upd i (.row (splice cs (o + xs.length * e.sz) new) true e.sz)) (h.put i (.row (splice cs (o + xs.length * e.sz) new) true e.sz)) (key (.slice (some ⟨i, o, none⟩) (xs ++ ys).length c) _ ?_) ?_ ?_
        · unfold aappend; rw [hi]; dsimp only; rw [n1]; dsimp only; rw [hls, Nat.ble_eq_true_of_le hroom]
          have b1 : Nat.beq ys.length 0 = false := by rw [Bool.eq_false_iff]; intro q; have := Nat.eq_of_beq_eq_true q; omega
          rw [b1, hrow]
          simp only [cond_true, cond_false]
          rw [Nat.ble_eq_true_of_le hfit, n4, hle2]; rfl
        · show (bif Nat.ble wm i && (h.at i).own then some (h.put i _) else none) = _
          rw [hown, Nat.ble_eq_true_of_le (Nat.le_trans hw hlo2)]; rfl
        · have hu : Up lo (BaseA (some ⟨i, o, none⟩)) h (h.put i (.row (splice cs (o + xs.length * e.sz) new) true e.sz)) :=
            ⟨Nat.le_refl _, fun j _ hn => at_put_other (fun q => hn ⟨o, by rw [q]⟩) _, fun j hb => by obtain ⟨o', hb⟩ := hb; cases hb; exact ⟨hlo2, hown⟩⟩
          refine k _ _ _ hu ⟨hmax, .inr ⟨i, o, _, rfl, hlo2, at_put_same hil _, by rw [hle2]; exact hroom, ?_, ?_⟩⟩ (fun j hb => .inl hb)
          · simp only [splice, List.length_append, List.length_take, List.length_drop]; omega
          · refine ElAt.uncut ?_ (ElAt.mono (hu.fz hw) ?_)
            · simp only [splice, List.length_append, List.length_take, List.length_drop, Nat.add_mul, ← n2]; omega
            · have e1 : ((splice cs (o + xs.length * e.sz) new).drop o).take ((xs ++ ys).length * e.sz) = (cs.drop o).take (xs.length * e.sz) ++ new := by
                have l1 : (cs.take (o + xs.length * e.sz)).length = o + xs.length * e.sz := by rw [List.length_take]; omega
                unfold splice
                rw [List.append_assoc, List.drop_append_of_le_length (by omega), hle2, Nat.add_mul, ← n2, List.take_append]
                have l2 : ((cs.take (o + xs.length * e.sz)).drop o).length = xs.length * e.sz := by rw [List.length_drop, l1]; omega
                rw [l2, List.take_of_length_le (by rw [l2]; omega), List.drop_take]
                congr 1
                · congr 1; omega
                · have : xs.length * e.sz + new.length - xs.length * e.sz = new.length := by omega
                  rw [this, List.take_append_of_le_length (Nat.le_refl _), List.take_of_length_le (Nat.le_refl _)]
              rw [e1]
              exact ElAt.append (by rw [List.length_take, List.length_drop]; omega) hel.cut n3
    · -- it grows
      have b0 : Nat.ble (xs.length + ys.length) (c / 2) = false := by rw [Bool.eq_false_iff]; intro q; exact hroom (Nat.le_of_ble_eq_true q)
      have hold : reads h (.slice (some ⟨i, o, none⟩) xs.length c) e.sz = some ((cs.drop o).take (xs.length * e.sz)) := by
        rw [reads_some]
        cases hb : Nat.beq xs.length 0 with
        | true =>
          have := Nat.eq_of_beq_eq_true hb
          rw [this]; simp
        | false =>
          simp only [cond_false, hrow]
          rw [Nat.ble_eq_true_of_le hxl]; rfl
      have hol : ((cs.drop o).take (xs.length * e.sz)).length = xs.length * e.sz := by rw [List.length_take, List.length_drop]; omega
      have hrl : ((cs.drop o).take (xs.length * e.sz) ++ new).length = (xs ++ ys).length * e.sz := by rw [List.length_append, hol, n2, hle2, Nat.add_mul]
      have hcap : (2 * (xs ++ ys).length + 1) / 2 = (xs ++ ys).length := by omega
      cases hev2 : Nat.beq (c % 2) 0 with
      | true =>
        refine k' _ (.new (.row ((cs.drop o).take (xs.length * e.sz) ++ new) true e.sz)) _ (key (.slice (some ⟨h.size, 0, none⟩) (xs ++ ys).length (2 * (xs ++ ys).length + 1)) _ ?_) rfl ?_
        · unfold aappend; rw [hi]; dsimp only; rw [n1]; dsimp only; rw [hls, b0, Nat.ble_eq_true_of_le hbd, n4, hold, hev2, hle2]; rfl
        · refine k _ _ _ ⟨Nat.le_succ _, fun j hj _ => at_push_old hj _, fun j hb => by obtain ⟨o', hb⟩ := hb; cases hb; exact ⟨hlo2, hown⟩⟩ ?_ (fun j hb => by obtain ⟨o', hb⟩ := hb; cases hb; exact .inr rfl)
          refine OwnS.mk' hmax hlo (at_push_new h _) (by omega) (by rw [hcap, hrl]; exact Nat.le_refl _) ?_
          exact (ElAt.append hol hel.cut n3).mono ((Up.push lo h _).fz hw)
      | false =>
        refine k' _ (.grow i (.row ((cs.drop o).take (xs.length * e.sz) ++ new) true e.sz)) ((h.put i .dead).push (.row ((cs.drop o).take (xs.length * e.sz) ++ new) true e.sz)) (key (.slice (some ⟨h.size, 0, none⟩) (xs ++ ys).length (2 * (xs ++ ys).length + 1)) _ ?_) ?_ ?_
        · unfold aappend; rw [hi]; dsimp only; rw [n1]; dsimp only; rw [hls, b0, Nat.ble_eq_true_of_le hbd, n4, hold, hev2]
          simp only [cond_false, Bool.and_self, cond_true]
          rw [hrow]
          dsimp only
          rw [Nat.beq_refl, hle2]; rfl
        · show (bif Nat.ble wm i && (h.at i).own && true then some ((h.put i .dead).push _) else none) = _
          rw [hown, Nat.ble_eq_true_of_le (Nat.le_trans hw hlo2)]; rfl
        · have hu : Up lo (BaseA (some ⟨i, o, none⟩)) h ((h.put i .dead).push (.row ((cs.drop o).take (xs.length * e.sz) ++ new) true e.sz)) :=
            ⟨Nat.le_succ _, fun j hj hn => by rw [at_push_old (by simpa using hj), at_put_other (fun q => hn ⟨o, by rw [q]⟩)], fun j hb => by obtain ⟨o', hb⟩ := hb; cases hb; exact ⟨hlo2, hown⟩⟩
          refine k _ _ _ hu ?_ (fun j hb => by obtain ⟨o', hb⟩ := hb; cases hb; exact .inr rfl)
          refine OwnS.mk' hmax hlo (by have := at_push_new (h.put i .dead) (.row ((cs.drop o).take (xs.length * e.sz) ++ new) true e.sz); simpa using this) (by omega) (by rw [hcap, hrl]; exact Nat.le_refl _) ?_
          exact (ElAt.append hol hel.cut n3).mono (hu.fz hw)
end
theorem BaseA.none {i : Nat} : ¬ BaseA Option.none i := fun ⟨_, h⟩ => by cases h
section
variable {α : Type} {e : Rdr α} {lo : Nat} {h' : H}
end
end Go.Abs
end
end
section
noncomputable section
namespace Go.Abs
open Go.Lf
variable {X : Ctx} {P : Program}
theorem pureRun_bind2 {α β : Type} (s : Sem α) (f : α → Sem β) : pureRun P (s >>= f) = match pureRun P s with
    | some (.ok a) => pureRun P (f a)
    | some (.error v) => some (.error v)
    | none => none := by
  induction s with
  | pure a => rfl
  | program k ih => exact ih P
  | halt x => cases x <;> rfl
  | load | store | new | shape | freeze | frozen | getObj | setObj | choose | sys | mark => rfl
theorem prb {α β : Type} {s : Sem α} {f : α → Sem β} {a : α} (h : pureRun P s = some (.ok a)) : pureRun P (s >>= f) = pureRun P (f a) := by rw [pureRun_bind2, h]
theorem pr_underlying {t : TypeId} {u : TypeDesc} (h : P.underlying t = some u) : pureRun P (underlying t) = some (.ok u) := by
  show pureRun P (match P.underlying t with | some d => pure d | none => stuck "no such type") = _
  rw [h]; rfl
theorem eq_int {t : TypeId} {k : IntKind} {a b : Int} {d : Nat} (hu : P.underlying t = some (.int k)) : pureRun P (Op.equalIn (d + 1) t (.int k a) (.int k b)) = some (.ok (a == b)) := by
  unfold Op.equalIn
  rw [prb (pr_underlying hu)]
  show pureRun P (if k = k then pure (a == b) else stuck "==: kinds differ") = _
  rw [if_pos rfl]; rfl
theorem eq_bool {t : TypeId} {a b : Bool} {d : Nat} (hu : P.underlying t = some .bool) : pureRun P (Op.equalIn (d + 1) t (.bool a) (.bool b)) = some (.ok (a == b)) := by
  unfold Op.equalIn
  rw [prb (pr_underlying hu)]; rfl
theorem part_cell {t : TypeId} {cs : Array Value} {off : Nat} {v : Value} (ht : isAggP P t = some false) (hv : cs[off]? = some v) : pureRun P (part t cs off) = some (.ok v) := by
  unfold isAggP at ht
  unfold part isAgg
  cases hu : P.underlying t with
  | none => rw [hu] at ht; cases ht
  | some u =>
    rw [hu] at ht
    rw [prb (a := false)]
    · simp only [hv]; rfl
    · rw [prb (pr_underlying hu)]
      cases u <;> first | rfl | (cases ht; done)
def FEq (P : Program) (d : Nat) (xs ys : Array Value) : List Field → List Bool → Prop
  | [], [] => True
  | f :: fl, b :: bs => (f.name ≠ "_" ∧ ∃ v w, pureRun P (part f.type xs f.offset) = some (.ok v) ∧ pureRun P (part f.type ys f.offset) = some (.ok w) ∧ pureRun P (Op.equalIn d f.type v w) = some (.ok b)) ∧ FEq P d xs ys fl bs
  | _, _ => False
theorem feq_run {d : Nat} {xs ys : Array Value} : ∀ {fl : List Field} {bs : List Bool}, FEq P d xs ys fl bs →
    pureRun P (forIn fl ((none : Option Bool), ()) fun f _ => if f.name ≠ "_" then do
        let a ← part f.type xs f.offset
        let b ← part f.type ys f.offset
        let r ← Op.equalIn d f.type a b
        if (!r) = true then pure (ForInStep.done (some false, ())) else pure (ForInStep.yield (none, ()))
      else pure (ForInStep.yield (none, ())) : Sem (Option Bool × Unit)) = some (.ok (bif bs.all id then none else some false, ())) := by
  intro fl
  induction fl with
  | nil =>
    intro bs h
    cases bs with
    | nil => rfl
    | cons => exact h.elim
  | cons f fl ih =>
    intro bs h
    cases bs with
    | nil => exact h.elim
    | cons b bs =>
      obtain ⟨⟨h1, v, w, h2, h3, h4⟩, h5⟩ := h
      rw [List.forIn_cons, if_pos h1, pureRun_bind2, prb h2, prb h3, prb h4]
      cases b with
      | false => rfl
      | true =>
        have := ih h5
        have e : (true :: bs).all id = bs.all id := by simp
        rw [e, ← this]; rfl
theorem eq_struct {t : TypeId} {fs : Array Field} {xs ys : Array Value} {d : Nat} {bs : List Bool} (hu : P.underlying t = some (.struct fs)) (hst : P.stoodInHeld t = false) (hf : FEq P d xs ys fs.toList bs) :
    pureRun P (Op.equalIn (d + 1) t (.agg xs) (.agg ys)) = some (.ok (bs.all id)) := by
  unfold Op.equalIn
  rw [prb (pr_underlying hu)]
  show pureRun P (if P.stoodInHeld t = true then _ else _) = _
  rw [hst, if_neg (by simp)]
  dsimp only
  have := feq_run hf
  rw [← Array.forIn_toList]
  rw [prb this]
  cases bs.all id <;> rfl
theorem eqGuard_off {t : TypeId} {x y : Operand} {xs ys : Array Value} {op : BinOp} (hop : op = .eql ∨ op = .neq) (hg : P.eqGuardType P.depth t = false) : pureRun P (eqGuard op t x y (.agg xs) (.agg ys)) = some (.ok ()) := by
  rcases hop with rfl | rfl
  · show pureRun P (if (!P.eqGuardType P.depth t) = true then _ else _) = _
    rw [hg]; rfl
  · show pureRun P (if (!P.eqGuardType P.depth t) = true then _ else _) = _
    rw [hg]; rfl
def EqOf (P : Program) (t : TypeId) (xs ys : List Value) (b : Bool) : Prop := P.eqGuardType P.depth t = false ∧ pureRun P (Op.equal t (.agg xs.toArray) (.agg ys.toArray)) = some (.ok b)
theorem abin_eqS {t : TypeId} {x y : Operand} {xs ys : List Value} {b : Bool} (h : EqOf P t xs ys b) (h1 : xs.all scalar = true) (h2 : ys.all scalar = true) : abin P .eql t x y (.agg xs.toArray) (.agg ys.toArray) = some (.val (.bool b), .none) := by
  have hp : (plain (.agg xs.toArray) && plain (.agg ys.toArray)) = true := by
    have e1 : plain (.agg xs.toArray) = xs.all scalar := rfl
    have e2 : plain (.agg ys.toArray) = ys.all scalar := rfl
    rw [e1, e2, h1, h2]; rfl
  unfold abin
  rw [hp, cond_true]
  unfold pval
  rw [prb (eqGuard_off (.inl rfl) h.1)]
  have : pureRun P (binOp .eql t (.agg xs.toArray) (.agg ys.toArray)) = some (.ok (.bool b)) := by
    show pureRun P (do pure (Value.bool (← Op.equal t (.agg xs.toArray) (.agg ys.toArray))) : Sem Value) = _
    rw [prb h.2]; rfl
  rw [this]; rfl
theorem aload_at1 {h : H} {t : TypeId} {b o oo j : Nat} {vs : List Value} {v : Value} (ht : isAggP P t = some false) (ha : At h b o vs) (ho : oo = o + j) (hv : vs[j]? = some v) : aload P h t (.pointer (some ⟨b, oo, none⟩)) = some v := by
  obtain ⟨cs, own, z, h1, h2⟩ := ha.cell hv
  subst ho
  exact Slc.load h1 ht h2
theorem ares_nil {fr : Fr} {h : H} : ares P fr h [] = some [] := rfl
theorem ares_tmp {fr : Fr} {h : H} {t : Nat} {v : Value} {rs : List ResultVar} {vs : List Value} (hv : aev fr (.tmp t) = some v) (hr : ares P fr h rs = some vs) : ares P fr h (.tmp t :: rs) = some (v :: vs) := by
  have e : ares1 P fr h (.tmp t) = some v := hv
  simp only [ares, e, hr]
theorem ares_cell {fr : Fr} {h : H} {a t : Nat} {p v : Value} {rs : List ResultVar} {vs : List Value} (hp : fr.at a = p) (hv : aload P h t p = some v) (hr : ares P fr h rs = some vs) : ares P fr h (.cell a t :: rs) = some (v :: vs) := by
  have e : ares1 P fr h (.cell a t) = some v := by show aload P h t (fr.at a) = some v; rw [hp]; exact hv
  simp only [ares, e, hr]
theorem RetK.gen1 {fn : Func} {R : Value → H → Prop} {fr : Fr} {h : H} {wr : Option Nat} {rs : List ResultVar} {v : Value} (hr : fn.results.toList = rs) (hv : ares X.P fr h rs = some [v]) (k : R v h) : RetK X fn (fun e h' => ∃ v, e = .ret v ∧ R v h') .ret ⟨fr, [], h, wr⟩ := by
  refine ⟨⟨rfl, v, ?_, v, rfl, k⟩⟩
  unfold aresult
  dsimp only
  rw [hr, hv]
theorem RetK.gen {fn : Func} {R : Value → H → Prop} {fr : Fr} {h : H} {wr : Option Nat} {rs : List ResultVar} {vs : List Value} (hr : fn.results.toList = rs) (hv : ares X.P fr h rs = some vs) (hl : Nat.beq vs.length 1 = false) (k : R (.tuple vs.toArray) h) : RetK X fn (fun e h' => ∃ v, e = .ret v ∧ R v h') .ret ⟨fr, [], h, wr⟩ := by
  refine ⟨⟨rfl, _, ?_, _, rfl, k⟩⟩
  unfold aresult
  dsimp only
  rw [hr, hv]
  match vs, hl with
  | [], _ => rfl
  | [_], h => cases h
  | _ :: _ :: _, _ => rfl
theorem RetK.nrm {fn : Func} {R : AEnd → H → Prop} {s : Fs} (k : RetK X fn R .ret s) : RetK X fn R .normal s := ⟨k.out⟩
theorem abin_boolB {op : BinOp} {t : TypeId} {x y : Operand} {a b r : Bool} (hu : P.underlying t = some .bool) (h : op = .eql ∧ r = (a == b) ∨ op = .neq ∧ r = (a != b)) : abin P op t x y (.bool a) (.bool b) = some (.val (.bool r), .none) := by
  have hp : (plain (.bool a) && plain (.bool b)) = true := rfl
  have h2 : pureRun P (Op.equal t (.bool a) (.bool b)) = some (.ok (a == b)) := eq_bool (d := 9999) hu
  unfold abin
  rw [hp, cond_true]
  unfold pval
  rcases h with ⟨rfl, rfl⟩ | ⟨rfl, rfl⟩
  · have h1 : pureRun P (eqGuard .eql t x y (.bool a) (.bool b)) = some (.ok ()) := rfl
    rw [prb h1]
    have : pureRun P (binOp .eql t (.bool a) (.bool b)) = some (.ok (.bool (a == b))) := by
      show pureRun P (do pure (Value.bool (← Op.equal t (.bool a) (.bool b))) : Sem Value) = _
      rw [prb h2]; rfl
    rw [this]; rfl
  · have h1 : pureRun P (eqGuard .neq t x y (.bool a) (.bool b)) = some (.ok ()) := rfl
    rw [prb h1]
    have : pureRun P (binOp .neq t (.bool a) (.bool b)) = some (.ok (.bool (a != b))) := by
      show pureRun P (do pure (Value.bool (!(← Op.equal t (.bool a) (.bool b)))) : Sem Value) = _
      rw [prb h2]; rfl
    rw [this]; rfl
theorem abin_eqlB {t : TypeId} {x y : Operand} {a b : Bool} (hu : P.underlying t = some .bool) : abin P .eql t x y (.bool a) (.bool b) = some (.val (.bool (a == b)), .none) := abin_boolB hu (.inl ⟨rfl, rfl⟩)
theorem abin_neqB {t : TypeId} {x y : Operand} {a b : Bool} (hu : P.underlying t = some .bool) : abin P .neq t x y (.bool a) (.bool b) = some (.val (.bool (a != b)), .none) := abin_boolB hu (.inr ⟨rfl, rfl⟩)
end Go.Abs
end
end
section
noncomputable section
namespace Go.Abs
open Go.Lf
abbrev SfT := List (Nat × Nat × Nat × (AObj → Prop)) × List (Nat × List Nat)
variable {X : Ctx} {n wm : Nat} {rd : Option Nat} {ops : Array Oper} {l : List Oper} {fr : Fr} {ds : List Deferred} {h h1 : H} {ty : TypeId} {p : String} {af : Array Edge} {g : Option (Nat × Bool)} {m : Nat} {sf : SfT}
def Indep (A : AObj) : Prop := ∀ (ρ ρ' : Ren) (w : World) (b d : Nat) (l : Nat × Nat), ObjR ρ w b d l A → ObjR ρ' w b d l A
def Prm (P : Program) (wm : Nat) (rd : Option Nat) (ops : Array Oper) (o : Oper) (fr : Fr) (h : H) (v : Value) (x : Nat) (C : AObj → Prop) : Prop :=
  x < h.size ∧ Indep (h.at x) ∧ StepOK P wm rd ops o (fun _ => False) fr h v h ∧ ∀ A, C A → Indep A ∧ StepOK P wm rd ops o (fun _ => False) fr (h.put x A) v (h.put x A)
variable {Q : Fr → H → Prop}
theorem MOf_f (wm : Nat) (t : Option Nat) : MOf false wm t = fun x => t = some x := by funext x; unfold MOf; simp
theorem comp_sym {ps : List Nat} {i j : Nat} (h : i ≠ j) : comp ps i j = comp ps j i := by
  unfold comp
  rcases Nat.lt_or_ge i j with z | z
  · have h1 : Nat.blt i j = true := by rw [Nat.blt_eq]; exact z
    have h2 : Nat.blt j i = false := by rw [Bool.eq_false_iff]; intro q; rw [Nat.blt_eq] at q; omega
    rw [h1, h2]; rfl
  · have h1 : Nat.blt j i = true := by rw [Nat.blt_eq]; omega
    have h2 : Nat.blt i j = false := by rw [Bool.eq_false_iff]; intro q; rw [Nat.blt_eq] at q; omega
    rw [h1, h2]; rfl
theorem st_ex {x y : Operand} {t : TypeId} {b o z sz : Nat} {cs cs' vs : List Value} {v : Value} {d : Option Tmp} (hs : sizeP X.P t = some sz) (hx : aev fr x = some (.pointer (some ⟨b, o, none⟩))) (hy : aev fr y = some v)
    (hr : h.at b = .row cs true z) (hb : wm ≤ b) (hvs : v.cells.toList = vs) (hn : vs.length = sz) (hl : o + sz ≤ cs.length) (hc : vs.all Value.oneCell' = true) (hv : splice cs o vs = cs') :
    aop X h (aev fr) ⟨d, .store t x y, ty, p, af, g⟩ = some (.skip, .upd b (.row cs' true z)) ∧ (Eff.upd b (.row cs' true z)).apply wm h = some (h.put b (.row cs' true z)) := by
  subst hvs
  refine ⟨?_, ?_⟩
  · rw [aop_store, hx, hy]
    dsimp only
    have : astore X.P h t (.pointer (some ⟨b, o, none⟩)) v = some (.upd b (.row cs' true z)) := by
      unfold astore
      rw [hs]
      dsimp only
      rw [hr]
      dsimp only
      have h1 : Nat.beq v.cells.toList.length sz = true := by rw [hn]; exact Nat.beq_refl sz
      have h2 : Nat.ble (o + sz) cs.length = true := Nat.ble_eq_true_of_le hl
      rw [h1, h2, hc, hv]; rfl
    rw [this]; rfl
  · show (bif Nat.ble wm b && (h.at b).own then some (h.put b (.row cs' true z)) else none) = _
    rw [hr]
    have : Nat.ble wm b = true := Nat.ble_eq_true_of_le hb
    rw [this]; rfl
theorem av_bld {d : Option Tmp} {t : TypeId} {ps : Array (Nat × Operand)} {zs cs' : List Value} {pl : List (Nat × Nat)} {pvs : List (Nat × Value)} {ev : Operand → Option Value} (hb : BuildAt X.P t zs pl) (hp : evp ev ps.toList = some pvs) (ho : fillOK (fun i => pl[i]?) zs.length pvs = true) (hv : fillR (fun i => (pl.getD i (0, 0)).1) zs pvs = cs') :
    aop X h ev ⟨d, .build t ps, ty, p, af, g⟩ = some (.val (.agg cs'.toArray), .none) := by
  subst hv
  obtain ⟨z, fs, h1, rfl, h3, h4⟩ := hb
  show (match evp ev ps.toList with | some ps => vN (abuild X.P t ps) | none => none) = _
  rw [hp]
  dsimp only
  unfold abuild
  rw [h1, h3]
  dsimp only
  rw [h4]
  dsimp only
  rw [afill_eq (off := fun i => (pl.getD i (0, 0)).1) (fun i p e => by rw [List.getD_eq_getElem?_getD, e]; rfl) _ _ ho]
  rfl
section
variable {α : Type} {e : Rdr α}
end
end Go.Abs
end
end
section
noncomputable section
namespace Go.Abs
open Go.Lf
variable {X : Ctx} {P : Program} {κ ν : Type} [DecidableEq κ]
variable {kt : TypeId} {kv : κ → Value} {vv : ν → Value}
variable {wm lo : Nat} {h h' : H} {m : Option Nat} {l : List (κ × ν)}
section
variable {ops : Array Oper} {ol : List Oper} {fr : Fr} {ds : List Deferred} {ty : TypeId} {p : String} {af : Array Edge} {g : Option (Nat × Bool)} {d : Option Tmp} {vt : TypeId} {ev : Operand → Option Value}
end
end Go.Abs
end
end
section
noncomputable section
namespace Go.Abs
open Go.Lf
variable {P : Program}
end Go.Abs
end
end
section
noncomputable section
namespace Go.Abs
open Go.Lf
variable {X : Ctx} {n wm lo : Nat} {Q : XX → Fs → Prop} {fr : Fr} {ds : List Deferred} {h : H}
def RdOK (X : Ctx) (l : Nat) (args : Array Value) (wm : Nat) (h : H) (R : Bool → H → Prop) : Prop := ∃ b h', R b h' ∧ JobOK X (.round l args wm h) (.fin (.ret (.bool b)) h')
section
variable {ops : Array Oper} {ol : List Oper} {d : Nat} {ty : TypeId} {p : String} {af : Array Edge} {g : Option (Nat × Bool)} {rd : Option Nat}
theorem WO.round {l : Nat} {args : Array Value} {E : Eff} {v : Value} {h1 h2 : H} {op : Op} (hg : GuardOn ops ⟨some d, op, ty, p, af, g⟩ fr) (hd : Nat.blt d n = true) (ha : aop X h (aev fr) ⟨some d, op, ty, p, af, g⟩ = some (.round l args, E)) (hE : E.apply wm h = some h1)
    (hc : JobOK X (.round l args wm h1) (.fin (.ret v) h2)) (k : WO X n wm rd ops ol ⟨Tr.set fr d v, ds, h2, none⟩ Q) : WO X n wm rd ops (⟨some d, op, ty, p, af, g⟩ :: ol) ⟨fr, ds, h, none⟩ Q := by
  have hd' : dstOk n (some d) = true := hd
  refine WO.cons (oneJob_ok hc) (s1 := ⟨Tr.set fr d v, ds, h2, none⟩) ?_ k
  unfold astep
  rw [hg.1, hg.2]
  dsimp only [Bool.not_true, cond_false, cond_true]
  rw [ha]
  dsimp only [Bool.not_true, cond_false, cond_true]
  rw [hE]
  unfold aupon
  dsimp only [withH_eq, cond_false]
  rw [oneJob_eq]
  dsimp only
  rw [aput_ok hd']
  rfl
theorem WO.yld {l : Nat} {fo : Operand} {xs : Array Operand} {ts : Array TypeId} {vs : List Value} {R : Bool → H → Prop} {st : LoopState} {pd : Option Code} {fr' : Fr} {n' : Nat} {ps : Array Tmp} {as_ bd : Code} {df : Nat}
    (hg : GuardOn ops ⟨some d, .call { callee := .value fo, args := xs, argTypes := ts }, ty, p, af, g⟩ fr) (hd : Nat.blt d n = true) (hf : aev fr fo = some (.func (.yield l) #[] #[])) (hx : evs (aev fr) xs.toList = some vs)
    (hat : h.at l = .loop st pd fr' n' ps as_ bd df) (hl : vs.length = ps.toList.length) (hr : RdOK X l vs.toArray wm h R) (k : ∀ b h', R b h' → WO X n wm rd ops ol ⟨Tr.set fr d (.bool b), ds, h', none⟩ Q) :
    WO X n wm rd ops (⟨some d, .call { callee := .value fo, args := xs, argTypes := ts }, ty, p, af, g⟩ :: ol) ⟨fr, ds, h, none⟩ Q := by
  obtain ⟨b, h', hR, hj⟩ := hr
  refine WO.round (E := .none) hg hd ?_ rfl hj (k b h' hR)
  rw [aop_value, hx]
  dsimp only
  rw [hf]
  dsimp only
  unfold acall
  dsimp only
  rw [hat]
  dsimp only
  rw [hl, Nat.beq_refl]; rfl
theorem WO.gsplit {o : Oper} {c : Bool} (_ : GuardIs ops o fr c) (h1 : c = true → WO X n wm rd ops (o :: ol) ⟨fr, ds, h, none⟩ Q) (h2 : c = false → WO X n wm rd ops (o :: ol) ⟨fr, ds, h, none⟩ Q) : WO X n wm rd ops (o :: ol) ⟨fr, ds, h, none⟩ Q := by
  cases c
  · exact h2 rfl
  · exact h1 rfl
theorem GuardIs.on {o : Oper} {c : Bool} (hg : GuardIs ops o fr c) (hc : c = true) : GuardOn ops o fr := ⟨hg.1, hg.2.trans hc⟩
theorem GuardIs.off {o : Oper} {c : Bool} (hg : GuardIs ops o fr c) (hc : c = false) : GuardOff ops o fr := ⟨hg.1, hg.2.trans hc⟩
end
structure RetL (X : Ctx) (fn : Func) (wm : Nat) (Q : AEnd → H → Prop) (e : XX) (s : Fs) : Prop where
  out : ∃ pm E h', xPM e = some pm ∧ Q E h' ∧ JobOK X (.leave fn wm pm s) (.fin E h')
theorem WF.enterL {f : FuncId} {fn : Func} {c : Code} {args : Array Value} {Q : AEnd → H → Prop} (hf : X.fns.get f = some fn) (hb : fn.body = some c) (hn : args.toList.length ≤ fn.ntmps)
    (k : WC X fn.ntmps wm none c { fr := frameOf args.toList 0 .nil, ds := [], h := h } (RetL X fn wm Q)) : WF X f args wm h Q := by
  obtain ⟨e, s', ⟨pm, E, h', hpm, hq, hj⟩, ka⟩ := k
  refine ⟨E, h', hq, ?_⟩
  intro ρ args' w hwm hr hv
  have hi : Inv ρ fn.ntmps { fr := frameOf args.toList 0 .nil, ds := [], h := h } { tmps := args' ++ Array.replicate (fn.ntmps - args'.size) undef, defers := [] } w :=
    ⟨hr, frameOf_sound hv hn, .nil⟩
  refine callsIn_of_wp_marks (X.ok f fn hf).1 hb trivial (wpIn_mono (ka ρ _ w Fence.wide hwm hi rfl) ?_)
  rintro e' a' w' ⟨ρ', he, hi', hst⟩
  cases he with
  | normal => cases hpm; exact hj ρ' _ a' .returning w' _ (Nat.le_trans hwm hst.size) hi' .ret (fun _ _ hp => PostF.trans hr.lt hst hp)
  | ret => cases hpm; exact hj ρ' _ a' .returning w' _ (Nat.le_trans hwm hst.size) hi' .ret (fun _ _ hp => PostF.trans hr.lt hst hp)
  | panic hv' => cases hpm; exact hj ρ' _ a' _ w' _ (Nat.le_trans hwm hst.size) hi' (.pan hv') (fun _ _ hp => PostF.trans hr.lt hst hp)
  | exit id => cases hpm
  | goto l => cases hpm
theorem WF.beginL {f : FuncId} {fn : Func} {c : Code} {args : List Value} {n : Nat} {R : AEnd → H → Prop} (hf : X.fns.get f = some fn) (hb : fn.body = some c) (hnt : fn.ntmps = n) (hn : args.length ≤ n)
    (k : WC X n wm none c ⟨frameOf args 0 .nil, [], h, none⟩ (RetL X fn wm R)) : WF X f args.toArray wm h R := by
  subst hnt
  exact WF.enterL hf hb hn k
theorem leave_nil {fn : Func} {v : Value} {wr : Option Nat} (hv : aresult X.P fn fr h = some v) : JobOK X (.leave fn wm .ret ⟨fr, [], h, wr⟩) (.fin (.ret v) h) := by
  refine evLeave_sound (C := cfg X fun _ => false) (ih := fun _ => none) (fun _ _ h => by cases h) ?_
  have hv' : aresult (cfg X fun _ => false).X.P fn fr h = some v := hv
  unfold evLeave
  simp only [hv']
theorem leave_col {fn : Func} {pm : PM} {r : Nat} {wr : Option Nat} {E : AEnd} {h' : H} (hat : h.at r = .deferred) (hw : wm ≤ r) (hj : JobOK X (.leave fn wm pm ⟨fr, ds, h.put r .dead, wr⟩) (.fin E h')) : JobOK X (.leave fn wm pm ⟨fr, ⟨.collected r, #[]⟩ :: ds, h, wr⟩) (.fin E h') := by
  refine evLeave_sound (C := cfg X fun _ => false) (ih := oneJob (.leave fn wm pm ⟨fr, ds, h.put r .dead, wr⟩) (.fin E h')) (oneJob_ok hj) ?_
  unfold evLeave
  dsimp only
  rw [hat]
  dsimp only
  rw [Nat.ble_eq_true_of_le hw, cond_true]
  exact oneJob_eq _ _
theorem RetL.gen {fn : Func} {R : Value → H → Prop} {rs : List ResultVar} {vs : List Value} {v : Value} (hr : fn.results.toList = rs) (hv : ares X.P fr h rs = some vs) (hl : (match vs with | [v] => v | vs => .tuple vs.toArray) = v) (k : R v h) : RetL X fn wm (fun e h' => ∃ v, e = .ret v ∧ R v h') .ret ⟨fr, [], h, none⟩ := by
  refine ⟨⟨.ret, .ret v, h, rfl, ⟨v, rfl, k⟩, leave_nil ?_⟩⟩
  unfold aresult
  rw [hr, hv, ← hl]
  match vs with
  | [] => rfl
  | [_] => rfl
  | _ :: _ :: _ => rfl
theorem RetL.col {fn : Func} {R : AEnd → H → Prop} {r : Nat} (lo : Nat) (hlo : lo ≤ r) (hat : h.at r = .deferred) (hw : wm ≤ r) (k : ∀ h', Up lo (fun i => i = r) h h' → RetL X fn wm R .ret ⟨fr, ds, h', none⟩) : RetL X fn wm R .ret ⟨fr, ⟨.collected r, #[]⟩ :: ds, h, none⟩ := by
  have hu : Up lo (fun i => i = r) h (h.put r .dead) := Up.put hlo (by rw [hat]; rfl)
  obtain ⟨pm, E, h', hpm, hq, hj⟩ := (k _ hu).out
  cases hpm
  exact ⟨⟨.ret, E, h', rfl, hq, leave_col hat hw hj⟩⟩
section
variable {ops : Array Oper} {ol : List Oper} {d : Nat} {ty : TypeId} {p : String} {af : Array Edge} {g : Option (Nat × Bool)} {rd : Option Nat} {mm : Nat} {sf : SfT} {QQ : Fr → H → Prop} {κ ν : Type} [DecidableEq κ] {kt vt : TypeId} {kv : κ → Value} {vv : ν → Value} {m : Option Nat} {l : List (κ × ν)}
end
theorem WO.offO {ops : Array Oper} {ol : List Oper} {d : Nat} {op : Op} {ty : TypeId} {p : String} {af : Array Edge} {g : Option (Nat × Bool)} {rd : Option Nat} {c : Bool} (hg : GuardIs ops ⟨some d, op, ty, p, af, g⟩ fr c) (hc : c = false) (hd : Nat.blt d n = true) (k : WO X n wm rd ops ol ⟨Tr.set fr d undef, ds, h, none⟩ Q) :
    WO X n wm rd ops (⟨some d, op, ty, p, af, g⟩ :: ol) ⟨fr, ds, h, none⟩ Q := WO.o (hg.off hc) hd k
theorem av_mkf {ev : Operand → Option Value} {d : Option Tmp} {ty : TypeId} {p : String} {af : Array Edge} {g : Option (Nat × Bool)} {f : FuncId} {xs : Array Operand} {vs : List Value} (hx : evs ev xs.toList = some vs) : aop X h ev ⟨d, .makeFunc (.func f) #[] xs, ty, p, af, g⟩ = some (.val (.func (.func f) #[] vs.toArray), .none) := by
  show (bif isYield (.func f) then none else match evs ev [], evs ev xs.toList with | some vs, some us => some (AN.val (.func (.func f) vs.toArray us.toArray), Eff.none) | _, _ => none) = _
  rw [hx]; rfl
section
variable {ops : Array Oper} {ol : List Oper} {d : Nat} {ty : TypeId} {p : String} {af : Array Edge} {g : Option (Nat × Bool)} {rd : Option Nat} {mm : Nat} {sf : SfT} {QQ : Fr → H → Prop} {κ ν : Type} [DecidableEq κ] {kt vt : TypeId} {kv : κ → Value} {vv : ν → Value} {m : Option Nat} {l : List (κ × ν)}
end
end Go.Abs
end
end
section
noncomputable section
namespace Go.Abs
open Go.Lf
theorem own_lt {h : H} {i : Nat} (e : (h.at i).own = true) : i < h.size := by
  rcases Nat.lt_or_ge i h.size with z | z
  · exact z
  · rw [H.at_ge z] at e; cases e
structure Ast (wm : Nat) where
  P : H → Prop
  fp : Nat → Prop
  loc : ∀ {h h' : H}, Fz wm h h' → (∀ i, fp i → h'.at i = h.at i) → P h → P h'
  own : ∀ {h : H} {i : Nat}, P h → fp i → wm ≤ i ∧ (h.at i).own = true
def Dj {wm : Nat} (A B : Ast wm) : Prop := ∀ i, A.fp i → B.fp i → False
theorem Dj.symm {wm : Nat} {A B : Ast wm} (h : Dj A B) : Dj B A := fun i a b => h i b a
structure Hold {wm : Nat} (G : List (Ast wm)) (h : H) : Prop where
  all : ∀ A ∈ G, A.P h
  dis : G.Pairwise Dj
def Fps {wm : Nat} (G : List (Ast wm)) (i : Nat) : Prop := ∃ A ∈ G, A.fp i
structure Sp (wm : Nat) (T : Nat → Prop) (h0 : H) (G : List (Ast wm)) (h : H) : Prop where
  wl : wm ≤ h0.size
  fz : Fz wm h0 h
  keep : ∀ i, i < h0.size → ¬ T i → h.at i = h0.at i
  hold : Hold G h
  inn : ∀ i, Fps G i → T i ∨ h0.size ≤ i
inductive Pk {α : Type} : List α → α → List α → Prop
  | z {A : α} {G : List α} : Pk (A :: G) A G
  | s {A B : α} {G G' : List α} : Pk G A G' → Pk (B :: G) A (B :: G')
theorem Pk.perm {α : Type} {G G' : List α} {A : α} (p : Pk G A G') : G.Perm (A :: G') := by
  induction p with
  | z => exact List.Perm.refl _
  | s _ ih => exact (List.Perm.cons _ ih).trans (List.Perm.swap _ _ _)
theorem Pk.mem {α : Type} {G G' : List α} {A : α} (p : Pk G A G') : A ∈ G := p.perm.mem_iff.2 (by simp)
inductive Sel {α : Type} : List α → List α → List α → Prop
  | n {G : List α} : Sel G [] G
  | c {A : α} {G G1 Ga Gr : List α} : Pk G A G1 → Sel G1 Ga Gr → Sel G (A :: Ga) Gr
theorem Sel.perm {α : Type} {G Ga Gr : List α} (p : Sel G Ga Gr) : G.Perm (Ga ++ Gr) := by
  induction p with
  | n => exact List.Perm.refl _
  | c p _ ih => exact p.perm.trans (List.Perm.cons _ ih)
section
variable {wm : Nat} {G Ga Gb Gr : List (Ast wm)} {h h' h0 : H} {T t : Nat → Prop} {A B : Ast wm}
theorem Hold.perm (p : G.Perm Ga) (s : Hold G h) : Hold Ga h := ⟨fun A m => s.all A (p.mem_iff.2 m), (p.pairwise_iff (fun h => Dj.symm h)).1 s.dis⟩
theorem Hold.left (s : Hold (Ga ++ Gr) h) : Hold Ga h := ⟨fun A m => s.all A (List.mem_append.2 (.inl m)), (List.pairwise_append.1 s.dis).1⟩
theorem Hold.right (s : Hold (Ga ++ Gr) h) : Hold Gr h := ⟨fun A m => s.all A (List.mem_append.2 (.inr m)), (List.pairwise_append.1 s.dis).2.1⟩
theorem Hold.nil : Hold ([] : List (Ast wm)) h := ⟨fun _ m => by simp at m, .nil⟩
theorem Hold.one (a : A.P h) : Hold [A] h := ⟨fun _ m => by rw [List.mem_singleton.1 m]; exact a, List.pairwise_singleton _ _⟩
theorem Fps.perm (p : G.Perm Ga) {i : Nat} (s : Fps G i) : Fps Ga i := let ⟨A, m, f⟩ := s; ⟨A, p.mem_iff.1 m, f⟩
theorem Hold.own (s : Hold G h) {i : Nat} (f : Fps G i) : wm ≤ i ∧ (h.at i).own = true := let ⟨A, m, f⟩ := f; A.own (s.all A m) f
theorem Sp.perm (p : G.Perm Ga) (s : Sp wm T h0 G h) : Sp wm T h0 Ga h := ⟨s.wl, s.fz, s.keep, s.hold.perm p, fun i f => s.inn i (f.perm p.symm)⟩
theorem Sp.size (s : Sp wm T h0 G h) : h0.size ≤ h.size := s.fz.size
theorem Sp.hw (s : Sp wm T h0 G h) : wm ≤ h.size := Nat.le_trans s.wl s.fz.size
theorem Sp.start (hw : wm ≤ h.size) (s : Hold G h) : Sp wm (Fps G) h G h := ⟨hw, Fz.refl _ _, fun _ _ _ => rfl, s, fun _ f => .inl f⟩
theorem Sp.step (s : Sp wm T h0 (Ga ++ Gr) h) (u : Up wm t h h') (ht : ∀ i, t i → Fps Ga i) (hb : Hold Gb h') (hf : ∀ i, Fps Gb i → Fps Ga i ∨ h.size ≤ i) : Sp wm T h0 (Gb ++ Gr) h' := by
  have hd := (List.pairwise_append.1 s.hold.dis).2.2
  have hsep : ∀ i, Fps Ga i → Fps Gr i → False := fun i ⟨A, m, f⟩ ⟨B, m', f'⟩ => hd A m B m' i f f'
  have hr := s.hold.right
  refine ⟨s.wl, s.fz.trans (u.fz (Nat.le_refl _)), fun i hi hn => ?_, ⟨fun A m => ?_, ?_⟩, fun i f => ?_⟩
  · have hnt : ¬ t i := fun q => by
      rcases s.inn i (by obtain ⟨A, m, f⟩ := ht i q; exact ⟨A, List.mem_append.2 (.inl m), f⟩) with z | z
      · exact hn z
      · omega
    rw [u.keep i (Nat.lt_of_lt_of_le hi s.size) hnt, s.keep i hi hn]
  · rcases List.mem_append.1 m with m | m
    · exact hb.all A m
    · exact A.loc (u.fz (Nat.le_refl _)) (fun i f => u.keep i (own_lt (A.own (hr.all A m) f).2) (fun q => hsep i (ht i q) ⟨A, m, f⟩)) (hr.all A m)
  · refine List.pairwise_append.2 ⟨hb.dis, hr.dis, fun B m A m' i f f' => ?_⟩
    rcases hf i ⟨B, m, f⟩ with z | z
    · exact hsep i z ⟨A, m', f'⟩
    · exact absurd (own_lt (A.own (hr.all A m') f').2) (Nat.not_lt_of_le z)
  · obtain ⟨A, m, f⟩ := f
    rcases List.mem_append.1 m with m | m
    · rcases hf i ⟨A, m, f⟩ with ⟨B, m', f'⟩ | z
      · exact s.inn i ⟨B, List.mem_append.2 (.inl m'), f'⟩
      · exact .inr (Nat.le_trans s.size z)
    · exact s.inn i ⟨A, List.mem_append.2 (.inr m), f⟩
theorem Sp.new (s : Sp wm T h0 Gr h) (u : Up wm (fun _ => False) h h') (hb : B.P h') (hf : ∀ i, B.fp i → h.size ≤ i) : Sp wm T h0 (B :: Gr) h' :=
  Sp.step (Ga := []) (Gb := [B]) s u (fun _ z => z.elim) (Hold.one hb) fun i ⟨A, m, f⟩ => by rw [List.mem_singleton.1 m] at f; exact .inr (hf i f)
theorem Sp.one (p : Pk G A Gr) (s : Sp wm T h0 G h) (u : Up wm t h h') (ht : ∀ i, t i → A.fp i) (hb : B.P h') (hf : ∀ i, B.fp i → A.fp i ∨ h.size ≤ i) : Sp wm T h0 (B :: Gr) h' :=
  Sp.step (Ga := [A]) (Gb := [B]) (s.perm p.perm) u (fun i q => ⟨A, by simp, ht i q⟩) (Hold.one hb) fun i ⟨C, m, f⟩ => by
    rw [List.mem_singleton.1 m] at f
    exact (hf i f).imp (fun z => ⟨A, by simp, z⟩) id
theorem Sp.get (s : Sp wm T h0 G h) (p : Pk G A Gr) : A.P h := s.hold.all A p.mem
theorem Sp.drop (p : Pk G A Gr) (s : Sp wm T h0 G h) : Sp wm T h0 Gr h := by
  have s := s.perm p.perm
  exact ⟨s.wl, s.fz, s.keep, Hold.right (Ga := [A]) s.hold, fun i ⟨B, m, f⟩ => s.inn i ⟨B, by simp [m], f⟩⟩
theorem Sp.only (p : Sel G Ga Gr) (s : Sp wm T h0 G h) : Sp wm T h0 Ga h := by
  have s := s.perm p.perm
  exact ⟨s.wl, s.fz, s.keep, s.hold.left, fun i ⟨B, m, f⟩ => s.inn i ⟨B, by simp [m], f⟩⟩
theorem Sp.add (s : Sp wm T h0 G h) (ha : A.P h) (hf : ∀ i, ¬ A.fp i) : Sp wm T h0 (A :: G) h :=
  ⟨s.wl, s.fz, s.keep, ⟨fun B m => by rcases List.mem_cons.1 m with m | m; · rw [m]; exact ha
                                      · exact s.hold.all B m, List.pairwise_cons.2 ⟨fun B _ i f _ => hf i f, s.hold.dis⟩⟩, fun i ⟨B, m, f⟩ => by
    rcases List.mem_cons.1 m with m | m
    · rw [m] at f; exact absurd f (hf i)
    · exact s.inn i ⟨B, m, f⟩⟩
theorem Sp.call (p : Sel G Ga Gr) (s : Sp wm T h0 G h) (c : Sp wm (Fps Ga) h Gb h') : Sp wm T h0 (Gb ++ Gr) h' := by
  have s := s.perm p.perm
  exact Sp.step s ⟨c.size, c.keep, fun i f => s.hold.left.own f⟩ (fun _ q => q) c.hold c.inn
theorem Sp.hold_of (p : Sel G Ga Gr) (s : Sp wm T h0 G h) : Hold Ga h := (s.hold.perm p.perm).left
end
def bx (wm b : Nat) (cs : List Value) : Ast wm where
  P := fun h => h.at b = .row cs true 0 ∧ wm ≤ b
  fp := fun i => i = b
  loc := fun _ k ⟨h1, h2⟩ => ⟨by rw [k b rfl, h1], h2⟩
  own := fun ⟨h1, h2⟩ e => by subst e; exact ⟨h2, by rw [h1]; rfl⟩
def ow {α : Type} (wm : Nat) (e : Rdr α) (a : Option Addr) (n c : Nat) (xs : List α) : Ast wm where
  P := fun h => n = xs.length ∧ OwnS e wm wm h a c xs
  fp := BaseA a
  loc := fun f k ⟨h1, s⟩ => ⟨h1, s.max, s.mem.imp id fun ⟨i, o, cs, q1, q2, q3, q4, q5, q6⟩ => ⟨i, o, cs, q1, q2, by rw [k i ⟨o, q1⟩, q3], q4, q5, q6.mono f⟩⟩
  own := fun ⟨_, s⟩ ⟨o, e⟩ => by
    rcases s.mem with ⟨h1, _⟩ | ⟨i, o', cs, q1, q2, q3, _⟩
    · rw [h1] at e; cases e
    · rw [q1] at e; cases e; exact ⟨q2, by rw [q3]; rfl⟩
def ob (wm b : Nat) (A : AObj) : Ast wm where
  P := fun h => h.at b = A ∧ wm ≤ b ∧ A.own = true
  fp := fun i => i = b
  loc := fun _ k ⟨h1, h2⟩ => ⟨by rw [k b rfl, h1], h2⟩
  own := fun ⟨h1, h2, h3⟩ e => by subst e; exact ⟨h2, by rw [h1]; exact h3⟩
section
variable {wm : Nat} {G Gr : List (Ast wm)} {h h0 : H} {T : Nat → Prop}
theorem Sp.atB {b : Nat} {cs : List Value} (s : Sp wm T h0 G h) (p : Pk G (bx wm b cs) Gr) : At h b 0 cs := At.box (s.get p).1
theorem Sp.osrc {α : Type} {e : Rdr α} {a : Option Addr} {n c : Nat} {xs : List α} (s : Sp wm T h0 G h) (p : Pk G (ow wm e a n c xs) Gr) : Src e wm h a c xs := (s.get p).2.src
theorem Sp.on {α : Type} {e : Rdr α} {a : Option Addr} {n c : Nat} {xs : List α} (s : Sp wm T h0 G h) (p : Pk G (ow wm e a n c xs) Gr) : n = xs.length := (s.get p).1
theorem Sp.sl {α : Type} {e : Rdr α} {a : Option Addr} {c : Nat} {xs : List α} (s : Sp wm T h0 G h) (f : Sl e wm h0 a c xs) : Sl e wm h a c xs := f.mono s.fz
theorem Sp.slu {α : Type} {e : Rdr α} {a : Option Addr} {c : Nat} {xs : List α} (s : Sp wm T h0 G h) (f : Sl e wm h0 a c xs) : Sl e h.size h a c xs := (f.mono s.fz).up s.hw
end
end Go.Abs
end
end
section
noncomputable section
namespace Go.Abs
open Go.Lf
variable {X : Ctx} {n wm : Nat} {rd : Option Nat} {ops : Array Oper} {l : List Oper} {fr : Fr} {ds : List Deferred} {h h1 h2 : H} {ty : TypeId} {p : String} {af : Array Edge} {g : Option (Nat × Bool)} {m : Nat}
def VV (h h2 : H) (xs : List Nat) (x : Nat) : Prop := (x < h.size ∧ x ∈ xs) ∨ h2.size ≤ x
structure ST where
  s : List (Nat × (Nat → Prop))
  m : List (Nat × (Nat → Prop))
  p : List (Nat × Nat × Nat × (AObj → Prop))
def ST.nil : ST := ⟨[], [], []⟩
structure OneE (X : Ctx) (n wm : Nat) (rd : Option Nat) (ops : Array Oper) (o : Oper) (T : Nat → Prop) (xs : List Nat) (h : H) (fr : Fr) (v : Value) (h2 : H) : Prop where
  run : wm ≤ h.size → ∃ h1, h2 = unmask xs h h1 ∧ StepOK X.P wm rd ops o T fr (mask xs h) v h1 ∧ KeepM T (mask xs h) h1
  wmT : ∀ x, T x → wm ≤ x
  dst : ∀ d, o.dst = some d → d < n
  hl : heapless o = true → (∀ x, ¬ T x) ∧ h2 = h ∧ ∀ g, StepOK X.P wm rd ops o (fun _ => False) fr g v g
  mx : ∀ x, T x → x < h.size → x ∉ xs
abbrev Cmp (ops : Array Oper) (i j : Nat) : Prop := comp (predsF ops.toList 0 []) i j = true
abbrev PsT := Option (Nat × Nat × (AObj → Prop))
structure WE (X : Ctx) (n wm : Nat) (rd : Option Nat) (ops : Array Oper) (sf : ST) (m : Nat) (h : H) (l : List Oper) (fr : Fr) (Q : Fr → H → Prop) : Prop where
  out : ∃ (hs : Nat → H) (fs : Nat → Fr) (vs : Nat → Value) (Ts : Nat → Nat → Prop) (xs : Nat → List Nat) (ps : Nat → PsT), hs 0 = h ∧ fs 0 = fr ∧ Q (fs l.length) (hs l.length) ∧ ∀ k o, l[k]? = some o →
    OneE X n wm rd ops o (Ts k) (xs k) (hs k) (fs k) (vs k) (hs (k + 1)) ∧ fs (k + 1) = setd (fs k) o.dst (vs k) ∧
    (∀ x, Ts k x → x < (hs k).size → ∀ i o', i < m + k → ops.toList[i]? = some o' → Cmp ops i (m + k) ∨ heapless o' = true ∨ (∃ V, (i, V) ∈ sf.s ∧ V x) ∨ (∃ C, (i, x, m + k, C) ∈ sf.p ∧ C ((hs (k + 1)).at x)) ∨
      ∃ i', i = m + i' ∧ i' < k ∧ (VV (hs i') (hs (i' + 1)) (xs i') x ∨ ∃ C, ps i' = some (x, m + k, C) ∧ C ((hs (k + 1)).at x))) ∧
    (heapless o = false → (∀ q ∈ sf.m, Cmp ops q.1 (m + k) ∨ ∀ x, q.2 x → VV (hs k) (hs (k + 1)) (xs k) x) ∧ ∀ i', i' < k → Cmp ops (m + i') (m + k) ∨ ∀ x, Ts i' x → x < (hs i').size → VV (hs k) (hs (k + 1)) (xs k) x) ∧
    (∀ x j C, ps k = some (x, j, C) → xs k = [] ∧ (∀ y, ¬ Ts k y) ∧ hs (k + 1) = hs k ∧ Prm X.P wm rd ops o (fs k) (hs k) (vs k) x C)
variable {sf : ST} {Q : Fr → H → Prop}
theorem WE.nil (k : Q fr h) : WE X n wm rd ops sf m h [] fr Q := ⟨fun _ => h, fun _ => fr, fun _ => undef, fun _ _ => False, fun _ => [], fun _ => none, rfl, rfl, k, fun k o e => by simp at e⟩
theorem WE.cons {o : Oper} {v : Value} {T : Nat → Prop} {xs0 : List Nat} (so to : List (Nat × (Nat → Prop))) (p0 : PsT) (h1 : OneE X n wm rd ops o T xs0 h fr v h2)
    (hso : ∀ q ∈ so, q.1 = m ∧ ∀ x, q.2 x → VV h h2 xs0 x) (hto : ∀ x, T x → x < h.size → ∃ q ∈ to, q.1 = m ∧ q.2 x)
    (c1 : ∀ x, T x → x < h.size → ∀ i o', i < m → ops.toList[i]? = some o' → Cmp ops i m ∨ heapless o' = true ∨ (∃ V, (i, V) ∈ sf.s ∧ V x) ∨ ∃ C, (i, x, m, C) ∈ sf.p ∧ C (h2.at x))
    (c2 : heapless o = false → ∀ q ∈ sf.m, Cmp ops q.1 m ∨ ∀ x, q.2 x → VV h h2 xs0 x)
    (hp : ∀ x j C, p0 = some (x, j, C) → xs0 = [] ∧ (∀ y, ¬ T y) ∧ h2 = h ∧ Prm X.P wm rd ops o fr h v x C)
    (k : WE X n wm rd ops ⟨so ++ sf.s, to ++ sf.m, (p0.map fun q => (m, q.1, q.2.1, q.2.2)).toList ++ sf.p⟩ (m + 1) h2 l (setd fr o.dst v) Q) : WE X n wm rd ops sf m h (o :: l) fr Q := by
  obtain ⟨gs, fs, vs, Ts, xs, ps, e0, e1, hq, hk⟩ := k
  refine ⟨fun k => match k with | 0 => h | k + 1 => gs k, fun k => match k with | 0 => fr | k + 1 => fs k, fun k => match k with | 0 => v | k + 1 => vs k, fun k => match k with | 0 => T | k + 1 => Ts k, fun k => match k with | 0 => xs0 | k + 1 => xs k, fun k => match k with | 0 => p0 | k + 1 => ps k, rfl, rfl, hq, fun k o' ho' => ?_⟩
  cases k with
  | zero =>
    simp at ho'
    subst ho'
    dsimp only
    rw [e0]
    refine ⟨h1, e1, fun x tx hx i o' hi ho' => ?_, fun hh => ⟨c2 hh, fun i' hi' => absurd hi' (Nat.not_lt_zero _)⟩, hp⟩
    rcases c1 x tx hx i o' hi ho' with z | z | z | z
    · exact .inl z
    · exact .inr (.inl z)
    · exact .inr (.inr (.inl z))
    · exact .inr (.inr (.inr (.inl z)))
  | succ k =>
    obtain ⟨k1, k2, k3, k4, k5⟩ := hk k o' (by simpa using ho')
    have e : m + 1 + k = m + (k + 1) := by omega
    rw [e] at k3 k4
    dsimp only
    refine ⟨k1, k2, fun x tx hx i o' hi ho' => ?_, fun hh => ⟨fun q hq => (k4 hh).1 q (List.mem_append.2 (.inr hq)), fun i' hi' => ?_⟩, k5⟩
    · rcases k3 x tx hx i o' hi ho' with z | z | ⟨V, z1, z2⟩ | ⟨C, z1, z2⟩ | ⟨i', q1, q2, q3⟩
      · exact .inl z
      · exact .inr (.inl z)
      · rcases List.mem_append.1 z1 with z1 | z1
        · obtain ⟨w1, w2⟩ := hso _ z1
          dsimp only at w1 w2
          subst w1
          refine .inr (.inr (.inr (.inr ⟨0, rfl, Nat.succ_pos _, .inl ?_⟩)))
          dsimp only
          rw [e0]; exact w2 x z2
        · exact .inr (.inr (.inl ⟨V, z1, z2⟩))
      · rcases List.mem_append.1 z1 with z1 | z1
        · cases p0 with
          | none => simp at z1
          | some q =>
            simp at z1
            obtain ⟨w1, w2, w3, w4⟩ := z1
            subst w1
            exact .inr (.inr (.inr (.inr ⟨0, rfl, Nat.succ_pos _, .inr ⟨C, by show some q = _; rw [w2, w3, w4], z2⟩⟩)))
        · exact .inr (.inr (.inr (.inl ⟨C, z1, z2⟩)))
      · exact .inr (.inr (.inr (.inr ⟨i' + 1, by omega, by omega, q3⟩)))
    · cases i' with
      | zero =>
        dsimp only
        by_cases hc : Cmp ops (m + 0) (m + (k + 1))
        · exact .inl hc
        · refine .inr fun x tx hx => ?_
          obtain ⟨q, q1, q2, q3⟩ := hto x tx hx
          rcases (k4 hh).1 q (List.mem_append.2 (.inl q1)) with z | z
          · rw [q2] at z; exact absurd z hc
          · exact z x q3
      | succ i' =>
        have := (k4 hh).2 i' (by omega)
        have e2 : m + 1 + i' = m + (i' + 1) := by omega
        rw [e2] at this
        exact this
theorem WC.drawE (hm : X.P.follows .mixedOrders = true) {id : Nat} {R : XX → Fs → Prop} (hp : (plan ops.toList).isSome = true) (k : WE X n wm rd ops ST.nil 0 h ops.toList fr (fun fr' h' => R .normal ⟨fr', ds, h', none⟩)) : WC X n wm rd (.region id ops true) ⟨fr, ds, h, none⟩ R := by
  obtain ⟨gs, fs, vs, ts, xs, ps, e0, e1, hq, hk⟩ := k
  obtain ⟨incs, hp⟩ := Option.isSome_iff_exists.1 hp
  refine ⟨.normal, _, hq, fun ρ a w F hwm hi hF => ?_⟩
  unfold plan planW at hp
  cases hall : (allIdx edgeOK ops.toList 0 && allIdx (lookOK ops.toList (predsF ops.toList 0 [])) ops.toList 0 && allIdx (dstOK ops.toList) ops.toList 0) <;> rw [hall] at hp <;> simp only [cond_true, cond_false] at hp
  · cases hp
  rw [Bool.and_eq_true, Bool.and_eq_true] at hall
  obtain ⟨⟨hedge, hlook⟩, hdst⟩ := hall
  have hedge := allIdx_spec _ _ hedge
  have hlook := allIdx_spec _ _ hlook
  have hdst := allIdx_spec _ _ hdst
  have hget : ∀ {k : Nat} {o : Oper}, ops[k]? = some o → ops.toList[k]? = some o := fun h => by rwa [Array.getElem?_toList]
  have hspec := (predsF_spec ops.toList 0 [] rfl).2
  have hwk : ∀ k, k ≤ ops.size → wm ≤ (gs k).size := by
    intro k
    induction k with
    | zero => intro _; rw [e0]; exact hwm
    | succ k ih =>
      intro hk'
      have hlt : k < ops.size := by omega
      have ho : ops.toList[k]? = some ops[k] := by simp [hlt]
      obtain ⟨h1, q1, _, q3⟩ := (hk k _ ho).1.run (ih (by omega))
      have q2 := q3.size
      rw [mask_size] at q2
      have := ih (by omega)
      rw [q1, unmask_size]; omega
  have hlt : ∀ {k : Nat} {o : Oper}, ops[k]? = some o → k < ops.size := fun h => (Array.getElem?_eq_some_iff.1 h).1
  have hco : ∀ {k : Nat} (hl : k < ops.size), ops.toList[k]? = some ops[k] := fun hl => by simp [hl]
  classical
  let sft : Nat → Option (Nat × Nat) := fun i => match ps i with
    | none => none
    | some (x, j, C) => if i < j ∧ j < ops.size ∧ ts j x ∧ C ((gs (j + 1)).at x) then some (x, j) else none
  have sft_spec : ∀ i x j, sft i = some (x, j) → ∃ C, ps i = some (x, j, C) ∧ i < j ∧ j < ops.size ∧ ts j x ∧ C ((gs (j + 1)).at x) := by
    intro i x j e
    dsimp only [sft] at e
    cases hp : ps i with
    | none => rw [hp] at e; cases e
    | some q =>
      obtain ⟨y, j', C⟩ := q
      rw [hp] at e
      dsimp only at e
      split at e
      · rename_i hh; cases e; exact ⟨C, rfl, hh⟩
      · cases e
  let D : Data X.P n wm rd ops := {
    hs := gs, fs := fs, vs := vs, mo := ts, Xs := xs, soft := sft, hl := fun i => hlAt ops.toList i, Pb := fun j k => bit ((predsF ops.toList 0 []).getD j 0) k = true
    size0 := hwk 0 (Nat.zero_le _)
    step := fun k o ho => by
      obtain ⟨h1, q1, q2, q3⟩ := (hk k o (hget ho)).1.run (hwk _ (Nat.le_of_lt (hlt ho)))
      exact ⟨h1, q2, q3, q1, (hk k o (hget ho)).2.1⟩
    wmM := fun k x hkl hx => (hk k _ (hco hkl)).1.wmT x hx
    dst := fun k o d ho hd => (hk k o (hget ho)).1.dst d hd
    pb_elim := fun j k hb => by
      obtain ⟨o, ho, e, he, hb, hk⟩ := hspec j k (Nat.zero_le _) hb
      exact ⟨o, e, by rw [← Array.getElem?_toList]; simpa using ho, by simpa using he, hb, hk⟩
    edges := fun j o e ho he hb => by
      have := hedge j o (hget ho)
      unfold edgeOK at this
      rw [List.all_eq_true] at this
      have := this e (by simpa using he)
      rw [hb] at this
      simpa [Nat.blt_eq] using this
    inc := fun i j hil hjl hij h1 h2 hhl x hx hxs => by
      have nc : ¬ Cmp ops i j := fun q => by
        rcases comp_pb q with y | y
        · exact h1 y
        · exact h2 y
      have hh : heapless ops[i] = false := by
        have : hlAt ops.toList i = false := hhl
        unfold hlAt at this; rw [hco hil] at this; exact this
      rcases Nat.lt_or_ge i j with hlt' | hge
      · have := (hk j _ (hco hjl)).2.2.1 x hx hxs i _ (by omega) (hco hil)
        rw [Nat.zero_add] at this
        rcases this with q | q | ⟨V, q, _⟩ | ⟨C, q, _⟩ | ⟨i', q1, q2, q3⟩
        · exact absurd q nc
        · rw [hh] at q; cases q
        · simp [ST.nil] at q
        · simp [ST.nil] at q
        · rw [Nat.zero_add] at q1
          subst q1
          rcases q3 with q3 | ⟨C, q3, q4⟩
          · exact q3.imp (fun z => ⟨z.1, .inl z.2⟩) (fun z => z)
          · left
            have hpr := (hk i _ (hco hil)).2.2.2.2 x j C q3
            refine ⟨hpr.2.2.2.1, .inr ?_⟩
            dsimp only [sft]
            rw [q3]
            dsimp only
            rw [if_pos ⟨q2, hjl, hx, q4⟩]
      · have := ((hk i _ (hco hil)).2.2.2.1 hh).2 j (by omega)
        rw [Nat.zero_add, Nat.zero_add] at this
        rcases this with q | q
        · exact absurd (by unfold Cmp; rw [comp_sym hij]; exact q) nc
        · exact (q x hx hxs).imp (fun z => ⟨z.1, .inl z.2⟩) (fun z => z)
    hlOK := fun i o ho hh => by
      have hq : heapless o = true := by unfold hlAt at hh; rw [hget ho] at hh; exact hh
      obtain ⟨z1, z2, z3⟩ := (hk i o (hget ho)).1.hl hq
      exact ⟨z1, by rw [z2], z3⟩
    softOK := fun i o x j ho hh => by
      obtain ⟨C, s1, s2, s3, s4, s5⟩ := sft_spec i x j hh
      obtain ⟨z0, z1, z2, z3, z4, z5, z6⟩ := (hk i o (hget ho)).2.2.2.2 x j C s1
      obtain ⟨w1, w2⟩ := z6 _ s5
      exact ⟨s2, s3, z3, z1, by rw [z2], z4, w1, by rw [z0]; exact z5, by rw [z0]; exact w2⟩
    MX := fun i x hil hx hxs => (hk i _ (hco hil)).1.mx x hx hxs
    looks := fun i o t ho ht k o' ho' hd => by
      have := hlook i o (hget ho)
      unfold lookOK at this
      rw [List.all_eq_true] at this
      have := allIdx_spec _ _ (this t ht) k o' (hget ho')
      rw [isT_iff.2 hd] at this
      simp only [cond_true, Bool.or_eq_true, Nat.zero_add] at this
      rcases this with z | z
      · exact .inl (Nat.eq_of_beq_eq_true z)
      · exact .inr (comp_pb z)
    dsts := fun i j o o' t ho ho' hd hd' => by
      have := hdst i o (hget ho)
      unfold dstOK at this
      rw [hd] at this
      have := allIdx_spec _ _ this j o' (hget ho')
      rw [isT_iff.2 hd'] at this
      simp only [cond_true, Nat.zero_add] at this
      exact (Nat.eq_of_beq_eq_true this).symm }
  have hi2 : Inv ρ n { fr := D.fs 0, ds := ds, h := D.hs 0 } a w := ⟨by show Rel ρ (gs 0) w; rw [e0]; exact hi.rel, by show FrR ρ (fs 0) n a.tmps; rw [e1]; exact hi.fr, hi.ds⟩
  have := D.region hm hi2 hF id
  have hlen : ops.toList.length = ops.size := by simp
  rw [hlen]
  refine wpIn_mono this fun e' a' w' ⟨ρ', q1, q2, q3⟩ => ⟨ρ', q1, ⟨q2.rel, q2.fr, q2.ds⟩, ?_⟩
  have e0' : D.hs 0 = h := e0
  rw [e0'] at q3
  exact q3
end Go.Abs
end
end
section
noncomputable section
namespace Go.Abs
open Go.Lf
variable {X : Ctx} {n wm : Nat} {rd : Option Nat} {ops : Array Oper} {l : List Oper} {fr : Fr} {ds : List Deferred} {h h1 h2 h0 : H} {ty : TypeId} {p : String} {af : Array Edge} {g : Option (Nat × Bool)} {m : Nat}
theorem val_step {d : Option Tmp} {op : Op} {v : Value} {E : Eff} (hg : GuardOn ops ⟨d, op, ty, p, af, g⟩ fr) (ha : aop X h (aev fr) ⟨d, op, ty, p, af, g⟩ = some (.val v, E) ∨ aop X h (aev fr) ⟨d, op, ty, p, af, g⟩ = some (.skip, E) ∧ v = undef) (hE : E.apply wm h = some h1) :
    StepOK X.P wm rd ops ⟨d, op, ty, p, af, g⟩ (fun x => E.tgt = some x) fr h v h1 ∧ (wm ≤ h.size → KeepM (fun x => E.tgt = some x) h h1) ∧ (wm ≤ h.size → ∀ x, E.tgt = some x → wm ≤ x) := by
  have hds : dstep X (fun _ => true) (fun _ => none) ((d.getD 0) + 1) wm none false ops.toList ⟨d, op, ty, p, af, g⟩ fr h = some (E.tgt, v, h1) := by
    unfold dstep
    dsimp only
    rw [hg.1, hg.2]
    cases d with
    | none =>
      rcases ha with ha | ⟨ha, rfl⟩
      · rw [ha]; dsimp only [Bool.not_true, cond_false, cond_true]; rw [hE]; rfl
      · rw [ha]; dsimp only [Bool.not_true, cond_false, cond_true]; rw [hE]; rfl
    | some d' =>
      have : Nat.blt d' (d' + 1) = true := by rw [Nat.blt_eq]; omega
      have e2 : (Nat.blt d' ((some d').getD 0 + 1) && allowed none d') = true := by dsimp only [Option.getD]; rw [this]; rfl
      dsimp only at e2 ⊢
      rw [e2]
      rcases ha with ha | ⟨ha, rfl⟩
      · rw [ha]; dsimp only [Bool.not_true, cond_false, cond_true]; rw [hE]; rfl
      · rw [ha]; dsimp only [Bool.not_true, cond_false, cond_true]; rw [hE]; rfl
  have e1 : MOf false wm E.tgt = fun x => E.tgt = some x := MOf_f wm E.tgt
  refine ⟨?_, fun hw => ?_, fun hw x hx => ?_⟩
  · rw [← e1]; exact dstep_real (none_ok X) none_keep hds
  · rw [← e1]; exact (dstep_keep none_keep hds hw).1
  · exact (dstep_keep none_keep hds hw).2.1 x (by rw [e1]; exact hx)
theorem call_step {o : Oper} {f : FuncId} {args : Array Value} {wm' : Nat} {v : Value} (hg : GuardOn ops o fr) (ha : aop X h (aev fr) o = some (.enter f args, .none)) (hl : wm' ≤ h.size) (hj : JobOK X (.call f args wm' h) (.fin (.ret v) h2)) :
    StepOK X.P wm rd ops o (fun x => wm' ≤ x ∧ (h.at x).own = true) fr h v h2 := by
  intro ρ a w F K Q r hwm hf hF hK
  rw [awanted_sound' ops o hf hg.1, hg.2, if_pos rfl]
  obtain ⟨ev2, e1, e2⟩ := ev_restrict ops o hf ha
  obtain ⟨ρ1, w1, p1, p2, p3⟩ := aop_sound r e1 e2
  have hE : Eff.apply wm h .none = some h := rfl
  obtain ⟨r1, st1⟩ := Eff.sound r hwm p1 hE p2
  obtain ⟨sm, km, hwmt⟩ := Eff.stpM r hwm p1 hE p2
  refine ⟨fun f _ => fence_fn hF f, ?_⟩
  have hsem : o.semAt F.round a.eval = execOp a.eval o := by
    cases hrd : rd with
    | none => rw [hrd] at hF; unfold FR' at hF; subst hF; rfl
    | some l =>
      refine Oper.semAt_eq _ _ _ fun c hc => ?_
      obtain ⟨d, h1⟩ := aop_defer ha hc
      simp at h1
  rw [hsem]
  have hdep : F.depth.isSome = true → 1 ≤ 0 := fun hh => by rw [fence_depth hF] at hh; cases hh
  have hF1 := hF.mono st1.ext
  generalize hrun : (execOp a.eval o).run X.P w = res at p3
  obtain ⟨args', hva, rfl⟩ := p3
  refine ⟨hdep, (fence_calls hF1 (hj ρ1 args' w1 hl r1 hva)).mono ?_⟩
  rintro e' w' ⟨ρ', he, hr, hst⟩
  cases he with
  | @ret _ v' hv =>
    have st2 : StpM (fun x => wm' ≤ x ∧ (h.at x).own = true) ρ1 h w1 ρ' w' := hst.toM.weakenOwn (fun i _ h2 h3 => ⟨h2, h3⟩) r1.lt
    have toM : StpM (fun x => wm' ≤ x ∧ (h.at x).own = true) ρ h w ρ1 w1 := sm.weaken (fun i _ hi => by cases hi) r.lt
    exact hK ρ' v' w' hv hr (toM.trans r.lt (Nat.le_refl _) (fun _ _ z => z) st2)
structure WX (X : Ctx) (n wm : Nat) (rd : Option Nat) (ops : Array Oper) (sf : ST) (m : Nat) (h : H) (l : List Oper) (fr : Fr) (Q : Fr → H → Prop) : Prop where
  out : (∀ q ∈ sf.m, ∀ x, q.2 x → x < h.size) → WE X n wm rd ops sf m h l fr Q
variable {sf : ST} {Q : Fr → H → Prop}
theorem WC.drawX (hm : X.P.follows .mixedOrders = true) {id : Nat} {R : XX → Fs → Prop} (hp : (plan ops.toList).isSome = true) (k : WX X n wm rd ops ST.nil 0 h ops.toList fr (fun fr' h' => R .normal ⟨fr', ds, h', none⟩)) : WC X n wm rd (.region id ops true) ⟨fr, ds, h, none⟩ R :=
  WC.drawE hm hp (k.out fun q hq => by simp [ST.nil] at hq)
theorem WX.nil (k : Q fr h) : WX X n wm rd ops sf m h [] fr Q := ⟨fun _ => WE.nil k⟩
def okM (ops : Array Oper) (sf : ST) (m : Nat) (o : Oper) : Bool := (sf.m.all fun q => comp (predsF ops.toList 0 []) q.1 m) || heapless o
theorem okM_spec {o : Oper} (h : okM ops sf m o = true) : heapless o = false → ∀ q ∈ sf.m, Cmp ops q.1 m := fun hh q hq => by
  unfold okM at h
  rw [hh, Bool.or_false, List.all_eq_true] at h
  exact h q hq
theorem WO.w {Q : XX → Fs → Prop} {d : Nat} {op : Op} {v : Value} (hg : GuardOn ops ⟨some d, op, ty, p, af, g⟩ fr) (hd : Nat.blt d n = true) (ha : aop X h (aev fr) ⟨some d, op, ty, p, af, g⟩ = some (.val v, .none)) (k : WO X n wm rd ops l ⟨Tr.set fr d v, ds, h, none⟩ Q) :
    WO X n wm rd ops (⟨some d, op, ty, p, af, g⟩ :: l) ⟨fr, ds, h, none⟩ Q := WO.v hg hd ha rfl k
theorem WX.w {d : Nat} {op : Op} {v : Value} (hg : GuardOn ops ⟨some d, op, ty, p, af, g⟩ fr) (hd : Nat.blt d n = true) (ha : aop X h (aev fr) ⟨some d, op, ty, p, af, g⟩ = some (.val v, .none)) (k : WX X n wm rd ops sf (m + 1) h l (Tr.set fr d v) Q) (hM : okM ops sf m ⟨some d, op, ty, p, af, g⟩ = true) :
    WX X n wm rd ops sf m h (⟨some d, op, ty, p, af, g⟩ :: l) fr Q := by
  refine ⟨fun hb => WE.cons (T := fun _ => False) (xs0 := []) (v := v) [] [] none ?_ (fun _ z => by simp at z) (fun _ z => z.elim) (fun _ z => z.elim) (fun hh q hq => .inl (okM_spec hM hh q hq)) (fun x j C z => by cases z) (k.out hb)⟩
  have hs : ∀ h', aop X h' (aev fr) ⟨some d, op, ty, p, af, g⟩ = some (.val v, .none) → StepOK X.P wm rd ops ⟨some d, op, ty, p, af, g⟩ (fun _ => False) fr h' v h' := fun h' ha' => by
    have := (val_step (wm := wm) (rd := rd) hg (.inl ha') (h1 := h') rfl).1
    simpa [Eff.tgt] using this
  refine ⟨fun hw => ⟨h, rfl, hs h ha, ⟨Nat.le_refl _, fun _ _ _ => rfl, fun _ _ z => z, fun _ _ z => z⟩⟩, fun _ z => z.elim, fun d' e => (by cases e; rwa [Nat.blt_eq] at hd), fun hh => ⟨fun _ z => z, rfl, fun g => hs g ?_⟩, fun _ z => z.elim⟩
  rw [aop_heapless h g hh]; exact ha
theorem WX.off {d : Nat} {op : Op} (hg : GuardOff ops ⟨some d, op, ty, p, af, g⟩ fr) (hd : Nat.blt d n = true) (k : WX X n wm rd ops sf (m + 1) h l (Tr.set fr d undef) Q) (hM : okM ops sf m ⟨some d, op, ty, p, af, g⟩ = true) :
    WX X n wm rd ops sf m h (⟨some d, op, ty, p, af, g⟩ :: l) fr Q := by
  refine ⟨fun hb => WE.cons (T := fun _ => False) (xs0 := []) (v := undef) [] [] none ?_ (fun _ z => by simp at z) (fun _ z => z.elim) (fun _ z => z.elim) (fun hh q hq => .inl (okM_spec hM hh q hq)) (fun x j C z => by cases z) (k.out hb)⟩
  have hs : ∀ h', StepOK X.P wm rd ops ⟨some d, op, ty, p, af, g⟩ (fun _ => False) fr h' undef h' := fun h' => by
    have hds : dstep X (fun _ => true) (fun _ => none) (d + 1) wm none false ops.toList ⟨some d, op, ty, p, af, g⟩ fr h' = some (none, undef, h') := by
      unfold dstep
      dsimp only
      have : Nat.blt d (d + 1) = true := by rw [Nat.blt_eq]; omega
      rw [this, hg.1, hg.2]; rfl
    have := dstep_real (rd := rd) (none_ok X) none_keep hds
    rwa [MOf_none] at this
  exact ⟨fun hw => ⟨h, rfl, hs h, ⟨Nat.le_refl _, fun _ _ _ => rfl, fun _ _ z => z, fun _ _ z => z⟩⟩, fun _ z => z.elim, fun d' e => (by cases e; rwa [Nat.blt_eq] at hd), fun hh => ⟨fun _ z => z, rfl, fun g => hs g⟩, fun _ z => z.elim⟩
theorem WX.gv {d : Nat} {op : Op} {c : Bool} {v : Value} (hg : GuardIs ops ⟨some d, op, ty, p, af, g⟩ fr c) (hd : Nat.blt d n = true) (ha : c = true → aop X h (aev fr) ⟨some d, op, ty, p, af, g⟩ = some (.val v, .none)) (k : WX X n wm rd ops sf (m + 1) h l (Tr.set fr d (cond c v undef)) Q) (hM : okM ops sf m ⟨some d, op, ty, p, af, g⟩ = true) :
    WX X n wm rd ops sf m h (⟨some d, op, ty, p, af, g⟩ :: l) fr Q := by
  cases c
  · exact WX.off hg hd k hM
  · exact WX.w hg hd (ha rfl) k hM
open Classical in
def HV (X : Ctx) (wm : Nat) (o : Oper) (fr : Fr) (h : H) (T : Nat → Prop) (K : Value → H → Prop) : Prop := ∃ v E h1, aop X h (aev fr) o = some (.val v, E) ∧ E.apply wm h = some h1 ∧ (∀ x, E.tgt = some x → T x) ∧ h.size ≤ h1.size ∧ K v h1
def HU (X : Ctx) (wm : Nat) (o : Oper) (fr : Fr) (h : H) (T : Nat → Prop) (K : H → Prop) : Prop := ∃ E h1, aop X h (aev fr) o = some (.skip, E) ∧ E.apply wm h = some h1 ∧ (∀ x, E.tgt = some x → T x) ∧ h.size ≤ h1.size ∧ K h1
theorem WO.hv {Q : XX → Fs → Prop} {d : Nat} {op : Op} {T : Nat → Prop} {K : Value → H → Prop} (hg : GuardOn ops ⟨some d, op, ty, p, af, g⟩ fr) (hd : Nat.blt d n = true) (s : HV X wm ⟨some d, op, ty, p, af, g⟩ fr h T K) (k : ∀ v h', K v h' → WO X n wm rd ops l ⟨Tr.set fr d v, ds, h', none⟩ Q) :
    WO X n wm rd ops (⟨some d, op, ty, p, af, g⟩ :: l) ⟨fr, ds, h, none⟩ Q := let ⟨v, _, h1, ha, hE, _, _, hk⟩ := s; WO.v hg hd ha hE (k v h1 hk)
theorem WO.hu {Q : XX → Fs → Prop} {op : Op} {T : Nat → Prop} {K : H → Prop} (hg : GuardOn ops ⟨none, op, ty, p, af, g⟩ fr) (s : HU X wm ⟨none, op, ty, p, af, g⟩ fr h T K) (k : ∀ h', K h' → WO X n wm rd ops l ⟨fr, ds, h', none⟩ Q) :
    WO X n wm rd ops (⟨none, op, ty, p, af, g⟩ :: l) ⟨fr, ds, h, none⟩ Q := let ⟨_, h1, ha, hE, _, _, hk⟩ := s; WO.u hg ha hE (k h1 hk)
theorem eff_new (h : H) {A : AObj} (hA : A.own = true) : Eff.apply wm h (.new A) = some (h.push A) := by show (bif A.own then some (h.push A) else none) = _; rw [hA]; rfl
def HN (X : Ctx) (wm : Nat) (o : Oper) (fr : Fr) (h : H) (K : Value → H → Prop) : Prop := ∃ v A, A.own = true ∧ (∀ g : H, g.size = h.size → aop X g (aev fr) o = some (.val v, .new A)) ∧ ∀ h', Up wm (fun _ => False) h h' → h'.at h.size = A → h'.size = h.size + 1 → K v h'
theorem WO.hn {Q : XX → Fs → Prop} {d : Nat} {op : Op} {K : Value → H → Prop} (hg : GuardOn ops ⟨some d, op, ty, p, af, g⟩ fr) (hd : Nat.blt d n = true) (s : HN X wm ⟨some d, op, ty, p, af, g⟩ fr h K) (k : ∀ v h', K v h' → WO X n wm rd ops l ⟨Tr.set fr d v, ds, h', none⟩ Q) :
    WO X n wm rd ops (⟨some d, op, ty, p, af, g⟩ :: l) ⟨fr, ds, h, none⟩ Q := let ⟨v, A, hA, ha, hk⟩ := s; WO.v hg hd (ha h rfl) (eff_new h hA) (k v _ (hk _ (Up.push wm h A) (at_push_new h A) (by simp)))
end Go.Abs
end
end
section
noncomputable section
namespace Go.Abs
open Go.Lf
variable {X : Ctx} {n wm : Nat} {rd : Option Nat} {ops : Array Oper} {l : List Oper} {fr : Fr} {ds : List Deferred} {h h1 h2 h0 : H} {ty : TypeId} {p : String} {af : Array Edge} {g : Option (Nat × Bool)} {m : Nat} {T : Nat → Prop} {G Gr Ga Gb : List (Ast wm)} {d : Nat} {sf : ST}
theorem s_box {x : Operand} {t : TypeId} {v : Value} {vs : List Value} (hS : Sp wm T h0 G h) (hx : aev fr x = some v) (hv : v.cells.toList = vs) :
    HN X wm ⟨some d, .box t x, ty, p, af, g⟩ fr h (fun v h' => ∃ b, h.size = b ∧ v = .pointer (some ⟨b, 0, none⟩) ∧ Sp wm T h0 (bx wm b vs :: G) h') := by
  subst hv
  refine ⟨.pointer (some ⟨h.size, 0, none⟩), .row v.cells.toList true 0, rfl, fun g' hz => ?_, fun h' u hat _ => ⟨h.size, rfl, rfl, hS.new u ⟨hat, hS.hw⟩ fun i e => Nat.le_of_eq e.symm⟩⟩
  rw [aop_box, hx]; dsimp only; rw [← hz]; rfl
theorem s_alc {t : TypeId} {v : Value} {vs : List Value} (hS : Sp wm T h0 G h) (hz : zeroP X.P t = some v) (hv : v.cells.toList = vs) :
    HN X wm ⟨some d, .alloc t, ty, p, af, g⟩ fr h (fun v h' => ∃ b, h.size = b ∧ v = .pointer (some ⟨b, 0, none⟩) ∧ Sp wm T h0 (bx wm b vs :: G) h') := by
  subst hv
  refine ⟨.pointer (some ⟨h.size, 0, none⟩), .row v.cells.toList true 0, rfl, fun g' hz' => ?_, fun h' u hat _ => ⟨h.size, rfl, rfl, hS.new u ⟨hat, hS.hw⟩ fun i e => Nat.le_of_eq e.symm⟩⟩
  rw [aop_alloc, hz]; dsimp only; rw [← hz']; rfl
theorem s_st {x y : Operand} {t : TypeId} {b o sz : Nat} {cs cs' vs : List Value} {v : Value} (hS : Sp wm T h0 G h) (pk : Pk G (bx wm b cs) Gr) (hs : sizeP X.P t = some sz) (hx : aev fr x = some (.pointer (some ⟨b, o, none⟩))) (hy : aev fr y = some v)
    (hvs : v.cells.toList = vs) (hn : Nat.beq vs.length sz = true) (hl : Nat.ble (o + sz) cs.length = true) (hc : vs.all Value.oneCell' = true) (hv : splice cs o vs = cs') :
    HU X wm ⟨none, .store t x y, ty, p, af, g⟩ fr h (fun i => i = b) (fun h' => Sp wm T h0 (bx wm b cs' :: Gr) h') := by
  obtain ⟨hr, hw⟩ := hS.get pk
  obtain ⟨e1, e2⟩ := st_ex (d := none) (ty := ty) (p := p) (af := af) (g := g) hs hx hy hr hw hvs (Nat.eq_of_beq_eq_true hn) (Nat.le_of_ble_eq_true hl) hc hv
  refine ⟨_, _, e1, e2, fun x hx => ?_, by simp, ?_⟩
  · simpa [Eff.tgt, eq_comm] using hx
  · exact hS.one pk (Up.put hw (by rw [hr]; rfl)) (fun i e => e) ⟨at_put_same (live_lt hr rfl) _, hw⟩ fun i e => .inl e
theorem av_lenO {x : Operand} {t e' : TypeId} {a : Option Addr} {mm cc : Nat} {k : Int} (hu : X.P.underlying t = some (.slice e')) (hx : aev fr x = some (.slice a mm cc)) (hk : (mm : Int) = k) :
    aop X h (aev fr) ⟨some d, .call { callee := .builtin .len, args := #[x], argTypes := #[t] }, ty, p, af, g⟩ = some (.val (.int .i64 k), .none) := by subst hk; exact av_len hu hx
section
variable {α : Type} {e : Rdr α}
theorem s_bs {t el : TypeId} {mm : Nat} {ps : Array (Nat × Operand)} {pvs : List (Nat × Value)} {z : Value} {zs : List Value} {xs : List α} (hS : Sp wm T h0 G h)
    (hu : X.P.underlying t = some (.slice el)) (hs : sizeP X.P el = some e.sz) (hz : zeroP X.P el = some z) (hzs : z.cells.toList = zs) (hzl : zs.length = e.sz) (hm : Nat.ble (mm * e.sz) 10000 = true) (hp : evp (aev fr) ps.toList = some pvs)
    (ho : fillOK (fun i => some (i * e.sz, e.sz)) (zrep zs mm).length pvs = true) (qs : List (e.Par × α)) (hv : fillR (fun i => i * e.sz) (zrep zs mm) pvs = qs.flatMap fun q => e.sh q.1 q.2) (hq : qs.map (·.2) = xs) (hF : ∀ q ∈ qs, e.F wm h q.1 q.2) (hlen : Nat.beq mm xs.length = true) :
    HN X wm ⟨some d, .buildSlice t mm ps, ty, p, af, g⟩ fr h (fun v h' => ∃ b, h.size = b ∧ v = .slice (some ⟨b, 0, none⟩) mm (2 * mm) ∧ Sp wm T h0 (ow wm e (some ⟨b, 0, none⟩) mm (2 * mm) xs :: G) h') := by
  have hlen := Nat.eq_of_beq_eq_true hlen
  subst hlen
  have hm' := Nat.le_of_ble_eq_true hm
  refine ⟨.slice (some ⟨h.size, 0, none⟩) xs.length (2 * xs.length), .row (qs.flatMap fun q => e.sh q.1 q.2) true e.sz, rfl, fun g' hz' => ?_, fun h' u hat _ => ⟨h.size, rfl, rfl, hS.new u ⟨rfl, ?_⟩ fun i ⟨o, e⟩ => by cases e; exact Nat.le_refl _⟩⟩
  · show (match evp (aev fr) ps.toList with
      | some ps => vE (aslit X.P g' t xs.length ps)
      | none => none) = _
    rw [hp]
    dsimp only
    unfold aslit
    rw [hu]; dsimp only
    rw [hs, hz]; dsimp only
    rw [hzs, hzl]
    have b1 : Nat.ble 1 e.sz = true := Nat.ble_eq_true_of_le e.pos
    rw [b1, hm, Nat.beq_refl]
    simp only [Bool.and_self, cond_true]
    rw [afill_eq (off := fun i => i * e.sz) (fun i p e => by cases e; rfl) _ _ ho, hv, hz']
    rfl
  · have hel := ElAt.of_list (h := h) (wm := wm) qs hF
    rw [hq] at hel
    have hl2 := hel.len
    have hmax : xs.length ≤ 9223372036854775807 := by
      have : xs.length * 1 ≤ xs.length * e.sz := Nat.mul_le_mul_left _ e.pos
      omega
    refine OwnS.mk' hmax hS.hw hat (by omega) ?_ (hel.mono (u.fz (Nat.le_refl _)))
    have : 2 * xs.length / 2 = xs.length := by omega
    rw [this]; omega
theorem aap_tgt {P : Program} {ts : Array TypeId} {a : Option Addr} {nn c : Nat} {y v : Value} {E : Eff} {x0 : Nat} (ha : aappend P h ts (.slice a nn c) y = some (v, E)) (ht : E.tgt = some x0) : BaseA a x0 := by
  unfold aappend at ha
  cases hi : appInfo P ts with
  | none => rw [hi] at ha; cases ha
  | some q =>
    obtain ⟨q1, sz, by_, q4⟩ := q
    rw [hi] at ha; dsimp only at ha
    cases hr : reads h y sz with
    | none => rw [hr] at ha; cases ha
    | some new =>
      rw [hr] at ha; dsimp only at ha
      cases hb : Nat.ble (nn + lenS y) (c / 2) with
      | true =>
        rw [hb, cond_true] at ha
        cases hz : Nat.beq (lenS y) 0 with
        | true => rw [hz, cond_true] at ha; cases ha; cases ht
        | false =>
          rw [hz, cond_false] at ha
          split at ha
          · split at ha
            · rw [Bool.cond_eq_ite] at ha
              split at ha
              · cases ha; cases ht; exact ⟨_, rfl⟩
              · cases ha
            · cases ha
          · cases ha
      | false =>
        rw [hb, cond_false] at ha
        cases hq : (Nat.ble ((2 * (nn + lenS y) + 1000) * by_) (2 ^ 47) && new.all Value.oneCell') with
        | false => rw [hq, cond_false] at ha; cases ha
        | true =>
          rw [hq, cond_true] at ha
          split at ha
          · cases hz : Nat.beq (c % 2) 0 with
            | true => rw [hz, cond_true] at ha; cases ha; cases ht
            | false =>
              rw [hz, cond_false] at ha
              split at ha
              · split at ha
                · rw [Bool.cond_eq_ite] at ha
                  split at ha
                  · cases ha; cases ht; exact ⟨_, rfl⟩
                  · cases ha
                · cases ha
              · cases ha
          · cases ha
theorem ap_tgt {ts : Array TypeId} {x y : Operand} {a : Option Addr} {nn c : Nat} {v w : Value} {E : Eff} {x0 : Nat} (hx : aev fr x = some (.slice a nn c)) (hy : aev fr y = some w) (ha : aop X h (aev fr) ⟨some d, .call { callee := .builtin .append, args := #[x, y], argTypes := ts }, ty, p, af, g⟩ = some (.val v, E)) (ht : E.tgt = some x0) : BaseA a x0 := by
  have hev : evs (aev fr) [x, y] = some [.slice a nn c, w] := evs_cons hx (evs_cons hy evs_nil)
  rw [aop_builtin] at ha
  have hev2 : evs (aev fr) (#[x, y] : Array Operand).toList = some [.slice a nn c, w] := hev
  rw [hev2] at ha
  replace ha : vE (aappend X.P h ts (.slice a nn c) w) = some (.val v, E) := ha
  cases hh : aappend X.P h ts (.slice a nn c) w with
  | none => rw [hh] at ha; cases ha
  | some q => rw [hh] at ha; obtain ⟨v', E'⟩ := q; cases ha; exact aap_tgt hh ht
theorem s_ap {ts : Array TypeId} {x y : Operand} {by_ : Nat} {a a2 : Option Addr} {nn n2 c c2 : Nat} {xs ys zs : List α} (hS : Sp wm T h0 G h) (pk : Pk G (ow wm e a nn c xs) Gr) (hi : AppAt X.P ts e.sz by_) (hx : aev fr x = some (.slice a nn c)) (hy : aev fr y = some (.slice a2 n2 c2)) (sr : Src e wm h a2 c2 ys) (hn : n2 = ys.length) (ha : app by_ xs ys = some zs) :
    HV X wm ⟨some d, .call { callee := .builtin .append, args := #[x, y], argTypes := ts }, ty, p, af, g⟩ fr h (BaseA a) (fun v h' => ∃ (a' : Option Addr) (c' : Nat), v = .slice a' zs.length c' ∧ Sp wm T h0 (ow wm e a' zs.length c' zs :: Gr) h') := by
  obtain ⟨h1, so⟩ := hS.get pk
  subst h1 hn
  refine ap_gen (K := HV X wm ⟨some d, .call { callee := .builtin .append, args := #[x, y], argTypes := ts }, ty, p, af, g⟩ fr h (BaseA a) (fun v h' => ∃ (a' : Option Addr) (c' : Nat), v = .slice a' zs.length c' ∧ Sp wm T h0 (ow wm e a' zs.length c' zs :: Gr) h'))
    (J := fun v h' => Up wm (BaseA a) h h' ∧ ∃ (a' : Option Addr) (c' : Nat), v = .slice a' zs.length c' ∧ Sp wm T h0 (ow wm e a' zs.length c' zs :: Gr) h') wm (fun v E h1 e1 e2 ⟨u, j⟩ => ⟨v, E, h1, e1, e2, fun x0 hx0 => ?_, u.size, j⟩) hi (Nat.le_refl _) hS.hw hx hy so sr ha
    (fun a' c' h' u so' hb => ⟨u, a', c', rfl, hS.one pk u (fun i q => q) ⟨rfl, so'⟩ fun i q => (hb i q).imp id fun z => Nat.le_of_eq z.symm⟩)
  exact ap_tgt hx hy e1 hx0
end
end Go.Abs
end
end
section
noncomputable section
namespace Go.Abs
open Go.Lf
variable {X : Ctx} {n wm : Nat} {rd : Option Nat} {ops : Array Oper} {l : List Oper} {fr : Fr} {ds : List Deferred} {h h1 h2 h0 : H} {ty : TypeId} {p : String} {af : Array Edge} {g : Option (Nat × Bool)} {m : Nat} {T : Nat → Prop} {G Gr Ga Gb : List (Ast wm)} {d : Nat} {sf : ST}
section
variable {P : Program} {t : TypeId} {i x0 : Nat} {k x : Value} {E : Eff}
end
section
variable {κ ν : Type} [DecidableEq κ] {kt vt : TypeId} {kv : κ → Value} {vv : ν → Value} {i : Nat} {ll : List (κ × ν)}
end
end Go.Abs
end
end
section
noncomputable section
namespace Go.Abs
open Go.Lf
variable {X : Ctx} {n wm : Nat} {rd : Option Nat} {ops : Array Oper} {l : List Oper} {fr : Fr} {ds : List Deferred} {h h1 h2 h0 : H} {ty : TypeId} {p : String} {af : Array Edge} {g : Option (Nat × Bool)} {m : Nat} {T : Nat → Prop} {G Gr Ga Gb : List (Ast wm)} {d : Nat} {sf : ST}
def CP {wm : Nat} (K : Value → List (Ast wm) → Prop) (Ga : List (Ast wm)) (h : H) : Value → H → Prop := fun v h' => ∃ Gb, K v Gb ∧ Sp wm (Fps Ga) h Gb h'
def Ent (X : Ctx) (fr : Fr) (o : Oper) (f : FuncId) (args : Array Value) : Prop := ∀ h : H, aop X h (aev fr) o = some (.enter f args, .none)
theorem Ent.fn {f : FuncId} {xs : Array Operand} {ts : Array TypeId} {vs : List Value} {d : Option Tmp} (hf : (X.fns.get f).isSome = true) (hx : evs (aev fr) xs.toList = some vs) : Ent X fr ⟨d, .call { callee := .value (.func f), args := xs, argTypes := ts }, ty, p, af, g⟩ f vs.toArray := fun h => by
  obtain ⟨fn, hf⟩ := Option.isSome_iff_exists.1 hf
  rw [aop_value, hx]
  dsimp only
  rw [aev_func]
  dsimp only
  exact acall_fn hf
theorem Ent.clo {f : FuncId} {fo : Operand} {xs : Array Operand} {ts : Array TypeId} {vs first cap args : List Value} {d : Option Tmp} (hc : aev fr fo = some (.func (.func f) first.toArray cap.toArray)) (hf : (X.fns.get f).isSome = true) (hx : evs (aev fr) xs.toList = some vs) (ha : first ++ vs ++ cap = args) :
    Ent X fr ⟨d, .call { callee := .value fo, args := xs, argTypes := ts }, ty, p, af, g⟩ f args.toArray := fun h => by
  obtain ⟨fn, hf⟩ := Option.isSome_iff_exists.1 hf
  subst ha
  rw [aop_value, hx]
  dsimp only
  rw [hc]
  dsimp only
  unfold acall
  dsimp only
  rw [hf]
theorem WO.en {Q : XX → Fs → Prop} {op : Op} {f : FuncId} {args : Array Value} {v : Value} {h2 : H} (hg : GuardOn ops ⟨some d, op, ty, p, af, g⟩ fr) (hd : Nat.blt d n = true) (he : Ent X fr ⟨some d, op, ty, p, af, g⟩ f args)
    (hc : JobOK X (.call f args wm h) (.fin (.ret v) h2)) (k : WO X n wm rd ops l ⟨Tr.set fr d v, ds, h2, none⟩ Q) : WO X n wm rd ops (⟨some d, op, ty, p, af, g⟩ :: l) ⟨fr, ds, h, none⟩ Q :=
  WO.call hg hd (he h) rfl hc k
theorem WO.cl {Q : XX → Fs → Prop} {op : Op} {f : FuncId} {args : Array Value} {K : Value → List (Ast wm) → Prop} (hg : GuardOn ops ⟨some d, op, ty, p, af, g⟩ fr) (hd : Nat.blt d n = true) (he : Ent X fr ⟨some d, op, ty, p, af, g⟩ f args) (hS : Sp wm T h0 G h) (pk : Sel G Ga Gr)
    (hc : ∀ g' : H, g'.size = h.size → Fz wm h g' → Hold Ga g' → WR X f args wm g' (CP K Ga g')) (k : ∀ v h' Gb, K v Gb → Sp wm T h0 (Gb ++ Gr) h' → WO X n wm rd ops l ⟨Tr.set fr d v, ds, h', none⟩ Q) :
    WO X n wm rd ops (⟨some d, op, ty, p, af, g⟩ :: l) ⟨fr, ds, h, none⟩ Q := by
  obtain ⟨e, h', ⟨v, rfl, Gb, hk, hs⟩, hj⟩ := hc h rfl (Fz.refl _ _) (hS.hold_of pk)
  exact WO.en hg hd he hj (k v h' Gb hk (hS.call pk hs))
theorem StepOK.mono {P : Program} {o : Oper} {M M' : Nat → Prop} {v : Value} (hM : ∀ i, i < h.size → M i → M' i) (s : StepOK P wm rd ops o M fr h v h2) : StepOK P wm rd ops o M' fr h v h2 := fun ρ a w F K Q r hwm hf hF hK =>
  s ρ a w F K Q r hwm hf hF fun ρ' v' w' hv r' st => hK ρ' v' w' hv r' (st.weaken hM r.lt)
open Classical in
theorem WX.call0 {Q : Fr → H → Prop} {op : Op} {f : FuncId} {args : Array Value} {v : Value} (hg : GuardOn ops ⟨some d, op, ty, p, af, g⟩ fr) (hd : Nat.blt d n = true) (he : Ent X fr ⟨some d, op, ty, p, af, g⟩ f args) (gr : Grow h h2) (hj : JobOK X (.call f args h.size h) (.fin (.ret v) h2))
    (k : WX X n wm rd ops sf (m + 1) h2 l (Tr.set fr d v) Q) (hh : heapless ⟨some d, op, ty, p, af, g⟩ = false) (hM : okM ops sf m ⟨some d, op, ty, p, af, g⟩ = true) : WX X n wm rd ops sf m h (⟨some d, op, ty, p, af, g⟩ :: l) fr Q := by
  refine ⟨fun hb => WE.cons (T := fun _ => False) (xs0 := []) (v := v) (h2 := h2) [] [] none ?_ (fun _ z => by simp at z) (fun _ z => z.elim) (fun _ z => z.elim) (fun hh q hq => .inl (okM_spec hM hh q hq)) (fun x j C z => by cases z) (k.out fun q hq x hx => Nat.lt_of_lt_of_le (hb q hq x hx) gr.size)⟩
  refine ⟨fun _ => ⟨h2, rfl, (call_step hg (he h) (Nat.le_refl _) hj).mono fun i hi hm => absurd hm.1 (Nat.not_le_of_lt hi), gr.size, fun i hi _ => gr.keep i hi, fun i hi q => by rwa [gr.keep i hi] at q, fun i hi q => by rwa [gr.keep i hi] at q⟩, fun _ z => z.elim, fun d' e => by cases e; rwa [Nat.blt_eq] at hd, fun q => Bool.noConfusion (hh.symm.trans q), fun _ z => z.elim⟩
theorem WO.cp {Q : XX → Fs → Prop} {op : Op} {f : FuncId} {args : Array Value} {v : Value} (hg : GuardOn ops ⟨some d, op, ty, p, af, g⟩ fr) (hd : Nat.blt d n = true) (he : Ent X fr ⟨some d, op, ty, p, af, g⟩ f args) (hj : Pure X f args h v) (k : WO X n wm rd ops l ⟨Tr.set fr d v, ds, h, none⟩ Q) :
    WO X n wm rd ops (⟨some d, op, ty, p, af, g⟩ :: l) ⟨fr, ds, h, none⟩ Q := WO.en hg hd he (hj wm) k
theorem WX.cp {Q : Fr → H → Prop} {op : Op} {f : FuncId} {args : Array Value} {v : Value} (hg : GuardOn ops ⟨some d, op, ty, p, af, g⟩ fr) (hd : Nat.blt d n = true) (he : Ent X fr ⟨some d, op, ty, p, af, g⟩ f args) (hj : Pure X f args h v)
    (k : WX X n wm rd ops sf (m + 1) h l (Tr.set fr d v) Q) (hh : heapless ⟨some d, op, ty, p, af, g⟩ = false) (hM : okM ops sf m ⟨some d, op, ty, p, af, g⟩ = true) : WX X n wm rd ops sf m h (⟨some d, op, ty, p, af, g⟩ :: l) fr Q := WX.call0 hg hd he (Grow.refl h) (hj _) k hh hM
theorem WO.gcp {Q : XX → Fs → Prop} {op : Op} {f : FuncId} {args : Array Value} {v : Value} {c : Bool} (hg : GuardIs ops ⟨some d, op, ty, p, af, g⟩ fr c) (hd : Nat.blt d n = true) (he : c = true → Ent X fr ⟨some d, op, ty, p, af, g⟩ f args) (hj : c = true → Pure X f args h v) (k : WO X n wm rd ops l ⟨Tr.set fr d (cond c v undef), ds, h, none⟩ Q) :
    WO X n wm rd ops (⟨some d, op, ty, p, af, g⟩ :: l) ⟨fr, ds, h, none⟩ Q := by
  cases c
  · exact WO.offO hg rfl hd k
  · exact WO.cp hg hd (he rfl) (hj rfl) k
theorem WX.gcp {Q : Fr → H → Prop} {op : Op} {f : FuncId} {args : Array Value} {v : Value} {c : Bool} (hg : GuardIs ops ⟨some d, op, ty, p, af, g⟩ fr c) (hd : Nat.blt d n = true) (he : c = true → Ent X fr ⟨some d, op, ty, p, af, g⟩ f args) (hj : c = true → Pure X f args h v)
    (k : WX X n wm rd ops sf (m + 1) h l (Tr.set fr d (cond c v undef)) Q) (hh : heapless ⟨some d, op, ty, p, af, g⟩ = false) (hM : okM ops sf m ⟨some d, op, ty, p, af, g⟩ = true) : WX X n wm rd ops sf m h (⟨some d, op, ty, p, af, g⟩ :: l) fr Q := by
  cases c
  · exact WX.off hg hd k hM
  · exact WX.cp hg hd (he rfl) (hj rfl) k hh hM
theorem WO.inl {Q : XX → Fs → Prop} {op : Op} {f : FuncId} {args : Array Value} (hg : GuardOn ops ⟨some d, op, ty, p, af, g⟩ fr) (hd : Nat.blt d n = true) (he : Ent X fr ⟨some d, op, ty, p, af, g⟩ f args)
    (k : WR X f args wm h (fun v h' => WO X n wm rd ops l ⟨Tr.set fr d v, ds, h', none⟩ Q)) : WO X n wm rd ops (⟨some d, op, ty, p, af, g⟩ :: l) ⟨fr, ds, h, none⟩ Q := by
  obtain ⟨e, h', ⟨v, rfl, hk⟩, hj⟩ := k
  exact WO.en hg hd he hj hk
theorem WO.inlJ {Q : XX → Fs → Prop} {α β : Type} {r : β} (I : α → Value → H → Prop) (j : α → Option β) {op : Op} {f : FuncId} {args : Array Value} (hg : GuardOn ops ⟨some d, op, ty, p, af, g⟩ fr) (hd : Nat.blt d n = true) (he : Ent X fr ⟨some d, op, ty, p, af, g⟩ f args)
    (k : ∀ x v h', j x = some r → I x v h' → WO X n wm rd ops l ⟨Tr.set fr d v, ds, h', none⟩ Q) (hc : WR X f args wm h (fun v h' => ∃ x, j x = some r ∧ I x v h')) : WO X n wm rd ops (⟨some d, op, ty, p, af, g⟩ :: l) ⟨fr, ds, h, none⟩ Q := by
  obtain ⟨e, h', ⟨v, rfl, x, h1, h2⟩, hj⟩ := hc
  exact WO.en hg hd he hj (k x v h' h1 h2)
end Go.Abs
end
end
section
noncomputable section
namespace Go.Abs
open Go.Lf
theorem k0 {α : Type} {A : α} {G : List α} : Pk (A :: G) A G := .z
theorem k1 {α : Type} {A b : α} {G : List α} : Pk (b :: A :: G) A (b :: G) := .s k0
theorem k2 {α : Type} {A b c : α} {G : List α} : Pk (b :: c :: A :: G) A (b :: c :: G) := .s k1
theorem k3 {α : Type} {A b c d : α} {G : List α} : Pk (b :: c :: d :: A :: G) A (b :: c :: d :: G) := .s k2
theorem k4 {α : Type} {A b c d e : α} {G : List α} : Pk (b :: c :: d :: e :: A :: G) A (b :: c :: d :: e :: G) := .s k3
theorem k5 {α : Type} {A b c d e f : α} {G : List α} : Pk (b :: c :: d :: e :: f :: A :: G) A (b :: c :: d :: e :: f :: G) := .s k4
theorem k6 {α : Type} {A b c d e f g : α} {G : List α} : Pk (b :: c :: d :: e :: f :: g :: A :: G) A (b :: c :: d :: e :: f :: g :: G) := .s k5
theorem k7 {α : Type} {A b c d e f g h : α} {G : List α} : Pk (b :: c :: d :: e :: f :: g :: h :: A :: G) A (b :: c :: d :: e :: f :: g :: h :: G) := .s k6
theorem k8 {α : Type} {A b c d e f g h i : α} {G : List α} : Pk (b :: c :: d :: e :: f :: g :: h :: i :: A :: G) A (b :: c :: d :: e :: f :: g :: h :: i :: G) := .s k7
theorem k9 {α : Type} {A b c d e f g h i j : α} {G : List α} : Pk (b :: c :: d :: e :: f :: g :: h :: i :: j :: A :: G) A (b :: c :: d :: e :: f :: g :: h :: i :: j :: G) := .s k8
section
variable {wm : Nat} {G Ga Gr : List (Ast wm)} {h h0 : H} {T : Nat → Prop} {A B : Ast wm}
theorem Sp.nil {α : Type} (s : Sp wm T h0 G h) {e : Rdr α} : Sp wm T h0 (ow wm e none 0 0 ([] : List α) :: G) h := s.add ⟨rfl, OwnS.nil⟩ fun i => BaseA.none
end
section
variable {X : Ctx} {h : H} {ev : Operand → Option Value} {d : Nat} {ty : TypeId} {p : String} {af : Array Edge} {g : Option (Nat × Bool)}
theorem av_ixn {α : Type} {xs : List α} {v : α} {x y : Operand} {t e : TypeId} {sz b o nn c : Nat} {a : Option Addr} {k : Int} (hu : X.P.underlying t = some (.slice e)) (hs : sizeP X.P e = some sz) (hx : ev x = some (.slice a nn c)) (hy : ev y = some (.int .i64 k)) (hn : nn = xs.length) (ha : a = some ⟨b, o, none⟩) (hk : geti xs k = some v) :
    aop X h ev ⟨some d, .indexAddr t x y, ty, p, af, g⟩ = some (.val (.pointer (some ⟨b, o + k.toNat * sz, none⟩)), .none) := by subst hn; exact av_ix hu hs hx hy ha hk
theorem av_pkT {q x y : Operand} {b : Bool} {v : Value} (hc : ev q = some (.bool b)) (hb : b = true) (hx : ev x = some v) : aop X h ev ⟨some d, .pick q x y, ty, p, af, g⟩ = some (.val v, .none) := by
  subst hb; rw [aop_pick, hc]; dsimp only; rw [hx]; rfl
theorem av_pkF {q x y : Operand} {b : Bool} {v : Value} (hc : ev q = some (.bool b)) (hb : b = false) (hy : ev y = some v) : aop X h ev ⟨some d, .pick q x y, ty, p, af, g⟩ = some (.val v, .none) := by
  subst hb; rw [aop_pick, hc]; dsimp only; rw [hy]; rfl
end
theorem WR.pureC {X : Ctx} {f : FuncId} {args : Array Value} {h : H} {v : Value} (hp : plain v = true) (k : WR X f args h.size h (CP (wm := h.size) (fun v' Gb => v' = v ∧ Gb = []) [] h)) : Pure X f args h v :=
  WF.pureR hp (k.mono fun _ _ ⟨v', h1, _, h2, _⟩ => ⟨v', h1, h2.1⟩)
end Go.Abs
end
end
section
noncomputable section
namespace Go.Abs
open Go.Lf
variable {X : Ctx} {n wm : Nat} {rd : Option Nat} {ops : Array Oper} {fr : Fr} {h h1 h2 h0 : H} {ty : TypeId} {p : String} {af : Array Edge} {g : Option (Nat × Bool)} {T : Nat → Prop} {G Gr Ga Gb : List (Ast wm)} {d : Nat}
section
variable {α : Type} {e : Rdr α}
end
end Go.Abs
end
end
section
noncomputable section
namespace Go.Abs
open Go.Lf
variable {X : Ctx} {n wm : Nat} {rd : Option Nat} {ops : Array Oper} {fr : Fr} {h h1 h2 h0 : H} {ty : TypeId} {p : String} {af : Array Edge} {g : Option (Nat × Bool)} {T : Nat → Prop} {G Gr Ga Gb : List (Ast wm)} {d : Nat}
structure Ne (α : Type) where
  sz : Nat
  pos : 0 < sz
  Par : Type
  dflt : Par
  sh : Par → α → List Value
  len : ∀ p x, (sh p x).length = sz
  one : ∀ p x, (sh p x).all Value.oneCell' = true
  as_ : (wm : Nat) → Par → α → List (Ast wm)
section
variable {α : Type} {e : Ne α}
def upd {β : Type} (ps : Nat → β) (i : Nat) (p : β) : Nat → β := fun k => if k = i then p else ps k
variable {a : Option Addr} {nn c : Nat} {ps : Nat → e.Par} {xs : List α}
end
end Go.Abs
end
end
section
noncomputable section
namespace Go.Abs
open Go.Lf
variable {X : Ctx} {n wm : Nat} {rd : Option Nat} {ops : Array Oper} {fr : Fr} {h h1 h2 h0 : H} {ty : TypeId} {p : String} {af : Array Edge} {g : Option (Nat × Bool)} {T : Nat → Prop} {G Gr Ga Gb : List (Ast wm)} {d : Nat}
section
variable {α : Type} {e : Ne α} {a : Option Addr} {nn c : Nat} {ps : Nat → e.Par} {xs : List α}
end
end Go.Abs
end
end
section
noncomputable section
namespace Go.Abs
open Go.Lf
variable {X : Ctx} {n wm : Nat} {rd : Option Nat} {ops : Array Oper} {l : List Oper} {fr : Fr} {h h1 h2 h0 : H} {ty : TypeId} {p : String} {af : Array Edge} {g : Option (Nat × Bool)} {T : Nat → Prop} {G Gr Ga Gb : List (Ast wm)} {d : Nat} {m : Nat} {sf : ST}
section
variable {α : Type} {e : Rdr α}
end
section
variable {α : Type} {e : Ne α}
end
structure SubS {α : Type} (e : Rdr α) (a : Option Addr) (c : Nat) (xs : List α) (a' : Option Addr) (c' : Nat) (zs : List α) : Prop where
  own : ∀ {wm : Nat} {h : H}, OwnS e wm wm h a c xs → OwnS e wm wm h a' c' zs
  sl : ∀ {wm : Nat} {h : H}, Sl e wm h a c xs → Sl e wm h a' c' zs
  base : ∀ i, BaseA a' i → BaseA a i
theorem slL_some {α : Type} {xs zs : List α} {lo hi : Int} (hz : slL xs lo hi = some zs) : ∃ l k : Nat, lo = (l : Int) ∧ hi = (k : Int) ∧ l ≤ k ∧ k ≤ xs.length ∧ zs = (xs.take k).drop l := by
  unfold slL at hz
  by_cases h1 : 0 ≤ lo
  · rw [decide_eq_true h1, Bool.true_and] at hz
    by_cases h2 : lo ≤ hi
    · rw [decide_eq_true h2, Bool.true_and] at hz
      by_cases h3 : hi ≤ xs.length
      · rw [decide_eq_true h3] at hz; cases hz
        exact ⟨lo.toNat, hi.toNat, by omega, by omega, by omega, by omega, rfl⟩
      · rw [decide_eq_false h3] at hz; cases hz
    · rw [decide_eq_false h2] at hz; cases hz
  · rw [decide_eq_false h1] at hz; cases hz
theorem ElAt.piece {α : Type} {e : Rdr α} {cs : List Value} {o : Nat} {xs : List α} {l k : Nat} (a : ElAt e wm h cs o xs) (hl : l ≤ k) (hk : k ≤ xs.length) : ElAt e wm h cs (o + l * e.sz) ((xs.take k).drop l) := by
  have hlen : ((xs.take k).drop l).length = k - l := by rw [List.length_drop, List.length_take]; omega
  refine ⟨?_, fun j x hj => ?_⟩
  · rw [hlen]
    have := a.len
    have h1 : k * e.sz ≤ xs.length * e.sz := Nat.mul_le_mul_right _ hk
    have h2 : l * e.sz + (k - l) * e.sz = k * e.sz := by rw [← Nat.add_mul]; congr 1; omega
    omega
  · have hjl : j < k - l := by have := (List.getElem?_eq_some_iff.1 hj).1; rwa [hlen] at this
    rw [List.getElem?_drop, List.getElem?_take_of_lt (by omega)] at hj
    obtain ⟨q, g1, g2⟩ := a.get _ x hj
    refine ⟨q, ?_, g2⟩
    rw [← g1, Nat.add_mul]; congr 2; omega
end Go.Abs
end
end
section
noncomputable section
namespace Go.Abs
open Go.Lf
variable {X : Ctx} {n wm : Nat} {rd : Option Nat} {ops : Array Oper} {l : List Oper} {fr : Fr} {ds : List Deferred} {h h1 h2 h0 : H} {ty : TypeId} {p : String} {af : Array Edge} {g : Option (Nat × Bool)} {T : Nat → Prop} {G Gr Ga Gb : List (Ast wm)} {d : Nat} {m : Nat} {sf : ST}
section
variable {α : Type} {e : Rdr α} {a a1 : Option Addr} {nn c n1 c1 : Nat} {ps : Nat → Option Addr × Nat × Nat} {xs : List (List α)}
theorem evo_some {ev : Operand → Option Value} {x : Operand} {v : Value} (hx : ev x = some v) : evo ev (some x) = some (some v) := by
  show (match ev x with | some v => some (some v) | none => none) = _
  rw [hx]
end
section
variable {κ ν : Type} [DecidableEq κ] {kt vt : TypeId} {kv : κ → Value} {vv : ν → Value} {i : Nat} {ll : List (κ × ν)} {Q : Fr → H → Prop}
end
end Go.Abs
end
end
section
noncomputable section
namespace Go.Abs
open Go.Lf
variable {X : Ctx} {h : H} {ev : Operand → Option Value} {d : Option Tmp} {ty : TypeId} {p : String} {af : Array Edge} {g : Option (Nat × Bool)} {P : Program}
end Go.Abs
end
end
section
noncomputable section
namespace Go.Abs
open Go.Lf
variable {X : Ctx} {n wm : Nat} {rd : Option Nat} {ops : Array Oper} {ol : List Oper} {fr : Fr} {ds : List Deferred} {h h0 : H} {ty : TypeId} {p : String} {af : Array Edge} {g : Option (Nat × Bool)} {T : Nat → Prop} {G Gr : List (Ast wm)} {d : Nat} {l df : Nat} {LO : AObj} {ps : Array Tmp} {as_ bd : Code}
def bsy : AObj → AObj
  | .loop _ pd fr n ps as_ bd df => .loop .busy pd fr n ps as_ bd df
  | A => A
theorem ob_new {A : AObj} (hA : A.own = true) (s : Sp wm T h0 Gr h) : Sp wm T h0 (ob wm h.size A :: Gr) (h.push A) :=
  Sp.new s (Up.push wm h A) ⟨at_push_new h A, s.hw, hA⟩ fun i e => by have : i = h.size := e; omega
theorem WR.inlJ {f : FuncId} {args : Array Value} {K : Value → H → Prop} {α β : Type} {r : β} (I : α → Value → H → Prop) (j : α → Option β) (k : ∀ x v h', j x = some r → I x v h' → K v h') (hc : WR X f args wm h (fun v h' => ∃ x, j x = some r ∧ I x v h')) : WR X f args wm h K :=
  hc.mono fun _ h' ⟨v, e, x, h1, h2⟩ => ⟨v, e, k x v h' h1 h2⟩
theorem RetL.colS {fn : Func} {R : AEnd → H → Prop} (hS : Sp wm T h0 G h) (pk : Pk G (ob wm df .deferred) Gr) (k : ∀ h', Sp wm T h0 Gr h' → RetL X fn wm R .ret ⟨fr, ds, h', none⟩) : RetL X fn wm R .ret ⟨fr, ⟨.collected df, #[]⟩ :: ds, h, none⟩ := by
  obtain ⟨h1, h2, h3⟩ := hS.get pk
  refine RetL.col wm h2 h1 h2 fun h' u => k h' ?_
  exact Sp.step (Ga := [ob wm df .deferred]) (Gb := []) (hS.perm pk.perm) u (fun i e => ⟨_, List.mem_singleton.2 rfl, e⟩) Hold.nil fun i ⟨A, m, f⟩ => by simp at m
end Go.Abs
end
end
section
noncomputable section
namespace Go.Abs
open Go.Lf
variable {X : Ctx} {n wm : Nat} {rd : Option Nat} {ops : Array Oper} {l : List Oper} {fr : Fr} {ds : List Deferred} {h h1 h2 h0 : H} {ty : TypeId} {p : String} {af : Array Edge} {g : Option (Nat × Bool)} {m : Nat} {T : Nat → Prop} {G Gr Ga Gb : List (Ast wm)} {d : Nat} {sf : ST}
def HW (X : Ctx) (wm : Nat) (o : Oper) (fr : Fr) (h : H) (K : H → Prop) : Prop := ∃ v E h1, aop X h (aev fr) o = some (.val v, E) ∧ E.apply wm h = some h1 ∧ K h1
theorem aop_slice {t : TypeId} {x : Operand} {lo hi mx : Option Operand} {a : Option Addr} {nn c : Nat} {vlo vhi vmx : Option Value} {v : Value} (hx : aev fr x = some (.slice a nn c)) (el1 : evo (aev fr) lo = some vlo) (eh1 : evo (aev fr) hi = some vhi) (em1 : evo (aev fr) mx = some vmx) (hv : aslice X.P h t (.slice a nn c) vlo vhi vmx = some v) :
    aop X h (aev fr) ⟨some d, .slice t x lo hi mx, ty, p, af, g⟩ = some (.val v, .none) := by
  show (match aev fr x, evo (aev fr) lo, evo (aev fr) hi, evo (aev fr) mx with
    | some x, some lo, some hi, some mx => bif plain x && not (isSl x) then (match lo, hi, mx with
        | lo, hi, mx => bif allPlain (lo.toList ++ hi.toList ++ mx.toList) then pN (pval X.P (Instr.sliceAt t x lo hi mx)) else none)
      else vN (aslice X.P h t x lo hi mx)
    | _, _, _, _ => none) = _
  rw [hx, el1, eh1, em1]
  show (bif plain (.slice a nn c) && not (isSl (.slice a nn c)) then _ else vN (aslice X.P h t (.slice a nn c) vlo vhi vmx)) = _
  have : isSl (.slice a nn c) = true := rfl
  rw [this, Bool.not_true, Bool.and_false, cond_false, hv]; rfl
section
variable {α : Type} {e : Rdr α} {t el : TypeId} {x : Operand} {a : Option Addr} {nn c : Nat} {xs zs ws us : List α} {a1 a2 a3 : Int}
end
section
variable {κ ν : Type} [DecidableEq κ] {kt vt : TypeId} {kv : κ → Value} {vv : ν → Value} {i : Nat} {ll : List (κ × ν)}
end
end Go.Abs
end
end
section
noncomputable section
namespace Go.Abs
open Go.Lf
variable {X : Ctx} {n wm : Nat} {rd : Option Nat} {ops : Array Oper} {l : List Oper} {fr : Fr} {ds : List Deferred} {h h1 h2 h0 : H} {ty : TypeId} {p : String} {af : Array Edge} {g : Option (Nat × Bool)} {m : Nat} {T : Nat → Prop} {G Gr Ga Gb : List (Ast wm)} {d : Nat} {sf : ST}
def HE (X : Ctx) (o : Oper) (fr : Fr) (h : H) (K : Value → Prop) : Prop := ∃ v, aop X h (aev fr) o = some (.val v, .none) ∧ K v
theorem WX.he {Q : Fr → H → Prop} {op : Op} {K : Value → Prop} (hg : GuardOn ops ⟨some d, op, ty, p, af, g⟩ fr) (hd : Nat.blt d n = true) (s : HE X ⟨some d, op, ty, p, af, g⟩ fr h K) (k : ∀ v, K v → WX X n wm rd ops sf (m + 1) h l (Tr.set fr d v) Q) (hM : okM ops sf m ⟨some d, op, ty, p, af, g⟩ = true) :
    WX X n wm rd ops sf m h (⟨some d, op, ty, p, af, g⟩ :: l) fr Q := let ⟨v, ha, hk⟩ := s; WX.w hg hd ha (k v hk) hM
section
variable {α : Type} {e : Rdr α} {t el : TypeId} {x : Operand} {a : Option Addr} {nn c : Nat} {xs zs ws us : List α} {a1 a2 a3 : Int}
end
end Go.Abs
end
end
section
noncomputable section
namespace Go.Abs
open Go.Lf
variable {X : Ctx} {n wm wm' : Nat} {fr : Fr} {h : H} {ty : TypeId} {p : String} {af : Array Edge} {g : Option (Nat × Bool)} {d : Nat}
section
variable {α : Type} {e : Rdr α} {t el : TypeId} {x : Operand} {a : Option Addr} {nn c : Nat} {xs zs : List α} {a2 : Int}
theorem Sl.pre {k : Nat} (s : Sl e wm h a c xs) (hk : k ≤ xs.length) : Sl e wm h a c (xs.take k) := by
  have hlen : (xs.take k).length = k := by rw [List.length_take]; omega
  refine ⟨by rw [hlen]; exact Nat.le_trans hk s.max, by rw [hlen]; exact Nat.le_trans hk s.cap, s.nl, ?_⟩
  rcases s.mem with q | ⟨i, o, cs, own, z, q1, q2, q3, q4⟩
  · left; subst q; simp
  · refine .inr ⟨i, o, cs, own, z, q1, q2, q3, ?_⟩
    have := q4.piece (Nat.zero_le k) hk
    simpa using this
theorem OwnS.pre {k : Nat} (s : OwnS e wm wm h a c xs) (hk : k ≤ xs.length) : OwnS e wm wm h a c (xs.take k) := by
  have hlen : (xs.take k).length = k := by rw [List.length_take]; omega
  refine ⟨by rw [hlen]; exact Nat.le_trans hk s.max, ?_⟩
  rcases s.mem with ⟨q1, q2, q3⟩ | ⟨i, o, cs, q1, q2, q3, q4, q5, q6⟩
  · left; subst q3; exact ⟨q1, q2, by simp⟩
  · refine .inr ⟨i, o, cs, q1, q2, q3, by rw [hlen]; omega, q5, ?_⟩
    have := q6.piece (Nat.zero_le k) hk
    simpa using this
theorem s_slcF {hi : Operand} {kk : IntKind} (so : Sl e wm' h a c xs) (hn : nn = xs.length) (hu : X.P.underlying t = some (.slice el)) (hs : sizeP X.P el = some e.sz) (hx : aev fr x = some (.slice a nn c))
    (hhi : aev fr hi = some (.int kk a2)) (hz : slL xs 0 a2 = some zs) :
    HE X ⟨some d, .slice t x none (some hi) none, ty, p, af, g⟩ fr h (fun v => ∃ a' c', v = .slice a' zs.length c' ∧ SubS e a c xs a' c' zs) := by
  obtain ⟨l, k, hl0, rfl, hlk, hkx, rfl⟩ := slL_some hz
  have hl0 : l = 0 := by omega
  subst hl0 hn
  have hlen : ((xs.take k).drop 0).length = k := by rw [List.drop_zero, List.length_take]; omega
  have e2 : ∀ q, obN (some (.int kk (k : Int))) q = some k := fun q => rfl
  have e1 : obN none 0 = some 0 := rfl
  have sub : SubS e a c xs a c ((xs.take k).drop 0) := by
    rw [List.drop_zero]
    exact ⟨fun s => s.pre hkx, fun s => s.pre hkx, fun i q => q⟩
  refine ⟨.slice a k c, ?_, a, c, by rw [hlen], sub⟩
  have hcap := so.cap
  rcases so.nl with ⟨rfl, rfl⟩ | ⟨rfl, rfl⟩ | ⟨i, o, rfl⟩
  · have hx0 : xs = [] := List.length_eq_zero_iff.1 (by omega)
    subst hx0
    have hk0 : k = 0 := by simpa using hkx
    subst hk0
    refine aop_slice hx rfl (evo_some hhi) rfl ?_
    have : aslice X.P h t (.slice none 0 0) none (some (.int kk ((0 : Nat) : Int))) none = some (.slice none 0 0) := by
      unfold aslice
      simp only [hu, hs]
      rfl
    exact this
  · have hx0 : xs = [] := List.length_eq_zero_iff.1 (by omega)
    subst hx0
    have hk0 : k = 0 := by simpa using hkx
    subst hk0
    refine aop_slice hx rfl (evo_some hhi) rfl ?_
    have : aslice X.P h t (.slice (some ⟨0, 0, some 0⟩) 0 0) none (some (.int kk ((0 : Nat) : Int))) none = some (.slice (some ⟨0, 0, some 0⟩) 0 0) := by
      unfold aslice
      simp only [hu, hs]
      rfl
    exact this
  · refine aop_slice hx rfl (evo_some hhi) rfl ?_
    unfold aslice
    simp only [hu, hs, e1, e2]
    rw [Nat.ble_eq_true_of_le (Nat.zero_le k), Nat.ble_eq_true_of_le (Nat.le_trans hkx hcap)]
    simp only [Bool.and_self, cond_true]
    cases hev : Nat.beq (c % 2) 0 with
    | true =>
      have := Nat.eq_of_beq_eq_true hev
      simp only [cond_true, Nat.zero_mul, Nat.add_zero, Nat.sub_zero]
      have hc : 2 * (c / 2) = c := by omega
      rw [hc]
      cases Nat.beq (c / 2) 0 <;> rfl
    | false =>
      simp only [cond_false]
      rfl
end
end Go.Abs
end
end
section
noncomputable section
namespace Go.Abs
open Go.Lf
variable {X : Ctx} {n wm : Nat} {rd : Option Nat} {ops : Array Oper} {l : List Oper} {fr : Fr} {ds : List Deferred} {h h1 h2 h0 : H} {ty : TypeId} {p : String} {af : Array Edge} {g : Option (Nat × Bool)} {T : Nat → Prop} {G Gr Ga Gb : List (Ast wm)} {d : Nat}
def pv (t : TypeId) (k : Int) : Value := .iface t (.int .i64 k)
section
variable {β : Type} {t : TypeId} {K : β → Value → List (Ast wm) → Prop} {f : FuncId} {args : Array Value}
end
section
variable {fn : Func} {R : AEnd → H → Prop} {s : Fs} {v : Value} {pm : PM}
end
section
end
end Go.Abs
end
end
section
noncomputable section
namespace Go.Abs
open Go.Lf
variable {X : Ctx} {n wm : Nat} {rd : Option Nat} {ops : Array Oper} {l : List Oper} {rest : Code}
section
variable {κ ν : Type} {kv : κ → Value} {vv : ν → Value} {ll : List (κ × ν)} {bs : List Nat}
end
section
variable {wm : Nat} {G Gr : List (Ast wm)} {h h0 : H} {T0 : Nat → Prop} {fr : Fr} {ds : List Deferred} {ty : TypeId} {p : String} {af : Array Edge} {g : Option (Nat × Bool)} {κ ν : Type} {kv : κ → Value} {vv : ν → Value} {ll : List (κ × ν)} {d : Nat}
end
end Go.Abs
end
end
section
noncomputable section
namespace Go.Abs
open Go.Lf
variable {X : Ctx} {n wm : Nat} {rd : Option Nat} {ops : Array Oper} {l : List Oper} {fr : Fr} {ds : List Deferred} {h h1 h2 h0 : H} {T : Nat → Prop} {G Gr Ga Gb : List (Ast wm)}
end Go.Abs
end
end
section
namespace Go.Lf
end Go.Lf
end
section
noncomputable section
namespace Go.Abs
open Go.Lf
variable {X : Ctx} {n wm : Nat} {rd : Option Nat} {ops : Array Oper} {l : List Oper} {rest : Code}
section
variable {wm : Nat} {G Gr : List (Ast wm)} {h h0 : H} {T0 : Nat → Prop} {fr : Fr} {ds : List Deferred} {κ ν : Type} {kv : κ → Value} {vv : ν → Value} {ll : List (κ × ν)} {d : Nat}
end
end Go.Abs
end
end
section
noncomputable section
namespace Go.Abs
open Go.Lf
variable {P : Program}
end Go.Abs
end
end
section
noncomputable section
namespace Go.Abs
open Go.Lf
variable {X : Ctx} {n wm : Nat} {rd : Option Nat} {ops : Array Oper} {ol : List Oper} {fr : Fr} {ds : List Deferred} {h h0 : H} {ty : TypeId} {p : String} {af : Array Edge} {g : Option (Nat × Bool)} {T : Nat → Prop} {G Gr : List (Ast wm)} {d : Nat} {l df : Nat} {LO : AObj} {ps : Array Tmp} {as_ bd : Code}
def dne (c : Code) : AObj → AObj
  | .loop _ _ fr n ps as_ bd df => .loop .done (some c) fr n ps as_ bd df
  | A => A
def lst (b : Bool) (c : Code) (A : AObj) : AObj := bif b then dne c A else A
inductive StopX : XX → Code → Prop
  | ret : StopX .ret .ret
  | exit (id : Nat) : StopX (.exit id) (.exit id)
structure BdS (n lo l : Nat) (fr : Fr) (ps : Array Tmp) (as_ bd : Code) (df : Nat) (R : Bool → H → Prop) (e : XX) (s : Fs) : Prop where
  out : s.h.at l = .loop .busy none fr n ps as_ bd df ∧
    ((e = .normal ∧ ∀ h', (lo ≤ l → Up lo (fun i => i = l) s.h h') → h'.at l = .loop .ready none fr n ps as_ bd df → R true h') ∨
     (∃ c, StopX e c ∧ ∀ h', (lo ≤ l → Up lo (fun i => i = l) s.h h') → h'.at l = .loop .done (some c) fr n ps as_ bd df → R false h'))
structure AsS (X : Ctx) (n wm lo l : Nat) (fr : Fr) (ps : Array Tmp) (as_ bd : Code) (df : Nat) (R : Bool → H → Prop) (e : XX) (s : Fs) : Prop where
  out : e = .normal ∧ s.h.at l = .loop .ready none fr n ps as_ bd df ∧ ∀ h1, (lo ≤ l → Up lo (fun i => i = l) s.h h1) → h1.at l = .loop .busy none fr n ps as_ bd df → WC X n wm (some l) bd ⟨s.fr, s.ds, h1, s.wr⟩ (BdS n lo l fr ps as_ bd df R)
theorem RdOK.mkS {l : Nat} {args : List Value} {fr fr1 : Fr} {ps : Array Tmp} {as_ bd : Code} {df : Nat} {R : Bool → H → Prop} (lo : Nat) (hat : h.at l = .loop .ready none fr n ps as_ bd df) (hw : wm ≤ l) (hl : Nat.beq args.length ps.toList.length = true) (hs : setParams (ps.toList.zip args) n fr = some fr1)
    (k : WC X n wm (some l) as_ ⟨fr1, [], h, none⟩ (AsS X n wm lo l fr ps as_ bd df R)) : RdOK X l args.toArray wm h R := by
  obtain ⟨e1, s1, ⟨rfl, h1, k1⟩, j1⟩ := k
  have o1 : (s1.h.at l).own = true := by rw [h1]; rfl
  have s1l := live_lt h1 rfl
  obtain ⟨e2, s2, ⟨h2, k2⟩, j2⟩ := k1 (s1.h.put l (.loop .busy none fr n ps as_ bd df)) (fun hl => Up.put hl o1) (at_put_same s1l _)
  have o2 : (s2.h.at l).own = true := by rw [h2]; rfl
  have s2l := live_lt h2 rfl
  have key : ∃ b A, R b (s2.h.put l A) ∧ evRound3 l e2 s2 = some (.fin (.ret (.bool b)) (s2.h.put l A)) := by
    rcases k2 with ⟨rfl, k2⟩ | ⟨c, hx, k2⟩
    · refine ⟨true, _, k2 _ (fun hl => Up.put hl o2) (at_put_same s2l _), ?_⟩
      unfold evRound3; rw [h2]
    · refine ⟨false, _, k2 _ (fun hl => Up.put hl o2) (at_put_same s2l _), ?_⟩
      unfold evRound3; rw [h2]; cases hx <;> rfl
  obtain ⟨b, A, hR, hev⟩ := key
  refine ⟨b, s2.h.put l A, hR, ?_⟩
  classical
  let ih : Job → Option Res := fun j => if j = .code as_ n wm (some l) ⟨fr1, [], h, none⟩ then some (.code .normal s1) else oneJob (.code bd n wm (some l) { s1 with h := s1.h.put l (.loop .busy none fr n ps as_ bd df) }) (.code e2 s2) j
  have HI : ∀ j r, ih j = some r → JobOK X j r := by
    intro j r e
    dsimp only [ih] at e
    split at e
    · rename_i hj; cases e; rw [hj]; exact j1
    · exact oneJob_ok (X := X) j2 j r e
  refine evRound_sound (C := cfg X fun _ => false) (ih := ih) HI ?_
  unfold evRound
  rw [hat]
  have hl' : Nat.beq args.toArray.toList.length ps.toList.length = true := hl
  dsimp only
  rw [Nat.ble_eq_true_of_le hw, hl']
  simp only [Bool.and_self, cond_true]
  have hs' : setParams (ps.toList.zip args.toArray.toList) n fr = some fr1 := hs
  rw [hs']
  dsimp only
  have i1 : ih (.code as_ n wm (some l) { fr := fr1, ds := [], h := h }) = some (.code .normal s1) := by dsimp only [ih]; rw [if_pos rfl]
  rw [i1]
  show evRound2 ih l bd n wm .normal s1 = _
  unfold evRound2
  dsimp only
  rw [h1]
  dsimp only
  have i2 : ih (.code bd n wm (some l) { s1 with h := s1.h.put l (.loop .busy none fr n ps as_ bd df) }) = some (.code e2 s2) := by
    dsimp only [ih]
    split
    · rename_i hj
      exfalso
      injection hj with _ _ _ _ hs
      have : ({ s1 with h := s1.h.put l (.loop .busy none fr n ps as_ bd df) } : Fs).h.at l = h.at l := by rw [hs]
      dsimp only at this
      rw [at_put_same s1l, hat] at this
      cases this
    · exact oneJob_eq _ _
  rw [i2]
  exact hev
theorem WO.yldS {Q : XX → Fs → Prop} {fo : Operand} {xs : Array Operand} {ts : Array TypeId} {vs : List Value} {n2 : Nat} {fr2 fr1 : Fr} {as2 bd2 : Code} (hg : GuardOn ops ⟨some d, .call { callee := .value fo, args := xs, argTypes := ts }, ty, p, af, g⟩ fr) (hd : Nat.blt d n = true) (hf : aev fr fo = some (.func (.yield l) #[] #[])) (hx : evs (aev fr) xs.toList = some vs)
    (hS : Sp wm T h0 G h) (pk : Pk G (ob wm l LO) Gr) (hLO : LO = .loop .ready none fr2 n2 ps as2 bd2 df) (hl : Nat.beq vs.length ps.toList.length = true) (hs : setParams (ps.toList.zip vs) n2 fr2 = some fr1)
    (k : WC X n2 wm (some l) as2 ⟨fr1, [], h, none⟩ (AsS X n2 wm wm l fr2 ps as2 bd2 df (fun b h' => WO X n wm rd ops ol ⟨Tr.set fr d (.bool b), ds, h', none⟩ Q))) :
    WO X n wm rd ops (⟨some d, .call { callee := .value fo, args := xs, argTypes := ts }, ty, p, af, g⟩ :: ol) ⟨fr, ds, h, none⟩ Q := by
  obtain ⟨h1, h2, h3⟩ := hS.get pk
  have hat := h1.trans hLO
  exact WO.yld hg hd hf hx hat (Nat.eq_of_beq_eq_true hl) (RdOK.mkS (lo := wm) hat h2 hl hs k) fun b h' hk => hk
theorem AsS.sp {fr2 : Fr} {R : Bool → H → Prop} (hLO : LO = .loop .ready none fr n ps as_ bd df) (hS : Sp wm T h0 G h) (pk : Pk G (ob wm l LO) Gr) (k : ∀ h1, Sp wm T h0 (ob wm l (bsy LO) :: Gr) h1 → WC X n wm (some l) bd ⟨fr2, ds, h1, none⟩ (BdS n wm l fr ps as_ bd df R)) : AsS X n wm wm l fr ps as_ bd df R .normal ⟨fr2, ds, h, none⟩ := by
  obtain ⟨h1, h2, h3⟩ := hS.get pk
  refine ⟨⟨rfl, h1.trans hLO, fun h' u e => k h' ?_⟩⟩
  exact hS.one pk (u h2) (fun _ q => q) ⟨by rw [e, hLO]; rfl, h2, by rw [hLO]; rfl⟩ fun _ q => .inl q
theorem BdS.sp {fr2 : Fr} {R : Bool → H → Prop} (hLO : LO = .loop .ready none fr n ps as_ bd df) (hS : Sp wm T h0 G h) (pk : Pk G (ob wm l (bsy LO)) Gr) (k : ∀ h1, Sp wm T h0 (ob wm l LO :: Gr) h1 → R true h1) : BdS n wm l fr ps as_ bd df R .normal ⟨fr2, ds, h, none⟩ := by
  obtain ⟨h1, h2, h3⟩ := hS.get pk
  refine ⟨⟨h1.trans (by rw [hLO]; rfl), .inl ⟨rfl, fun h' u e => k h' ?_⟩⟩⟩
  exact hS.one pk (u h2) (fun _ q => q) ⟨by rw [e, hLO], h2, by rw [hLO]; rfl⟩ fun _ q => .inl q
theorem BdS.stop {fr2 : Fr} {R : Bool → H → Prop} {e : XX} {c : Code} (hx : StopX e c) (hLO : LO = .loop .ready none fr n ps as_ bd df) (hS : Sp wm T h0 G h) (pk : Pk G (ob wm l (bsy LO)) Gr) (k : ∀ h1, Sp wm T h0 (ob wm l (lst true c LO) :: Gr) h1 → R false h1) : BdS n wm l fr ps as_ bd df R e ⟨fr2, ds, h, none⟩ := by
  obtain ⟨h1, h2, h3⟩ := hS.get pk
  refine ⟨⟨h1.trans (by rw [hLO]; rfl), .inr ⟨c, hx, fun h' u e => k h' ?_⟩⟩⟩
  exact hS.one pk (u h2) (fun _ q => q) ⟨by rw [e, hLO]; rfl, h2, by rw [hLO]; rfl⟩ fun _ q => .inl q
structure RgS (X : Ctx) (wm l : Nat) (fr : Fr) (n : Nat) (ps : Array Tmp) (as_ bd : Code) (df : Nat) (ds : List Deferred) (Q : XX → Fs → Prop) (h : H) : Prop where
  low : wm ≤ l
  k : (h.at l = .loop .ready none fr n ps as_ bd df ∧ ∀ h', Up wm (fun i => i = l) h h' → Q .normal ⟨fr, ⟨.collected df, #[]⟩ :: ds, h', none⟩) ∨
    (∃ c, h.at l = .loop .done (some c) fr n ps as_ bd df ∧ ∀ h', Up wm (fun i => i = l) h h' → WC X n wm none c ⟨fr, ⟨.collected df, #[]⟩ :: ds, h', none⟩ Q)
theorem RgS.sp {Q : XX → Fs → Prop} (hLO : LO = .loop .ready none fr n ps as_ bd df) (hS : Sp wm T h0 G h) (pk : Pk G (ob wm l LO) Gr) (k : ∀ h', Sp wm T h0 Gr h' → Q .normal ⟨fr, ⟨.collected df, #[]⟩ :: ds, h', none⟩) : RgS X wm l fr n ps as_ bd df ds Q h := by
  obtain ⟨h1, h2, h3⟩ := hS.get pk
  refine ⟨h2, .inl ⟨h1.trans hLO, fun h' u => k h' ?_⟩⟩
  exact Sp.step (Ga := [ob wm l LO]) (Gb := []) (hS.perm pk.perm) u (fun i e => ⟨_, List.mem_singleton.2 rfl, e⟩) Hold.nil fun i ⟨A, m, f⟩ => by simp at m
theorem RgS.stop {Q : XX → Fs → Prop} {c : Code} (hLO : LO = .loop .ready none fr n ps as_ bd df) (hS : Sp wm T h0 G h) (pk : Pk G (ob wm l (lst true c LO)) Gr) (k : ∀ h', Sp wm T h0 Gr h' → WC X n wm none c ⟨fr, ⟨.collected df, #[]⟩ :: ds, h', none⟩ Q) : RgS X wm l fr n ps as_ bd df ds Q h := by
  obtain ⟨h1, h2, h3⟩ := hS.get pk
  refine ⟨h2, .inr ⟨c, h1.trans (by rw [hLO]; rfl), fun h' u => k h' ?_⟩⟩
  exact Sp.step (Ga := [ob wm l (lst true c LO)]) (Gb := []) (hS.perm pk.perm) u (fun i e => ⟨_, List.mem_singleton.2 rfl, e⟩) Hold.nil fun i ⟨A, m, f⟩ => by simp at m
theorem WC.rangeS {Q : XX → Fs → Prop} {gg : Operand} {f : FuncId} {first cap : List Value} (hS : Sp wm T h0 G h) (hg : aev fr gg = some (.func (.func f) first.toArray cap.toArray)) (hf : (X.fns.get f).isSome = true)
    (k : ∀ h' l df LO, LO = AObj.loop .ready none fr n ps as_ bd df → Sp wm T h0 (ob wm l LO :: ob wm df .deferred :: G) h' → WR X f (first ++ ([Value.func (.yield l) #[] #[]] ++ cap)).toArray wm h' (fun _ h2 => RgS X wm l fr n ps as_ bd df ds Q h2)) :
    WC X n wm none (.rangeFunc gg ps as_ bd) ⟨fr, ds, h, none⟩ Q := by
  have s1 : Sp wm T h0 (ob wm h.size .deferred :: G) (h.push .deferred) := ob_new rfl hS
  have s2 : Sp wm T h0 (ob wm (h.size + 1) (.loop .ready none fr n ps as_ bd h.size) :: ob wm h.size .deferred :: G) ((h.push .deferred).push (.loop .ready none fr n ps as_ bd h.size)) := by
    have := ob_new (A := .loop .ready none fr n ps as_ bd h.size) rfl s1
    rwa [H.size_push] at this
  obtain ⟨fn, hf⟩ := Option.isSome_iff_exists.1 hf
  obtain ⟨e, h3, ⟨v, rfl, hr⟩, hj⟩ := k _ _ _ _ rfl s2
  have hac : acall (cfg X fun _ => false).X ((h.push .deferred).push (.loop .ready none fr n ps as_ bd h.size)) (.func (.func f) first.toArray cap.toArray) [Value.func (.yield (h.size + 1)) #[] #[]] = some (.enter f (first ++ ([Value.func (.yield (h.size + 1)) #[] #[]] ++ cap)).toArray, .none) := by
    unfold acall
    have : (cfg X fun _ => false).X.fns.get f = some fn := hf
    dsimp only
    rw [this]
    simp only [List.append_assoc]
  rcases hr.k with ⟨hat, hk⟩ | ⟨c, hat, hk⟩
  · refine ⟨.normal, _, hk (h3.put (h.size + 1) (.loop .exhausted none fr n ps as_ bd h.size)) (Up.put hr.low (by rw [hat]; rfl)), ?_⟩
    refine code_iff.2 (evRange_sound (C := cfg X fun _ => false) (ih := oneJob (.call f _ wm _) (.fin (.ret v) h3)) (oneJob_ok hj) ?_)
    show evRange1 (cfg X fun _ => false) _ gg n wm none (h.size + 1) ⟨fr, ⟨.collected h.size, #[]⟩ :: ds, (h.push .deferred).push (.loop .ready none fr n ps as_ bd h.size), none⟩ = _
    unfold evRange1
    dsimp only
    rw [hg]
    dsimp only
    rw [hac]
    dsimp only
    unfold evRanged
    rw [oneJob_eq]
    dsimp only
    rw [hat]
    rfl
  · obtain ⟨e2, s2, hq, hj2⟩ := hk (h3.put (h.size + 1) (.loop .exhausted (some c) fr n ps as_ bd h.size)) (Up.put hr.low (by rw [hat]; rfl))
    refine ⟨e2, s2, hq, ?_⟩
    classical
    let ih : Job → Option Res := fun j => if j = .code c n wm none ⟨fr, ⟨.collected h.size, #[]⟩ :: ds, h3.put (h.size + 1) (.loop .exhausted (some c) fr n ps as_ bd h.size), none⟩ then some (.code e2 s2) else oneJob (.call f (first ++ ([Value.func (.yield (h.size + 1)) #[] #[]] ++ cap)).toArray wm ((h.push .deferred).push (.loop .ready none fr n ps as_ bd h.size))) (.fin (.ret v) h3) j
    have HI : ∀ j r, ih j = some r → JobOK X j r := by
      intro j r e
      dsimp only [ih] at e
      split at e
      · rename_i hj'; cases e; rw [hj']; exact hj2
      · exact oneJob_ok (X := X) hj j r e
    refine code_iff.2 (evRange_sound (C := cfg X fun _ => false) (ih := ih) HI ?_)
    show evRange1 (cfg X fun _ => false) _ gg n wm none (h.size + 1) ⟨fr, ⟨.collected h.size, #[]⟩ :: ds, (h.push .deferred).push (.loop .ready none fr n ps as_ bd h.size), none⟩ = _
    unfold evRange1
    dsimp only
    rw [hg]
    dsimp only
    rw [hac]
    dsimp only
    unfold evRanged
    have i1 : ih (.call f (first ++ ([Value.func (.yield (h.size + 1)) #[] #[]] ++ cap)).toArray wm ((h.push .deferred).push (.loop .ready none fr n ps as_ bd h.size))) = some (.fin (.ret v) h3) := by
      dsimp only [ih]
      split
      · rename_i hj'; cases hj'
      · exact oneJob_eq _ _
    rw [i1]
    dsimp only
    rw [hat]
    show ih (.code c n wm none _) = _
    dsimp only [ih]
    rw [if_pos rfl]
section
variable {sf : ST} {m : Nat}
end
theorem cond_no {β : Type} {b : Bool} {x : Option β} {r : β} (h : (bif b then none else x) = some r) : b = false ∧ x = some r := by
  cases b
  · exact ⟨rfl, h⟩
  · cases h
theorem bool_cases (b : Bool) : b = true ∨ b = false := by cases b <;> simp
end Go.Abs
end
end
section
noncomputable section
namespace Go.Abs
open Go.Lf
def colD (L : List Nat) : List Deferred := L.map fun r => ⟨.collected r, #[]⟩
def cds (wm : Nat) (L : List Nat) : Ast wm where
  P := fun h => (∀ r ∈ L, h.at r = .deferred ∧ wm ≤ r) ∧ L.Nodup
  fp := fun i => i ∈ L
  loc := fun _ k ⟨h1, h2⟩ => ⟨fun r hr => ⟨by rw [k r hr]; exact (h1 r hr).1, (h1 r hr).2⟩, h2⟩
  own := fun ⟨h1, _⟩ e => ⟨(h1 _ e).2, by rw [(h1 _ e).1]; rfl⟩
section
variable {X : Ctx} {n wm : Nat} {G G1 G2 Gr : List (Ast wm)} {h h0 : H} {T : Nat → Prop} {df : Nat} {L : List Nat} {fr : Fr} {ds : List Deferred}
theorem Sp.cds0 (s : Sp wm T h0 G h) : Sp wm T h0 (cds wm [] :: G) h := s.add ⟨fun r hr => (by cases hr), List.nodup_nil⟩ (fun i hi => (by cases hi))
theorem Sp.cdsc (s : Sp wm T h0 G h) (p : Pk G (ob wm df .deferred) G1) (q : Pk G1 (cds wm L) G2) : Sp wm T h0 (cds wm (df :: L) :: G2) h := by
  have s := s.perm (p.perm.trans (List.Perm.cons _ q.perm))
  have h1 := s.hold.all (ob wm df .deferred) (by simp)
  have h2 := s.hold.all (cds wm L) (by simp)
  have d := s.hold.dis
  rw [List.pairwise_cons, List.pairwise_cons] at d
  obtain ⟨d1, d2, d3⟩ := d
  refine ⟨s.wl, s.fz, s.keep, ⟨fun A m => ?_, List.pairwise_cons.2 ⟨fun B m i f f' => ?_, d3⟩⟩, fun i f => ?_⟩
  · rcases List.mem_cons.1 m with m | m
    · rw [m]
      refine ⟨fun r hr => ?_, List.nodup_cons.2 ⟨fun z => d1 (cds wm L) (by simp) df rfl z, h2.2⟩⟩
      rcases List.mem_cons.1 hr with e | e
      · rw [e]; exact ⟨h1.1, h1.2.1⟩
      · exact h2.1 r e
    · exact s.hold.all A (by simp [m])
  · rcases List.mem_cons.1 f with e | e
    · exact d1 B (by simp [m]) i e f'
    · exact d2 B m i e f'
  · obtain ⟨A, m, f⟩ := f
    rcases List.mem_cons.1 m with m | m
    · rw [m] at f
      rcases List.mem_cons.1 f with e | e
      · exact s.inn i ⟨ob wm df .deferred, by simp, e⟩
      · exact s.inn i ⟨cds wm L, by simp, e⟩
    · exact s.inn i ⟨A, by simp [m], f⟩
theorem RetL.colsS {fn : Func} {R : AEnd → H → Prop} : ∀ {L : List Nat} {G : List (Ast wm)} {h : H} (_ : Sp wm T h0 G h) (_ : Pk G (cds wm L) Gr) (_ : ∀ h', Sp wm T h0 Gr h' → RetL X fn wm R .ret ⟨fr, ds, h', none⟩), RetL X fn wm R .ret ⟨fr, colD L ++ ds, h, none⟩
  | [], _, h, hS, pk, k => k h (hS.drop pk)
  | r :: L, G, h, hS, pk, k => by
    obtain ⟨h1, h2⟩ := hS.get pk
    have hr := h1 r (by simp)
    have hn := List.nodup_cons.1 h2
    refine RetL.col wm hr.2 hr.1 hr.2 fun h' u => ?_
    have s : Sp wm T h0 (cds wm L :: Gr) h' := Sp.step (Ga := [cds wm (r :: L)]) (Gb := [cds wm L]) (hS.perm pk.perm) u (fun i e => ⟨_, List.mem_singleton.2 rfl, by rw [e]; exact List.mem_cons_self⟩)
      (Hold.one ⟨fun x hx => ⟨by rw [u.keep x (live_lt (h1 x (by simp [hx])).1 rfl) (fun e => hn.1 (e ▸ hx))]; exact (h1 x (by simp [hx])).1, (h1 x (by simp [hx])).2⟩, hn.2⟩)
      fun i ⟨A, m, f⟩ => .inl ⟨_, List.mem_singleton.2 rfl, by rw [List.mem_singleton.1 m] at f; exact List.mem_cons_of_mem _ f⟩
    exact RetL.colsS s .z k
end
end Go.Abs
end
end
section

end
section
namespace Go.Proofs.YtcnahmgekicbdaaGreat
structure TollSpot where
  at_ : Int
  in_ : Int
  deriving DecidableEq, Inhabited
structure TollSetup where
  machines : Int
  spots : (List TollSpot)
  deriving DecidableEq, Inhabited
structure TollEvent where
  deed : Int
  place : Int
  other : Int
  n : Int
  deriving DecidableEq, Inhabited
structure Story where
  setup : TollSetup
  before : (List TollEvent)
  deriving DecidableEq, Inhabited
def eqTollEvent (x y : TollEvent) : Bool := [x.deed == y.deed, x.place == y.place, x.other == y.other, x.n == y.n].all id
def f15L : Option Bool := some true
end Go.Proofs.YtcnahmgekicbdaaGreat
end
section
set_option maxRecDepth 100000
noncomputable section
namespace Go.Proofs.YtcnahmgekicbdaaGreat
open Go.Abs Go.Lf
def rTollSpot : Rdr TollSpot where
  sz := 2
  pos := by decide
  Par := Unit
  dflt := ()
  sh := fun _ x => [.int .i64 x.at_, .int .i64 x.in_]
  len := fun _ _ => rfl
  one := fun _ _ => rfl
  F := fun _ _ _ _ => True
  mono := fun _ x => x
  up := fun _ x => x
def rTollSetup : Rdr TollSetup where
  sz := 2
  pos := by decide
  Par := (Option Addr × Nat)
  dflt := (none, 0)
  sh := fun p x => [.int .i64 x.machines, .slice p.1 x.spots.length p.2]
  len := fun _ _ => rfl
  one := fun _ _ => rfl
  F := fun wm h p x => Sl rTollSpot wm h p.1 p.2 x.spots
  mono := fun f x => x.mono f
  up := fun f x => x.up f
def rTollEvent : Rdr TollEvent where
  sz := 4
  pos := by decide
  Par := Unit
  dflt := ()
  sh := fun _ x => [.int .i64 x.deed, .int .i64 x.place, .int .i64 x.other, .int .i64 x.n]
  len := fun _ _ => rfl
  one := fun _ _ => rfl
  F := fun _ _ _ _ => True
  mono := fun _ x => x
  up := fun _ x => x
theorem und4 : XX.P.underlying 4 = some .bool := by kernel_rfl
theorem und22 : XX.P.underlying 22 = some (.slice 66) := by kernel_rfl
theorem und34 : XX.P.underlying 34 = some (.slice 64) := by kernel_rfl
theorem und35 : XX.P.underlying 35 = some (.slice 3) := by kernel_rfl
theorem agg3 : isAggP XX.P 3 = some false := by kernel_rfl
theorem agg4 : isAggP XX.P 4 = some false := by kernel_rfl
theorem agg22 : isAggP XX.P 22 = some false := by kernel_rfl
theorem agg24 : isAggP XX.P 24 = some true := by kernel_rfl
theorem agg34 : isAggP XX.P 34 = some false := by kernel_rfl
theorem agg35 : isAggP XX.P 35 = some false := by kernel_rfl
theorem agg36 : isAggP XX.P 36 = some false := by kernel_rfl
theorem agg62 : isAggP XX.P 62 = some false := by kernel_rfl
theorem agg64 : isAggP XX.P 64 = some true := by kernel_rfl
theorem agg66 : isAggP XX.P 66 = some true := by kernel_rfl
theorem agg106 : isAggP XX.P 106 = some true := by kernel_rfl
theorem agg112 : isAggP XX.P 112 = some false := by kernel_rfl
theorem size3 : sizeP XX.P 3 = some 1 := by kernel_rfl
theorem size4 : sizeP XX.P 4 = some 1 := by kernel_rfl
theorem size24 : sizeP XX.P 24 = some 2 := by kernel_rfl
theorem size35 : sizeP XX.P 35 = some 1 := by kernel_rfl
theorem size36 : sizeP XX.P 36 = some 1 := by kernel_rfl
theorem size62 : sizeP XX.P 62 = some 1 := by kernel_rfl
theorem size64 : sizeP XX.P 64 = some 4 := by kernel_rfl
theorem size66 : sizeP XX.P 66 = some 2 := by kernel_rfl
theorem size106 : sizeP XX.P 106 = some 3 := by kernel_rfl
theorem size112 : sizeP XX.P 112 = some 1 := by kernel_rfl
theorem fld24_0 : FieldAt XX.P 24 0 0 := FieldAt.of (by kernel_rfl)
theorem fld24_1 : FieldAt XX.P 24 1 1 := FieldAt.of (by kernel_rfl)
theorem fld64_0 : FieldAt XX.P 64 0 0 := FieldAt.of (by kernel_rfl)
theorem fld64_1 : FieldAt XX.P 64 1 1 := FieldAt.of (by kernel_rfl)
theorem fld64_2 : FieldAt XX.P 64 2 2 := FieldAt.of (by kernel_rfl)
theorem fld64_3 : FieldAt XX.P 64 3 3 := FieldAt.of (by kernel_rfl)
theorem fld66_0 : FieldAt XX.P 66 0 0 := FieldAt.of (by kernel_rfl)
theorem fld66_1 : FieldAt XX.P 66 1 1 := FieldAt.of (by kernel_rfl)
theorem fld106_0 : FieldAt XX.P 106 0 0 := FieldAt.of (by kernel_rfl)
theorem fld106_1 : FieldAt XX.P 106 1 2 := FieldAt.of (by kernel_rfl)
theorem zero3 : zeroP XX.P 3 = some (.int .i64 0) := by kernel_rfl
theorem zero4 : zeroP XX.P 4 = some (.bool false) := by kernel_rfl
theorem zero35 : zeroP XX.P 35 = some (.slice none 0 0) := by kernel_rfl
theorem zero36 : zeroP XX.P 36 = some (.int .i64 0) := by kernel_rfl
theorem zero64 : zeroP XX.P 64 = some (.agg #[.int .i64 0, .int .i64 0, .int .i64 0, .int .i64 0]) := by kernel_rfl
theorem zero66 : zeroP XX.P 66 = some (.agg #[.int .i64 0, .int .i64 0]) := by kernel_rfl
theorem zero106 : zeroP XX.P 106 = some (.agg #[.int .i64 0, .slice none 0 0, .slice none 0 0]) := by kernel_rfl
theorem zero112 : zeroP XX.P 112 = some (.nilFunc) := by kernel_rfl
theorem bld64 : BuildAt XX.P 64 [.int .i64 0, .int .i64 0, .int .i64 0, .int .i64 0] [(0, 1), (1, 1), (2, 1), (3, 1)] := ⟨_, _, zero64, rfl, Tryz.underlying64, by kernel_rfl⟩
theorem bld106 : BuildAt XX.P 106 [.int .i64 0, .slice none 0 0, .slice none 0 0] [(0, 2), (2, 1)] := ⟨_, _, zero106, rfl, Tryz.underlying106, by kernel_rfl⟩
theorem app35_35 : AppAt XX.P #[35, 35] 1 8 := ⟨3, .int .i64 0, by kernel_rfl⟩
theorem eqs64 (x y : TollEvent) : EqOf XX.P 64 (rTollEvent.sh () x) (rTollEvent.sh () y) (eqTollEvent x y) :=
  ⟨by kernel_rfl, eq_struct (d := 9999) (bs := [x.deed == y.deed, x.place == y.place, x.other == y.other, x.n == y.n]) Tryz.underlying64 (by kernel_rfl) ⟨⟨by decide, _, _, part_cell (by kernel_rfl) rfl, part_cell (by kernel_rfl) rfl, eq_int (by kernel_rfl)⟩, ⟨by decide, _, _, part_cell (by kernel_rfl) rfl, part_cell (by kernel_rfl) rfl, eq_int (by kernel_rfl)⟩, ⟨by decide, _, _, part_cell (by kernel_rfl) rfl, part_cell (by kernel_rfl) rfl, eq_int (by kernel_rfl)⟩, ⟨by decide, _, _, part_cell (by kernel_rfl) rfl, part_cell (by kernel_rfl) rfl, eq_int (by kernel_rfl)⟩, trivial⟩⟩
theorem has14 : (XX.fns.get 14).isSome = true := by kernel_rfl
theorem has15 : (XX.fns.get 15).isSome = true := by kernel_rfl
theorem has17 : (XX.fns.get 17).isSome = true := by kernel_rfl
theorem has26 : (XX.fns.get 26).isSome = true := by kernel_rfl
theorem has27 : (XX.fns.get 27).isSome = true := by kernel_rfl
theorem has28 : (XX.fns.get 28).isSome = true := by kernel_rfl
theorem has31 : (XX.fns.get 31).isSome = true := by kernel_rfl
theorem has32 : (XX.fns.get 32).isSome = true := by kernel_rfl
theorem has33 : (XX.fns.get 33).isSome = true := by kernel_rfl
theorem has34 : (XX.fns.get 34).isSome = true := by kernel_rfl
theorem has38 : (XX.fns.get 38).isSome = true := by kernel_rfl
theorem has51 : (XX.fns.get 51).isSome = true := by kernel_rfl
theorem has52 : (XX.fns.get 52).isSome = true := by kernel_rfl
theorem has53 : (XX.fns.get 53).isSome = true := by kernel_rfl
theorem has54 : (XX.fns.get 54).isSome = true := by kernel_rfl
theorem has55 : (XX.fns.get 55).isSome = true := by kernel_rfl
theorem has57 : (XX.fns.get 57).isSome = true := by kernel_rfl
theorem has78 : (XX.fns.get 78).isSome = true := by kernel_rfl
theorem has79 : (XX.fns.get 79).isSome = true := by kernel_rfl
theorem has80 : (XX.fns.get 80).isSome = true := by kernel_rfl
theorem has81 : (XX.fns.get 81).isSome = true := by kernel_rfl
theorem has82 : (XX.fns.get 82).isSome = true := by kernel_rfl
theorem has83 : (XX.fns.get 83).isSome = true := by kernel_rfl
theorem has84 : (XX.fns.get 84).isSome = true := by kernel_rfl
theorem has85 : (XX.fns.get 85).isSome = true := by kernel_rfl
theorem has110 : (XX.fns.get 110).isSome = true := by kernel_rfl
theorem has111 : (XX.fns.get 111).isSome = true := by kernel_rfl
theorem has112 : (XX.fns.get 112).isSome = true := by kernel_rfl
theorem has129 : (XX.fns.get 129).isSome = true := by kernel_rfl
theorem has130 : (XX.fns.get 130).isSome = true := by kernel_rfl
theorem has140 : (XX.fns.get 140).isSome = true := by kernel_rfl
end Go.Proofs.YtcnahmgekicbdaaGreat
end
end
section
set_option linter.unusedVariables false
noncomputable section
namespace Go.Abs
open Go.Lf
class AggN (P : Program) (t : TypeId) : Prop where
  out : isAggP P t = some false
class AggY (P : Program) (t : TypeId) : Prop where
  out : isAggP P t = some true
class SzF (P : Program) (t : TypeId) (n : outParam Nat) : Prop where
  out : sizeP P t = some n
class FldF (P : Program) (t : TypeId) (f : Nat) (o : outParam Nat) : Prop where
  out : FieldAt P t f o
class SlcF (P : Program) (t : TypeId) (e : outParam TypeId) : Prop where
  out : P.underlying t = some (.slice e)
class BolF (P : Program) (t : TypeId) : Prop where
  out : P.underlying t = some .bool
class ZroF (P : Program) (t : TypeId) (v : outParam Value) : Prop where
  out : zeroP P t = some v
theorem ia {v : Value} (h : isAny v = false) : isAny v = false := h
theorem evG' {fr : Fr} {t : Nat} {c : Bool} {v : Value} (h : fr.at t = cond c v undef) (ha : isAny v = false) (hc : c = true) : aev fr (.tmp t) = some v := evG h ha hc
section
variable {X : Ctx} {h : H} {fr : Fr} {ty : TypeId} {p' : String} {af : Array Edge} {g : Option (Nat × Bool)} {d : Option Tmp} {wm : Nat} {T : Nat → Prop} {h0 : H} {G Gr : List (Ast wm)}
theorem b_fld {x : Operand} {t : TypeId} {f off b o : Nat} [hf : FldF X.P t f off] (hx : aev fr x = some (.pointer (some ⟨b, o, none⟩))) : aop X h (aev fr) ⟨d, .fieldAddr t x f, ty, p', af, g⟩ = some (.val (.pointer (some ⟨b, o + off, none⟩)), .none) := av_fld hf.out hx
theorem b_ld {x : Operand} {t : TypeId} {b oo : Nat} {vs : List Value} {v : Value} [ht : AggN X.P t] (hx : aev fr x = some (.pointer (some ⟨b, oo, none⟩))) (hS : Sp wm T h0 G h) (pp : Pk G (bx wm b vs) Gr) (hv : vs[oo]? = some v) :
    aop X h (aev fr) ⟨d, .load t x, ty, p', af, g⟩ = some (.val v, .none) := av_ld ht.out hx (hS.atB pp) (Nat.zero_add _).symm hv
theorem b_ldA {x : Operand} {t : TypeId} {b oo sz : Nat} {vs ws : List Value} [ht : AggY X.P t] [hs : SzF X.P t sz] (hx : aev fr x = some (.pointer (some ⟨b, oo, none⟩))) (hS : Sp wm T h0 G h) (pp : Pk G (bx wm b vs) Gr) (hj : Nat.ble (oo + sz) vs.length = true) (hv : (vs.drop oo).take sz = ws) :
    aop X h (aev fr) ⟨d, .load t x, ty, p', af, g⟩ = some (.val (.agg ws.toArray), .none) := av_ldA ht.out hs.out hx (hS.atB pp) (Nat.zero_add _).symm hj hv
theorem b_box {dd : Tmp} {x : Operand} {t : TypeId} {v : Value} {vs : List Value} (hx : aev fr x = some v) (hS : Sp wm T h0 G h) (hv : v.cells.toList = vs) :
    HN X wm ⟨some dd, .box t x, ty, p', af, g⟩ fr h (fun v h' => ∃ b, h.size = b ∧ v = .pointer (some ⟨b, 0, none⟩) ∧ Sp wm T h0 (bx wm b vs :: G) h') := s_box hS hx hv
theorem b_alc {dd : Tmp} {t : TypeId} {v : Value} {vs : List Value} [hz : ZroF X.P t v] (hS : Sp wm T h0 G h) (hv : v.cells.toList = vs) :
    HN X wm ⟨some dd, .alloc t, ty, p', af, g⟩ fr h (fun v h' => ∃ b, h.size = b ∧ v = .pointer (some ⟨b, 0, none⟩) ∧ Sp wm T h0 (bx wm b vs :: G) h') := s_alc hS hz.out hv
theorem b_st {x y : Operand} {t : TypeId} {b o sz : Nat} {cs cs' vs : List Value} {v : Value} [hs : SzF X.P t sz] (hx : aev fr x = some (.pointer (some ⟨b, o, none⟩))) (hS : Sp wm T h0 G h) (pk : Pk G (bx wm b cs) Gr) (hy : aev fr y = some v)
    (hvs : v.cells.toList = vs) (hn : Nat.beq vs.length sz = true) (hl : Nat.ble (o + sz) cs.length = true) (hc : vs.all Value.oneCell' = true) (hv : splice cs o vs = cs') :
    HU X wm ⟨none, .store t x y, ty, p', af, g⟩ fr h (fun i => i = b) (fun h' => Sp wm T h0 (bx wm b cs' :: Gr) h') := s_st hS pk hs.out hx hy hvs hn hl hc hv
theorem b_ixn {α : Type} {xs : List α} {v : α} {x y : Operand} {t e : TypeId} {sz b o nn c dd : Nat} {a : Option Addr} {k : Int} [hu : SlcF X.P t e] [hs : SzF X.P e sz] (hx : aev fr x = some (.slice a nn c)) (hy : aev fr y = some (.int .i64 k)) (hn : nn = xs.length) (ha : a = some ⟨b, o, none⟩) (hk : geti xs k = some v) :
    aop X h (aev fr) ⟨some dd, .indexAddr t x y, ty, p', af, g⟩ = some (.val (.pointer (some ⟨b, o + k.toNat * sz, none⟩)), .none) := av_ixn hu.out hs.out hx hy hn ha hk
theorem b_lde {x : Operand} {t : TypeId} {b o oo j : Nat} {vs : List Value} {v : Value} [ht : AggN X.P t] (hx : aev fr x = some (.pointer (some ⟨b, oo, none⟩))) (ha : At h b o vs) (ho : oo = o + j) (hv : vs[j]? = some v) :
    aop X h (aev fr) ⟨d, .load t x, ty, p', af, g⟩ = some (.val v, .none) := av_ld ht.out hx ha ho hv
theorem b_len {x : Operand} {t e' : TypeId} {a : Option Addr} {mm cc : Nat} {dd : Nat} [hu : SlcF X.P t e'] (hx : aev fr x = some (.slice a mm cc)) :
    aop X h (aev fr) ⟨some dd, .call { callee := .builtin .len, args := #[x], argTypes := #[t] }, ty, p', af, g⟩ = some (.val (.int .i64 (mm : Int)), .none) := av_lenO hu.out hx rfl
end
section
variable {X : Ctx} {n wm : Nat} {rd : Option Nat} {ops : Array Oper} {l : List Oper} {fr : Fr} {ds : List Deferred} {h : H} {ty : TypeId} {p : String} {af : Array Edge} {g : Option (Nat × Bool)} {sf : ST} {m : Nat}
theorem WX.w2 {Q : Fr → H → Prop} {d : Nat} {op : Op} {v : Value} (hg : GuardOn ops ⟨some d, op, ty, p, af, g⟩ fr) (hd : Nat.blt d n = true) (hM : okM ops sf m ⟨some d, op, ty, p, af, g⟩ = true) (ha : aop X h (aev fr) ⟨some d, op, ty, p, af, g⟩ = some (.val v, .none)) (k : WX X n wm rd ops sf (m + 1) h l (Tr.set fr d v) Q) :
    WX X n wm rd ops sf m h (⟨some d, op, ty, p, af, g⟩ :: l) fr Q := WX.w hg hd ha k hM
theorem WX.gv2 {Q : Fr → H → Prop} {d : Nat} {op : Op} {c : Bool} {v : Value} (hg : GuardIs ops ⟨some d, op, ty, p, af, g⟩ fr c) (hd : Nat.blt d n = true) (hM : okM ops sf m ⟨some d, op, ty, p, af, g⟩ = true) (ha : c = true → aop X h (aev fr) ⟨some d, op, ty, p, af, g⟩ = some (.val v, .none)) (k : WX X n wm rd ops sf (m + 1) h l (Tr.set fr d (cond c v undef)) Q) :
    WX X n wm rd ops sf m h (⟨some d, op, ty, p, af, g⟩ :: l) fr Q := WX.gv hg hd ha k hM
end
structure Kp (q : Prop) : Prop where
  out : q
section
variable {X : Ctx} {n wm : Nat} {rd : Option Nat} {Q : XX → Fs → Prop}
theorem cn {c : Operand} {a b : Code} {t : Bool} {fr : Fr} {ds : List Deferred} {h : H} {α : Type} {x y r : α} (hL : (bif t then x else y) = r) (h1 : t = true → x = r → WC X n wm rd a ⟨fr, ds, h, none⟩ Q) (h2 : t = false → y = r → WC X n wm rd b ⟨fr, ds, h, none⟩ Q) (hc : aev fr c = some (.bool t) := by (first | exact evC rfl | (apply evT; (focus (repeat (first | with_reducible exact fh | ((with_reducible apply fs8); exact rfl) | ((with_reducible apply fs4); exact rfl) | ((with_reducible apply fs2); exact rfl) | ((with_reducible apply fskip); exact rfl) | with_reducible assumption)); done); (first | exact ia rfl | assumption)) | (apply evG'; (focus (repeat (first | with_reducible exact fh | ((with_reducible apply fs8); exact rfl) | ((with_reducible apply fs4); exact rfl) | ((with_reducible apply fs2); exact rfl) | ((with_reducible apply fskip); exact rfl) | with_reducible assumption)); done); (first | exact ia rfl | assumption); assumption) | fail)) : WC X n wm rd (.cond c a b) ⟨fr, ds, h, none⟩ Q :=
  WC.condN hc (fun e => h1 e (cond_tt e hL)) (fun e => h2 e (cond_ff e hL))
theorem rt {fn : Func} {fr : Fr} {h h0 : H} {T : Nat → Prop} {G G' : List (Ast wm)} {wr : Option Nat} {t : Tmp} {β : Type} {x r : β} {g : β → Value} (hL : some x = some r) (hT : T = Fps G) (hS : Sp wm T h0 G' h) (hr : fn.results.toList = [.tmp t] := by exact rfl) (hv : aev fr (.tmp t) = some (g x) := by (first | exact evC rfl | (apply evT; (focus (repeat (first | with_reducible exact fh | ((with_reducible apply fs8); exact rfl) | ((with_reducible apply fs4); exact rfl) | ((with_reducible apply fs2); exact rfl) | ((with_reducible apply fskip); exact rfl) | with_reducible assumption)); done); (first | exact ia rfl | assumption)) | (apply evG'; (focus (repeat (first | with_reducible exact fh | ((with_reducible apply fs8); exact rfl) | ((with_reducible apply fs4); exact rfl) | ((with_reducible apply fs2); exact rfl) | ((with_reducible apply fskip); exact rfl) | with_reducible assumption)); done); (first | exact ia rfl | assumption); assumption) | fail)) :
    RetK X fn (fun e h' => ∃ v, e = .ret v ∧ CP (fun v Gb => v = g r ∧ Gb = []) G h0 v h') .ret ⟨fr, [], h, wr⟩ := by
  cases hL; exact RetK.gen1 hr (ares_tmp hv ares_nil) ⟨_, ⟨rfl, rfl⟩, hT ▸ hS.only .n⟩
theorem bg {f : FuncId} {fn : Func} {c : Code} {args : List Value} {n : Nat} {K : Value → List (Ast wm) → Prop} {G : List (Ast wm)} {h : H} {fr : Fr} (hnt : fn.ntmps = n) (hwm : wm ≤ h.size) (hO : Hold G h)
    (k : ∀ T, T = Fps (wm := wm) G → Sp wm T h G h → WC X n wm none c ⟨fr, [], h, none⟩ (RetK X fn (fun e h' => ∃ v, e = .ret v ∧ CP K G h v h'))) (hf : X.fns.get f = some fn := by kernel_rfl) (hb : fn.body = some c := by exact rfl) (hn : args.length ≤ n := by simp)
    (hfr : frameOf args 0 .nil = fr := by (simp only [frameOf_cons, frameOf_nil, Nat.reduceAdd]; exact rfl)) : WR X f args.toArray wm h (CP K G h) := by
  subst hfr
  exact WF.begin hf hb hnt hn (k _ rfl (Sp.start hwm hO))
end
theorem lk {p : Prop} (h : p := by (first | exact evC rfl | (apply evT; (focus (repeat (first | with_reducible exact fh | ((with_reducible apply fs8); exact rfl) | ((with_reducible apply fs4); exact rfl) | ((with_reducible apply fs2); exact rfl) | ((with_reducible apply fskip); exact rfl) | with_reducible assumption)); done); (first | exact ia rfl | assumption)) | (apply evG'; (focus (repeat (first | with_reducible exact fh | ((with_reducible apply fs8); exact rfl) | ((with_reducible apply fs4); exact rfl) | ((with_reducible apply fs2); exact rfl) | ((with_reducible apply fskip); exact rfl) | with_reducible assumption)); done); (first | exact ia rfl | assumption); assumption) | fail)) : p := h
theorem lks {p : Prop} (h : p := by
  repeat (first | exact evs_nil | (apply evs_cons; (focus (first | exact evC rfl | (apply evT; (focus (repeat (first | with_reducible exact fh | ((with_reducible apply fs8); exact rfl) | ((with_reducible apply fs4); exact rfl) | ((with_reducible apply fs2); exact rfl) | ((with_reducible apply fskip); exact rfl) | with_reducible assumption)); done); (first | exact ia rfl | assumption)) | (apply evG'; (focus (repeat (first | with_reducible exact fh | ((with_reducible apply fs8); exact rfl) | ((with_reducible apply fs4); exact rfl) | ((with_reducible apply fs2); exact rfl) | ((with_reducible apply fskip); exact rfl) | with_reducible assumption)); done); (first | exact ia rfl | assumption); assumption) | fail); done)))
  done) : p := h
theorem las {p : Prop} (h : p := by
  repeat (first | with_reducible exact fh | ((with_reducible apply fs8); exact rfl) | ((with_reducible apply fs4); exact rfl) | ((with_reducible apply fs2); exact rfl) | ((with_reducible apply fskip); exact rfl) | with_reducible assumption | refine ⟨?_, ?_⟩)
  done) : p := h
theorem r1 {p q : Prop} (k : q) (h : Kp q → p := by
    intro k
    first
    | refine WO.nil ?_
    | refine SeqK.nrm ?_
    | refine WC.seq ?_
    | refine WC.region ?_
    | ((first | apply WO.w gN rfl | (apply WO.gv; (focus (first | (apply GuardIs.yes rfl rfl rfl; (focus (repeat (first | with_reducible exact fh | ((with_reducible apply fs8); exact rfl) | ((with_reducible apply fs4); exact rfl) | ((with_reducible apply fs2); exact rfl) | ((with_reducible apply fskip); exact rfl) | with_reducible assumption)); done)) | (apply GuardIs.no rfl rfl rfl; (focus (repeat (first | with_reducible exact fh | ((with_reducible apply fs8); exact rfl) | ((with_reducible apply fs4); exact rfl) | ((with_reducible apply fs2); exact rfl) | ((with_reducible apply fskip); exact rfl) | with_reducible assumption)); done)) | (apply GuardIs.yes2 rfl rfl rfl; (focus (repeat (first | with_reducible exact fh | ((with_reducible apply fs8); exact rfl) | ((with_reducible apply fs4); exact rfl) | ((with_reducible apply fs2); exact rfl) | ((with_reducible apply fskip); exact rfl) | with_reducible assumption)); done)) | (apply GuardIs.no2 rfl rfl rfl; (focus (repeat (first | with_reducible exact fh | ((with_reducible apply fs8); exact rfl) | ((with_reducible apply fs4); exact rfl) | ((with_reducible apply fs2); exact rfl) | ((with_reducible apply fskip); exact rfl) | with_reducible assumption)); done)) | fail); done); rfl; intro hg) | (apply WX.w2 gN; rfl; rfl) | (apply WX.gv2; (focus (first | (apply GuardIs.yes rfl rfl rfl; (focus (repeat (first | with_reducible exact fh | ((with_reducible apply fs8); exact rfl) | ((with_reducible apply fs4); exact rfl) | ((with_reducible apply fs2); exact rfl) | ((with_reducible apply fskip); exact rfl) | with_reducible assumption)); done)) | (apply GuardIs.no rfl rfl rfl; (focus (repeat (first | with_reducible exact fh | ((with_reducible apply fs8); exact rfl) | ((with_reducible apply fs4); exact rfl) | ((with_reducible apply fs2); exact rfl) | ((with_reducible apply fskip); exact rfl) | with_reducible assumption)); done)) | (apply GuardIs.yes2 rfl rfl rfl; (focus (repeat (first | with_reducible exact fh | ((with_reducible apply fs8); exact rfl) | ((with_reducible apply fs4); exact rfl) | ((with_reducible apply fs2); exact rfl) | ((with_reducible apply fskip); exact rfl) | with_reducible assumption)); done)) | (apply GuardIs.no2 rfl rfl rfl; (focus (repeat (first | with_reducible exact fh | ((with_reducible apply fs8); exact rfl) | ((with_reducible apply fs4); exact rfl) | ((with_reducible apply fs2); exact rfl) | ((with_reducible apply fskip); exact rfl) | with_reducible assumption)); done)) | fail); done); rfl; rfl; intro hg)); (focus (first
      | ((with_reducible apply av_move); (first | exact evC rfl | (apply evT; (focus (repeat (first | with_reducible exact fh | ((with_reducible apply fs8); exact rfl) | ((with_reducible apply fs4); exact rfl) | ((with_reducible apply fs2); exact rfl) | ((with_reducible apply fskip); exact rfl) | with_reducible assumption)); done); (first | exact ia rfl | assumption)) | (apply evG'; (focus (repeat (first | with_reducible exact fh | ((with_reducible apply fs8); exact rfl) | ((with_reducible apply fs4); exact rfl) | ((with_reducible apply fs2); exact rfl) | ((with_reducible apply fskip); exact rfl) | with_reducible assumption)); done); (first | exact ia rfl | assumption); assumption) | fail))
      | ((with_reducible apply b_ld); (focus (first | exact evC rfl | (apply evT; (focus (repeat (first | with_reducible exact fh | ((with_reducible apply fs8); exact rfl) | ((with_reducible apply fs4); exact rfl) | ((with_reducible apply fs2); exact rfl) | ((with_reducible apply fskip); exact rfl) | with_reducible assumption)); done); (first | exact ia rfl | assumption)) | (apply evG'; (focus (repeat (first | with_reducible exact fh | ((with_reducible apply fs8); exact rfl) | ((with_reducible apply fs4); exact rfl) | ((with_reducible apply fs2); exact rfl) | ((with_reducible apply fskip); exact rfl) | with_reducible assumption)); done); (first | exact ia rfl | assumption); assumption) | fail); done); assumption; (focus (first | exact k0 | exact k1 | exact k2 | exact k3 | exact k4 | exact k5 | exact k6 | exact k7 | (repeat (first | exact k7 | apply Pk.s))); done); rfl)
      | ((with_reducible apply b_fld); (first | exact evC rfl | (apply evT; (focus (repeat (first | with_reducible exact fh | ((with_reducible apply fs8); exact rfl) | ((with_reducible apply fs4); exact rfl) | ((with_reducible apply fs2); exact rfl) | ((with_reducible apply fskip); exact rfl) | with_reducible assumption)); done); (first | exact ia rfl | assumption)) | (apply evG'; (focus (repeat (first | with_reducible exact fh | ((with_reducible apply fs8); exact rfl) | ((with_reducible apply fs4); exact rfl) | ((with_reducible apply fs2); exact rfl) | ((with_reducible apply fskip); exact rfl) | with_reducible assumption)); done); (first | exact ia rfl | assumption); assumption) | fail))
      | ((with_reducible apply av_assign); (first | exact evC rfl | (apply evT; (focus (repeat (first | with_reducible exact fh | ((with_reducible apply fs8); exact rfl) | ((with_reducible apply fs4); exact rfl) | ((with_reducible apply fs2); exact rfl) | ((with_reducible apply fskip); exact rfl) | with_reducible assumption)); done); (first | exact ia rfl | assumption)) | (apply evG'; (focus (repeat (first | with_reducible exact fh | ((with_reducible apply fs8); exact rfl) | ((with_reducible apply fs4); exact rfl) | ((with_reducible apply fs2); exact rfl) | ((with_reducible apply fskip); exact rfl) | with_reducible assumption)); done); (first | exact ia rfl | assumption); assumption) | fail))
      | ((with_reducible apply av_bin); (focus (first | exact evC rfl | (apply evT; (focus (repeat (first | with_reducible exact fh | ((with_reducible apply fs8); exact rfl) | ((with_reducible apply fs4); exact rfl) | ((with_reducible apply fs2); exact rfl) | ((with_reducible apply fskip); exact rfl) | with_reducible assumption)); done); (first | exact ia rfl | assumption)) | (apply evG'; (focus (repeat (first | with_reducible exact fh | ((with_reducible apply fs8); exact rfl) | ((with_reducible apply fs4); exact rfl) | ((with_reducible apply fs2); exact rfl) | ((with_reducible apply fskip); exact rfl) | with_reducible assumption)); done); (first | exact ia rfl | assumption); assumption) | fail); done); (focus (first | exact evC rfl | (apply evT; (focus (repeat (first | with_reducible exact fh | ((with_reducible apply fs8); exact rfl) | ((with_reducible apply fs4); exact rfl) | ((with_reducible apply fs2); exact rfl) | ((with_reducible apply fskip); exact rfl) | with_reducible assumption)); done); (first | exact ia rfl | assumption)) | (apply evG'; (focus (repeat (first | with_reducible exact fh | ((with_reducible apply fs8); exact rfl) | ((with_reducible apply fs4); exact rfl) | ((with_reducible apply fs2); exact rfl) | ((with_reducible apply fskip); exact rfl) | with_reducible assumption)); done); (first | exact ia rfl | assumption); assumption) | fail); done); (first | with_reducible exact abin_addw | with_reducible exact abin_eql | with_reducible exact abin_lss | with_reducible exact abin_neq | with_reducible exact abin_subw | with_reducible exact abin_gtr | with_reducible exact abin_geq | with_reducible exact abin_leq | with_reducible exact abin_mulw | with_reducible exact abin_eqlB BolF.out | with_reducible exact abin_neqB BolF.out))
      | ((with_reducible apply b_ldA); (focus (first | exact evC rfl | (apply evT; (focus (repeat (first | with_reducible exact fh | ((with_reducible apply fs8); exact rfl) | ((with_reducible apply fs4); exact rfl) | ((with_reducible apply fs2); exact rfl) | ((with_reducible apply fskip); exact rfl) | with_reducible assumption)); done); (first | exact ia rfl | assumption)) | (apply evG'; (focus (repeat (first | with_reducible exact fh | ((with_reducible apply fs8); exact rfl) | ((with_reducible apply fs4); exact rfl) | ((with_reducible apply fs2); exact rfl) | ((with_reducible apply fskip); exact rfl) | with_reducible assumption)); done); (first | exact ia rfl | assumption); assumption) | fail); done); assumption; (focus (first | exact k0 | exact k1 | exact k2 | exact k3 | exact k4 | exact k5 | exact k6 | exact k7 | (repeat (first | exact k7 | apply Pk.s))); done); rfl; (focus simp only [Nat.zero_add, Nat.reduceAdd, List.drop_succ_cons, List.drop_zero, List.take_succ_cons, List.take_zero, List.take_nil]; rfl))
      | ((with_reducible apply b_len); (first | exact evC rfl | (apply evT; (focus (repeat (first | with_reducible exact fh | ((with_reducible apply fs8); exact rfl) | ((with_reducible apply fs4); exact rfl) | ((with_reducible apply fs2); exact rfl) | ((with_reducible apply fskip); exact rfl) | with_reducible assumption)); done); (first | exact ia rfl | assumption)) | (apply evG'; (focus (repeat (first | with_reducible exact fh | ((with_reducible apply fs8); exact rfl) | ((with_reducible apply fs4); exact rfl) | ((with_reducible apply fs2); exact rfl) | ((with_reducible apply fskip); exact rfl) | with_reducible assumption)); done); (first | exact ia rfl | assumption); assumption) | fail))
      | ((with_reducible apply b_ixn); (focus (first | exact evC rfl | (apply evT; (focus (repeat (first | with_reducible exact fh | ((with_reducible apply fs8); exact rfl) | ((with_reducible apply fs4); exact rfl) | ((with_reducible apply fs2); exact rfl) | ((with_reducible apply fskip); exact rfl) | with_reducible assumption)); done); (first | exact ia rfl | assumption)) | (apply evG'; (focus (repeat (first | with_reducible exact fh | ((with_reducible apply fs8); exact rfl) | ((with_reducible apply fs4); exact rfl) | ((with_reducible apply fs2); exact rfl) | ((with_reducible apply fskip); exact rfl) | with_reducible assumption)); done); (first | exact ia rfl | assumption); assumption) | fail); done); (focus (first | exact evC rfl | (apply evT; (focus (repeat (first | with_reducible exact fh | ((with_reducible apply fs8); exact rfl) | ((with_reducible apply fs4); exact rfl) | ((with_reducible apply fs2); exact rfl) | ((with_reducible apply fskip); exact rfl) | with_reducible assumption)); done); (first | exact ia rfl | assumption)) | (apply evG'; (focus (repeat (first | with_reducible exact fh | ((with_reducible apply fs8); exact rfl) | ((with_reducible apply fs4); exact rfl) | ((with_reducible apply fs2); exact rfl) | ((with_reducible apply fskip); exact rfl) | with_reducible assumption)); done); (first | exact ia rfl | assumption); assumption) | fail); done); (focus (exact rfl)); assumption; assumption)
      | ((with_reducible apply b_lde); (focus (first | exact evC rfl | (apply evT; (focus (repeat (first | with_reducible exact fh | ((with_reducible apply fs8); exact rfl) | ((with_reducible apply fs4); exact rfl) | ((with_reducible apply fs2); exact rfl) | ((with_reducible apply fskip); exact rfl) | with_reducible assumption)); done); (first | exact ia rfl | assumption)) | (apply evG'; (focus (repeat (first | with_reducible exact fh | ((with_reducible apply fs8); exact rfl) | ((with_reducible apply fs4); exact rfl) | ((with_reducible apply fs2); exact rfl) | ((with_reducible apply fskip); exact rfl) | with_reducible assumption)); done); (first | exact ia rfl | assumption); assumption) | fail); done); (focus (first | assumption | (apply At.fz; (focus (apply Sp.fz; assumption)); assumption; assumption)); done); (focus (first | exact (Nat.add_zero _).symm | exact rfl); done); rfl)
      | ((with_reducible apply av_extract); (focus (first | exact evC rfl | (apply evT; (focus (repeat (first | with_reducible exact fh | ((with_reducible apply fs8); exact rfl) | ((with_reducible apply fs4); exact rfl) | ((with_reducible apply fs2); exact rfl) | ((with_reducible apply fskip); exact rfl) | with_reducible assumption)); done); (first | exact ia rfl | assumption)) | (apply evG'; (focus (repeat (first | with_reducible exact fh | ((with_reducible apply fs8); exact rfl) | ((with_reducible apply fs4); exact rfl) | ((with_reducible apply fs2); exact rfl) | ((with_reducible apply fskip); exact rfl) | with_reducible assumption)); done); (first | exact ia rfl | assumption); assumption) | fail); done); rfl)
      | ((with_reducible apply av_not); (first | exact evC rfl | (apply evT; (focus (repeat (first | with_reducible exact fh | ((with_reducible apply fs8); exact rfl) | ((with_reducible apply fs4); exact rfl) | ((with_reducible apply fs2); exact rfl) | ((with_reducible apply fskip); exact rfl) | with_reducible assumption)); done); (first | exact ia rfl | assumption)) | (apply evG'; (focus (repeat (first | with_reducible exact fh | ((with_reducible apply fs8); exact rfl) | ((with_reducible apply fs4); exact rfl) | ((with_reducible apply fs2); exact rfl) | ((with_reducible apply fskip); exact rfl) | with_reducible assumption)); done); (first | exact ia rfl | assumption); assumption) | fail))
      | ((with_reducible apply av_nck); (first | exact evC rfl | (apply evT; (focus (repeat (first | with_reducible exact fh | ((with_reducible apply fs8); exact rfl) | ((with_reducible apply fs4); exact rfl) | ((with_reducible apply fs2); exact rfl) | ((with_reducible apply fskip); exact rfl) | with_reducible assumption)); done); (first | exact ia rfl | assumption)) | (apply evG'; (focus (repeat (first | with_reducible exact fh | ((with_reducible apply fs8); exact rfl) | ((with_reducible apply fs4); exact rfl) | ((with_reducible apply fs2); exact rfl) | ((with_reducible apply fskip); exact rfl) | with_reducible assumption)); done); (first | exact ia rfl | assumption); assumption) | fail))
      | ((with_reducible apply av_and); (focus (first | exact evC rfl | (apply evT; (focus (repeat (first | with_reducible exact fh | ((with_reducible apply fs8); exact rfl) | ((with_reducible apply fs4); exact rfl) | ((with_reducible apply fs2); exact rfl) | ((with_reducible apply fskip); exact rfl) | with_reducible assumption)); done); (first | exact ia rfl | assumption)) | (apply evG'; (focus (repeat (first | with_reducible exact fh | ((with_reducible apply fs8); exact rfl) | ((with_reducible apply fs4); exact rfl) | ((with_reducible apply fs2); exact rfl) | ((with_reducible apply fskip); exact rfl) | with_reducible assumption)); done); (first | exact ia rfl | assumption); assumption) | fail); done); (focus (apply evGU; (focus (repeat (first | with_reducible exact fh | ((with_reducible apply fs8); exact rfl) | ((with_reducible apply fs4); exact rfl) | ((with_reducible apply fs2); exact rfl) | ((with_reducible apply fskip); exact rfl) | with_reducible assumption)); done)); done); (first | exact evC rfl | (apply evT; (focus (repeat (first | with_reducible exact fh | ((with_reducible apply fs8); exact rfl) | ((with_reducible apply fs4); exact rfl) | ((with_reducible apply fs2); exact rfl) | ((with_reducible apply fskip); exact rfl) | with_reducible assumption)); done); (first | exact ia rfl | assumption)) | (apply evG'; (focus (repeat (first | with_reducible exact fh | ((with_reducible apply fs8); exact rfl) | ((with_reducible apply fs4); exact rfl) | ((with_reducible apply fs2); exact rfl) | ((with_reducible apply fskip); exact rfl) | with_reducible assumption)); done); (first | exact ia rfl | assumption); assumption) | fail))
      | ((with_reducible apply av_or); (focus (first | exact evC rfl | (apply evT; (focus (repeat (first | with_reducible exact fh | ((with_reducible apply fs8); exact rfl) | ((with_reducible apply fs4); exact rfl) | ((with_reducible apply fs2); exact rfl) | ((with_reducible apply fskip); exact rfl) | with_reducible assumption)); done); (first | exact ia rfl | assumption)) | (apply evG'; (focus (repeat (first | with_reducible exact fh | ((with_reducible apply fs8); exact rfl) | ((with_reducible apply fs4); exact rfl) | ((with_reducible apply fs2); exact rfl) | ((with_reducible apply fskip); exact rfl) | with_reducible assumption)); done); (first | exact ia rfl | assumption); assumption) | fail); done); (focus (first | exact evC rfl | (apply evT; (focus (repeat (first | with_reducible exact fh | ((with_reducible apply fs8); exact rfl) | ((with_reducible apply fs4); exact rfl) | ((with_reducible apply fs2); exact rfl) | ((with_reducible apply fskip); exact rfl) | with_reducible assumption)); done); (first | exact ia rfl | assumption)) | (apply evG'; (focus (repeat (first | with_reducible exact fh | ((with_reducible apply fs8); exact rfl) | ((with_reducible apply fs4); exact rfl) | ((with_reducible apply fs2); exact rfl) | ((with_reducible apply fskip); exact rfl) | with_reducible assumption)); done); (first | exact ia rfl | assumption); assumption) | fail); done); (apply evGU; (focus (repeat (first | with_reducible exact fh | ((with_reducible apply fs8); exact rfl) | ((with_reducible apply fs4); exact rfl) | ((with_reducible apply fs2); exact rfl) | ((with_reducible apply fskip); exact rfl) | with_reducible assumption)); done)))
      | fail)))
    | (apply WO.hu gN; (focus (first | (((with_reducible apply b_st)); (focus (first | exact evC rfl | (apply evT; (focus (repeat (first | with_reducible exact fh | ((with_reducible apply fs8); exact rfl) | ((with_reducible apply fs4); exact rfl) | ((with_reducible apply fs2); exact rfl) | ((with_reducible apply fskip); exact rfl) | with_reducible assumption)); done); (first | exact ia rfl | assumption)) | (apply evG'; (focus (repeat (first | with_reducible exact fh | ((with_reducible apply fs8); exact rfl) | ((with_reducible apply fs4); exact rfl) | ((with_reducible apply fs2); exact rfl) | ((with_reducible apply fskip); exact rfl) | with_reducible assumption)); done); (first | exact ia rfl | assumption); assumption) | fail); done); assumption; (focus (first | exact k0 | exact k1 | exact k2 | exact k3 | exact k4 | exact k5 | exact k6 | exact k7 | (repeat (first | exact k7 | apply Pk.s))); done); (focus (first | exact evC rfl | (apply evT; (focus (repeat (first | with_reducible exact fh | ((with_reducible apply fs8); exact rfl) | ((with_reducible apply fs4); exact rfl) | ((with_reducible apply fs2); exact rfl) | ((with_reducible apply fskip); exact rfl) | with_reducible assumption)); done); (first | exact ia rfl | assumption)) | (apply evG'; (focus (repeat (first | with_reducible exact fh | ((with_reducible apply fs8); exact rfl) | ((with_reducible apply fs4); exact rfl) | ((with_reducible apply fs2); exact rfl) | ((with_reducible apply fskip); exact rfl) | with_reducible assumption)); done); (first | exact ia rfl | assumption); assumption) | fail); done); (focus (first | (simp only [cells_int, cells_bool, cells_slice, cells_ptr, cells_map, cells_agg, cells_string, cells_func, cells_nilFunc, cells_nilIface, cells_iface]; exact rfl) | exact rfl)); exact rfl; exact rfl; exact rfl; (focus simp only [splice, List.take_succ_cons, List.take_zero, List.drop_succ_cons, List.drop_zero, List.cons_append, List.nil_append, List.append_nil, List.length_cons, List.length_nil, Nat.reduceAdd, Nat.zero_add, List.take_nil, List.drop_nil]; exact rfl)) | fail)))
    | (apply WO.hn gN rfl; (focus (first | (((with_reducible apply b_box)); (focus (first | exact evC rfl | (apply evT; (focus (repeat (first | with_reducible exact fh | ((with_reducible apply fs8); exact rfl) | ((with_reducible apply fs4); exact rfl) | ((with_reducible apply fs2); exact rfl) | ((with_reducible apply fskip); exact rfl) | with_reducible assumption)); done); (first | exact ia rfl | assumption)) | (apply evG'; (focus (repeat (first | with_reducible exact fh | ((with_reducible apply fs8); exact rfl) | ((with_reducible apply fs4); exact rfl) | ((with_reducible apply fs2); exact rfl) | ((with_reducible apply fskip); exact rfl) | with_reducible assumption)); done); (first | exact ia rfl | assumption); assumption) | fail); done); assumption; (focus (first | (simp only [cells_int, cells_bool, cells_slice, cells_ptr, cells_map, cells_agg, cells_string, cells_func, cells_nilFunc, cells_nilIface, cells_iface]; exact rfl) | exact rfl))) | (((with_reducible apply b_alc)); assumption; (focus (first | (simp only [cells_int, cells_bool, cells_slice, cells_ptr, cells_map, cells_agg, cells_string, cells_func, cells_nilFunc, cells_nilIface, cells_iface]; exact rfl) | exact rfl))) | fail)))
    | refine WC.skip ?_
    | refine WC.ret ?_
    | refine WC.block ?_
    | refine WC.exit ?_
    | refine SeqK.ret ?_
    | refine SeqK.exit ?_
    | refine BlkK.ret ?_
    | refine BlkK.nrm ?_
    | refine BlkK.here ?_
    | refine LoopK.exit ?_
    | refine LoopK.ret ?_
    | refine WX.nil ?_
    | fail
    exact k.out) : p := h ⟨k⟩
theorem sl {p : Prop} (h : p := by
  repeat (first | exact Sel.n | (apply Sel.c; (focus (first | exact k0 | exact k1 | exact k2 | exact k3 | exact k4 | exact k5 | exact k6 | exact k7 | (repeat (first | exact k7 | apply Pk.s))))))
  done) : p := h
theorem r2 {p q : Prop} (k : q) (h : Kp q → p := by
    intro k
    iterate 2 (refine r1 ?_)
    exact k.out) : p := h ⟨k⟩
theorem r3 {p q : Prop} (k : q) (h : Kp q → p := by
    intro k
    iterate 3 (refine r1 ?_)
    exact k.out) : p := h ⟨k⟩
theorem r4 {p q : Prop} (k : q) (h : Kp q → p := by
    intro k
    iterate 4 (refine r1 ?_)
    exact k.out) : p := h ⟨k⟩
theorem r5 {p q : Prop} (k : q) (h : Kp q → p := by
    intro k
    iterate 5 (refine r1 ?_)
    exact k.out) : p := h ⟨k⟩
theorem r6 {p q : Prop} (k : q) (h : Kp q → p := by
    intro k
    iterate 6 (refine r1 ?_)
    exact k.out) : p := h ⟨k⟩
theorem r7 {p q : Prop} (k : q) (h : Kp q → p := by
    intro k
    iterate 7 (refine r1 ?_)
    exact k.out) : p := h ⟨k⟩
theorem r8 {p q : Prop} (k : q) (h : Kp q → p := by
    intro k
    iterate 8 (refine r1 ?_)
    exact k.out) : p := h ⟨k⟩
theorem r9 {p q : Prop} (k : q) (h : Kp q → p := by
    intro k
    iterate 9 (refine r1 ?_)
    exact k.out) : p := h ⟨k⟩
theorem r12 {p q : Prop} (k : q) (h : Kp q → p := by
    intro k
    iterate 12 (refine r1 ?_)
    exact k.out) : p := h ⟨k⟩
theorem r16 {p q : Prop} (k : q) (h : Kp q → p := by
    intro k
    iterate 16 (refine r1 ?_)
    exact k.out) : p := h ⟨k⟩
end Go.Abs
end
end
section
noncomputable section
namespace Go.Proofs.YtcnahmgekicbdaaGreat
open Go.Abs Go.Lf
instance : AggN XX.P 3 := ⟨agg3⟩
instance : AggN XX.P 4 := ⟨agg4⟩
instance : AggN XX.P 22 := ⟨agg22⟩
instance : AggY XX.P 24 := ⟨agg24⟩
instance : AggN XX.P 34 := ⟨agg34⟩
instance : AggN XX.P 35 := ⟨agg35⟩
instance : AggN XX.P 36 := ⟨agg36⟩
instance : AggN XX.P 62 := ⟨agg62⟩
instance : AggY XX.P 64 := ⟨agg64⟩
instance : AggY XX.P 66 := ⟨agg66⟩
instance : AggY XX.P 106 := ⟨agg106⟩
instance : AggN XX.P 112 := ⟨agg112⟩
instance : SzF XX.P 3 1 := ⟨size3⟩
instance : SzF XX.P 4 1 := ⟨size4⟩
instance : SzF XX.P 24 2 := ⟨size24⟩
instance : SzF XX.P 35 1 := ⟨size35⟩
instance : SzF XX.P 36 1 := ⟨size36⟩
instance : SzF XX.P 62 1 := ⟨size62⟩
instance : SzF XX.P 64 4 := ⟨size64⟩
instance : SzF XX.P 66 2 := ⟨size66⟩
instance : SzF XX.P 106 3 := ⟨size106⟩
instance : SzF XX.P 112 1 := ⟨size112⟩
instance : FldF XX.P 24 0 0 := ⟨fld24_0⟩
instance : FldF XX.P 24 1 1 := ⟨fld24_1⟩
instance : FldF XX.P 64 0 0 := ⟨fld64_0⟩
instance : FldF XX.P 64 1 1 := ⟨fld64_1⟩
instance : FldF XX.P 64 2 2 := ⟨fld64_2⟩
instance : FldF XX.P 64 3 3 := ⟨fld64_3⟩
instance : FldF XX.P 66 0 0 := ⟨fld66_0⟩
instance : FldF XX.P 66 1 1 := ⟨fld66_1⟩
instance : FldF XX.P 106 0 0 := ⟨fld106_0⟩
instance : FldF XX.P 106 1 2 := ⟨fld106_1⟩
instance : SlcF XX.P 22 66 := ⟨und22⟩
instance : SlcF XX.P 34 64 := ⟨und34⟩
instance : SlcF XX.P 35 3 := ⟨und35⟩
instance : BolF XX.P 4 := ⟨und4⟩
instance : ZroF XX.P 3 (.int .i64 0) := ⟨zero3⟩
instance : ZroF XX.P 4 (.bool false) := ⟨zero4⟩
instance : ZroF XX.P 35 (.slice none 0 0) := ⟨zero35⟩
instance : ZroF XX.P 36 (.int .i64 0) := ⟨zero36⟩
instance : ZroF XX.P 64 (.agg #[.int .i64 0, .int .i64 0, .int .i64 0, .int .i64 0]) := ⟨zero64⟩
instance : ZroF XX.P 66 (.agg #[.int .i64 0, .int .i64 0]) := ⟨zero66⟩
instance : ZroF XX.P 106 (.agg #[.int .i64 0, .slice none 0 0, .slice none 0 0]) := ⟨zero106⟩
instance : ZroF XX.P 112 (.nilFunc) := ⟨zero112⟩
end Go.Proofs.YtcnahmgekicbdaaGreat
end
end
section
set_option linter.unusedVariables false
set_option linter.unusedSimpArgs false
namespace Go.Proofs.YtcnahmgekicbdaaGreat
open Go.Lf
def f14L (p0 : TollSetup) : Option Bool :=
  some (decide ((p0.spots.length : Int) ≤ 30))
def f17_b2 (p0 : TollSetup) (v23 : Int) (next25 : (Int → Option Bool)) : Int × Int → (Int × Int → Option Bool) → Option Bool := fun (v34, v36) next40 =>
  (bif ((decide (v36 ≤ (p0.spots.length : Int))) && (decide (v34 ≥ 0))) then (bif (v34 == v23) then some false else (geti p0.spots v34).bind fun x41 => next40 (x41.in_, w64 (v36 + 1))) else next25 (w64 (v23 + 1)))
def f17_b1 (F : Nat) (p0 : TollSetup) : Int → (Int → Option Bool) → Option Bool := fun v23 next25 =>
  (bif decide (v23 < (p0.spots.length : Int)) then (geti p0.spots v23).bind fun x26 => loop F (f17_b2 p0 v23 next25) (x26.in_, 0) else some true)
def f17_b0 (F : Nat) (p0 : TollSetup) : Int → (Int → Option Bool) → Option Bool := fun v9 next11 =>
  (bif decide (v9 < (p0.spots.length : Int)) then (geti p0.spots v9).bind fun x12 => (bif ((((decide (x12.at_ < 0)) || (decide (x12.at_ ≥ p0.machines))) || (decide (x12.in_ < (-1)))) || (decide (x12.in_ ≥ (p0.spots.length : Int)))) then some false else next11 (w64 (v9 + 1))) else loop F (f17_b1 F p0) 0)
def f17L (F : Nat) (p0 : TollSetup) : Option Bool :=
  (bif ((((decide (p0.machines < 1)) || (decide (p0.machines > 4))) || (decide ((p0.spots.length : Int) < 1))) || (decide ((p0.spots.length : Int) > 8))) then some false else loop F (f17_b0 F p0) 0)
def f32_j0 (v10 : Int) (next12 : (Int × Int → Option Int)) : Int → Option Int := fun v18 =>
  next12 (v18, w64 (v10 + 1))
def f32_b0 (p0 : (List TollEvent)) (p1 : Int) (p2 : Int) (p3 : Int) : Int × Int → (Int × Int → Option Int) → Option Int := fun (v6, v10) next12 =>
  (bif decide (v10 < (p0.length : Int)) then (geti p0 v10).bind fun x23 => (bif (((x23.deed == p1) && (x23.place == p2)) && (x23.other == p3)) then (f32_j0 v10 next12) (w64 (v6 + 1)) else (f32_j0 v10 next12) v6) else some v6)
def f32L (F : Nat) (p0 : (List TollEvent)) (p1 : Int) (p2 : Int) (p3 : Int) : Option Int :=
  loop F (f32_b0 p0 p1 p2 p3) (0, 0)
def f33L (p0 : TollSetup) (p1 : Int) : Option Bool :=
  some ((decide (p1 ≥ 0)) && (decide (p1 < (p0.spots.length : Int))))
def f38_b0 (p0 : TollSetup) : (List Int) × Int → ((List Int) × Int → Option (List Int)) → Option (List Int) := fun (v9, v14) next16 =>
  (bif decide (v14 ≥ 0) then (app 8 v9 [v14]).bind fun z19 => (geti p0.spots v14).bind fun x23 => next16 (z19, x23.in_) else some v9)
def f38L (F : Nat) (p0 : TollSetup) (p1 : Int) : Option (List Int) :=
  (geti p0.spots p1).bind fun x3 => loop F (f38_b0 p0) ([], x3.in_)
end Go.Proofs.YtcnahmgekicbdaaGreat
end
section
set_option linter.unusedVariables false
set_option linter.unusedSimpArgs false
set_option maxRecDepth 20000
noncomputable section
namespace Go.Proofs.YtcnahmgekicbdaaGreat
open Go.Abs Go.Lf
theorem f14_wf {wm : Nat} {h : H} {p0 : TollSetup} {pa0_0 : Option Addr} {pc0_0 : Nat} {r : Bool} (hwm : wm ≤ h.size) (hsp0_0 : Sl rTollSpot wm h pa0_0 pc0_0 p0.spots) (hL : f14L p0 = some r) :
    WR XX 14 #[.agg [.int .i64 p0.machines, .slice pa0_0 p0.spots.length pc0_0].toArray] wm h (CP (fun (v : Value) (Gb : List (Ast wm)) => v = .bool r ∧ Gb = []) [] h) := by
 refine bg Tryz.ntmps14 hwm Hold.nil ?_
 intro T hT hS
 unfold f14L at hL
 refine r3 ?_
 rintro _ h2 ⟨b1, eb1, rfl, hS⟩
 refine r12 ?_
 refine r1 ?_
 exact rt hL hT hS
theorem f17_wf {F : Nat} {wm : Nat} {h : H} {p0 : TollSetup} {pa0_0 : Option Addr} {pc0_0 : Nat} {r : Bool} (hwm : wm ≤ h.size) (hsp0_0 : Sl rTollSpot wm h pa0_0 pc0_0 p0.spots) (hL : f17L F p0 = some r) :
    WR XX 17 #[.agg [.int .i64 p0.machines, .slice pa0_0 p0.spots.length pc0_0].toArray] wm h (CP (fun (v : Value) (Gb : List (Ast wm)) => v = .bool r ∧ Gb = []) [] h) := by
 refine bg Tryz.ntmps17 hwm Hold.nil ?_
 intro T hT hS
 unfold f17L at hL
 refine r3 ?_
 rintro _ h2 ⟨b1, eb1, rfl, hS⟩
 refine r16 ?_
 refine r16 ?_
 refine cn hL ?_ ?_
 · intro hc hL
   refine r6 ?_
   refine r1 ?_
   exact rt hL hT hS
 · intro hc hL
   refine r12 ?_
   refine WC.loop (WL.lift hL (fun (v9 : Int) (s : Fs) => ∃ (fr4 : Fr) (h3 : H), s = ⟨fr4, [], h3, none⟩ ∧ Sp wm T h [bx wm b1 [.int .i64 p0.machines, .slice pa0_0 p0.spots.length pc0_0]] h3 ∧ fr4.at 1 = .pointer (some ⟨b1, 0, none⟩) ∧ fr4.at 3 = .int .i64 (p0.spots.length : Int) ∧ fr4.at 29 = .slice pa0_0 p0.spots.length pc0_0 ∧ fr4.at 30 = .int .i64 (p0.spots.length : Int) ∧ fr4.at 31 = .int .i64 v9) ⟨_, _, rfl, hS.only (.c k0 .n), las⟩ ?_)
   clear hL hS
   rintro next11 v9 s hnext11 hL ⟨fr4, h3, rfl, hS, e5, e6, e7, e8, e10⟩
   dsimp only [f17_b0] at hL
   refine r6 ?_
   refine cn hL ?_ ?_
   · intro hc hL
     refine r6 ?_
     obtain ⟨x12, hx12, hL⟩ := bind_some hL
     obtain ⟨b13, o14, _, hab13, hAb13, hBb13, hFb13⟩ := Sl.at_ hsp0_0 hx12
     refine WO.w gN rfl (av_ixn und22 size66 lk lk rfl hab13 hx12) ?_
     refine WO.w gN rfl (av_ldA agg66 size66 (evT fh rfl) (At.fz hS.fz hBb13 hAb13) (j := 0) rfl rfl (ws := [.int .i64 x12.at_, .int .i64 x12.in_]) rfl) ?_
     refine r1 ?_
     rintro _ h16 ⟨b15, eb15, rfl, hS⟩
     refine r1 ?_
     rintro h17 hS
     refine r16 ?_
     refine r8 ?_
     refine r3 ?_
     refine cn hL ?_ ?_
     · intro hc hL
       refine r8 ?_
       refine r3 ?_
       exact rt hL hT hS
     · intro hc hL
       refine r6 ?_
       refine r1 ?_
       exact LoopK.nrm (hnext11 _ _ hL ⟨_, _, rfl, hS.only (.c k1 .n), las⟩)
   · intro hc hL
     refine r12 ?_
     refine r3 ?_
     refine WC.loop (WL.lift hL (fun (v23 : Int) (s : Fs) => ∃ (fr19 : Fr) (h18 : H), s = ⟨fr19, [], h18, none⟩ ∧ Sp wm T h [bx wm b1 [.int .i64 p0.machines, .slice pa0_0 p0.spots.length pc0_0]] h18 ∧ fr19.at 1 = .pointer (some ⟨b1, 0, none⟩) ∧ fr19.at 3 = .int .i64 (p0.spots.length : Int) ∧ fr19.at 59 = .int .i64 (p0.spots.length : Int) ∧ fr19.at 60 = .int .i64 v23) ⟨_, _, rfl, hS.only (.c k0 .n), las⟩ ?_)
     clear hL hS
     rintro next25 v23 s hnext25 hL ⟨fr19, h18, rfl, hS, e20, e21, e22, e24⟩
     dsimp only [f17_b1] at hL
     refine r6 ?_
     refine cn hL ?_ ?_
     · intro hc hL
       refine r12 ?_
       refine r3 ?_
       obtain ⟨x26, hx26, hL⟩ := bind_some hL
       obtain ⟨b27, o28, _, hab27, hAb27, hBb27, hFb27⟩ := Sl.at_ hsp0_0 hx26
       refine WO.w gN rfl (av_ixn und22 size66 lk lk rfl hab27 hx26) ?_
       refine r1 ?_
       refine WO.w gN rfl (av_ld agg3 (evT fh rfl) (At.fz hS.fz hBb27 hAb27) (j := 1) rfl (v := .int .i64 x26.in_) rfl) ?_
       refine r8 ?_
       refine r1 ?_
       refine WC.loop (WL.lift hL (fun (p : Int × Int) (s : Fs) => match p with | (v34, v36) => ∃ (fr30 : Fr) (h29 : H), s = ⟨fr30, [], h29, none⟩ ∧ Sp wm T h [bx wm b1 [.int .i64 p0.machines, .slice pa0_0 p0.spots.length pc0_0]] h29 ∧ fr30.at 1 = .pointer (some ⟨b1, 0, none⟩) ∧ fr30.at 3 = .int .i64 (p0.spots.length : Int) ∧ fr30.at 6 = .int .i64 v23 ∧ fr30.at 7 = .int .i64 v34 ∧ fr30.at 8 = .int .i64 v36 ∧ fr30.at 59 = .int .i64 (p0.spots.length : Int) ∧ fr30.at 60 = .int .i64 v23) ⟨_, _, rfl, hS.only (.c k0 .n), las⟩ ?_)
       clear hL hS
       rintro next40 ⟨v34, v36⟩ s hnext40 hL ⟨fr30, h29, rfl, hS, e31, e32, e33, e35, e37, e38, e39⟩
       dsimp only [f17_b2] at hL
       refine r12 ?_
       refine cn hL ?_ ?_
       · intro hc hL
         refine r12 ?_
         refine cn hL ?_ ?_
         · intro hc hL
           refine r16 ?_
           exact rt hL hT hS
         · intro hc hL
           refine r6 ?_
           obtain ⟨x41, hx41, hL⟩ := bind_some hL
           obtain ⟨b42, o43, _, hab42, hAb42, hBb42, hFb42⟩ := Sl.at_ hsp0_0 hx41
           refine WO.w gN rfl (av_ixn und22 size66 lk lk rfl hab42 hx41) ?_
           refine r1 ?_
           refine WO.w gN rfl (av_ld agg3 (evT fh rfl) (At.fz hS.fz hBb42 hAb42) (j := 1) rfl (v := .int .i64 x41.in_) rfl) ?_
           refine r8 ?_
           refine r1 ?_
           exact LoopK.nrm (hnext40 _ _ hL ⟨_, _, rfl, hS.only (.c k0 .n), las⟩)
       · intro hc hL
         refine r8 ?_
         refine r2 ?_
         exact LoopK.nrm (hnext25 _ _ hL ⟨_, _, rfl, hS.only (.c k0 .n), las⟩)
     · intro hc hL
       refine r8 ?_
       refine r3 ?_
       exact rt hL hT hS
theorem f32_wf {F : Nat} {wm : Nat} {h : H} {p0 : (List TollEvent)} {p1 : Int} {p2 : Int} {p3 : Int} {pa0_0 : Option Addr} {pc0_0 : Nat} {r : Int} (hwm : wm ≤ h.size) (hsp0_0 : Sl rTollEvent wm h pa0_0 pc0_0 p0) (hL : f32L F p0 p1 p2 p3 = some r) :
    WR XX 32 #[.slice pa0_0 p0.length pc0_0, .int .i64 p1, .int .i64 p2, .int .i64 p3] wm h (CP (fun (v : Value) (Gb : List (Ast wm)) => v = .int .i64 r ∧ Gb = []) [] h) := by
 refine bg Tryz.ntmps32 hwm Hold.nil ?_
 intro T hT hS
 unfold f32L at hL
 refine r16 ?_
 refine r3 ?_
 refine WC.loop (WL.lift hL (fun (p : Int × Int) (s : Fs) => match p with | (v6, v10) => ∃ (fr2 : Fr) (h1 : H), s = ⟨fr2, [], h1, none⟩ ∧ Sp wm T h [] h1 ∧ fr2.at 1 = .int .i64 p1 ∧ fr2.at 2 = .int .i64 p2 ∧ fr2.at 3 = .int .i64 p3 ∧ fr2.at 9 = .int .i64 v6 ∧ fr2.at 12 = .slice pa0_0 p0.length pc0_0 ∧ fr2.at 13 = .int .i64 (p0.length : Int) ∧ fr2.at 14 = .int .i64 v10) ⟨_, _, rfl, hS.only .n, las⟩ ?_)
 clear hL hS
 rintro next12 ⟨v6, v10⟩ s hnext12 hL ⟨fr2, h1, rfl, hS, e3, e4, e5, e7, e8, e9, e11⟩
 dsimp only [f32_b0] at hL
 refine r6 ?_
 refine cn hL ?_ ?_
 · intro hc hL
   refine r2 ?_
   refine WC.seqJ (r := r) (fun (v18 : Int) (s : Fs) => ∃ (fr14 : Fr) (h13 : H), s = ⟨fr14, [], h13, none⟩ ∧ Sp wm T h [] h13 ∧ fr14.at 1 = .int .i64 p1 ∧ fr14.at 2 = .int .i64 p2 ∧ fr14.at 3 = .int .i64 p3 ∧ fr14.at 9 = .int .i64 v18 ∧ fr14.at 12 = .slice pa0_0 p0.length pc0_0 ∧ fr14.at 13 = .int .i64 (p0.length : Int) ∧ fr14.at 14 = .int .i64 v10) (f32_j0 v10 next12) ?_ ?_
   · clear hL hS
     rintro v18 s hL ⟨fr14, h13, rfl, hS, e15, e16, e17, e19, e20, e21, e22⟩
     dsimp only [f32_j0] at hL
     refine r4 ?_
     exact LoopK.nrm (hnext12 _ _ hL ⟨_, _, rfl, hS.only .n, las⟩)
   · skip
     refine r3 ?_
     obtain ⟨x23, hx23, hL⟩ := bind_some hL
     obtain ⟨b24, o25, _, hab24, hAb24, hBb24, hFb24⟩ := Sl.at_ hsp0_0 hx23
     refine WO.w gN rfl (av_ixn und34 size64 lk lk rfl hab24 hx23) ?_
     refine WO.w gN rfl (av_ldA agg64 size64 (evT fh rfl) (At.fz hS.fz hBb24 hAb24) (j := 0) rfl rfl (ws := [.int .i64 x23.deed, .int .i64 x23.place, .int .i64 x23.other, .int .i64 x23.n]) rfl) ?_
     refine r1 ?_
     rintro _ h27 ⟨b26, eb26, rfl, hS⟩
     refine r1 ?_
     rintro h28 hS
     refine r16 ?_
     refine r6 ?_
     refine cn hL ?_ ?_
     · intro hc hL
       refine r6 ?_
       exact SeqJ.nrm _ hL ⟨_, _, rfl, hS.only .n, las⟩
     · intro hc hL
       refine r2 ?_
       exact SeqJ.nrm _ hL ⟨_, _, rfl, hS.only .n, las⟩
 · intro hc hL
   refine r12 ?_
   exact rt hL hT hS
theorem f32_ok {F : Nat} {h : H} {p0 : (List TollEvent)} {p1 : Int} {p2 : Int} {p3 : Int} {pa0_0 : Option Addr} {pc0_0 : Nat} {r : Int} (hsp0_0 : Sl rTollEvent h.size h pa0_0 pc0_0 p0) (hL : f32L F p0 p1 p2 p3 = some r) : Pure XX 32 #[.slice pa0_0 p0.length pc0_0, .int .i64 p1, .int .i64 p2, .int .i64 p3] h (.int .i64 r) :=
 WR.pureC rfl (f32_wf (Nat.le_refl _) hsp0_0 hL)
theorem f33_wf {wm : Nat} {h : H} {p0 : TollSetup} {p1 : Int} {pa0_0 : Option Addr} {pc0_0 : Nat} {r : Bool} (hwm : wm ≤ h.size) (hsp0_0 : Sl rTollSpot wm h pa0_0 pc0_0 p0.spots) (hL : f33L p0 p1 = some r) :
    WR XX 33 #[.agg [.int .i64 p0.machines, .slice pa0_0 p0.spots.length pc0_0].toArray, .int .i64 p1] wm h (CP (fun (v : Value) (Gb : List (Ast wm)) => v = .bool r ∧ Gb = []) [] h) := by
 refine bg Tryz.ntmps33 hwm Hold.nil ?_
 intro T hT hS
 unfold f33L at hL
 refine r3 ?_
 rintro _ h2 ⟨b1, eb1, rfl, hS⟩
 refine r16 ?_
 refine r2 ?_
 exact rt hL hT hS
theorem f33_ok {h : H} {p0 : TollSetup} {p1 : Int} {pa0_0 : Option Addr} {pc0_0 : Nat} {r : Bool} (hsp0_0 : Sl rTollSpot h.size h pa0_0 pc0_0 p0.spots) (hL : f33L p0 p1 = some r) : Pure XX 33 #[.agg [.int .i64 p0.machines, .slice pa0_0 p0.spots.length pc0_0].toArray, .int .i64 p1] h (.bool r) :=
 WR.pureC rfl (f33_wf (Nat.le_refl _) hsp0_0 hL)
theorem f38_wf {F : Nat} {wm : Nat} {h : H} {p0 : TollSetup} {p1 : Int} {pa0_0 : Option Addr} {pc0_0 : Nat} {r : (List Int)} (hwm : wm ≤ h.size) (hsp0_0 : Sl rTollSpot wm h pa0_0 pc0_0 p0.spots) (hL : f38L F p0 p1 = some r) :
    WR XX 38 #[.agg [.int .i64 p0.machines, .slice pa0_0 p0.spots.length pc0_0].toArray, .int .i64 p1] wm h (CP (fun (v : Value) (Gb : List (Ast wm)) => ∃ (ra0_0 : Option Addr) (rn0_0 : Nat) (rc0_0 : Nat), v = .slice ra0_0 rn0_0 rc0_0 ∧ Gb = [ow wm (rInt .i64) ra0_0 rn0_0 rc0_0 r]) [] h) := by
 refine bg Tryz.ntmps38 hwm Hold.nil ?_
 intro T hT hS
 unfold f38L at hL
 refine r3 ?_
 rintro _ h2 ⟨b1, eb1, rfl, hS⟩
 refine r12 ?_
 refine r2 ?_
 obtain ⟨x3, hx3, hL⟩ := bind_some hL
 obtain ⟨b4, o5, _, hab4, hAb4, hBb4, hFb4⟩ := Sl.at_ hsp0_0 hx3
 refine WO.w gN rfl (av_ixn und22 size66 lk lk rfl hab4 hx3) ?_
 refine r1 ?_
 refine WO.w gN rfl (av_ld agg3 (evT fh rfl) (At.fz hS.fz hBb4 hAb4) (j := 1) rfl (v := .int .i64 x3.in_) rfl) ?_
 refine r4 ?_
 have hS := hS.nil (e := (rInt .i64))
 refine WC.loop (WL.lift hL (fun (p : (List Int) × Int) (s : Fs) => match p with | (v9, v14) => ∃ (fr7 : Fr) (h6 : H) (a10 : Option Addr) (c11 : Nat) (n12 : Nat), s = ⟨fr7, [], h6, none⟩ ∧ Sp wm T h [ow wm (rInt .i64) a10 n12 c11 v9, bx wm b1 [.int .i64 p0.machines, .slice pa0_0 p0.spots.length pc0_0]] h6 ∧ fr7.at 2 = .pointer (some ⟨b1, 0, none⟩) ∧ fr7.at 5 = .slice a10 n12 c11 ∧ fr7.at 6 = .int .i64 v14) ⟨_, _, none, 0, 0, rfl, hS.only (.c k0 (.c k0 .n)), las⟩ ?_)
 clear hL hS
 rintro next16 ⟨v9, v14⟩ s hnext16 hL ⟨fr7, h6, a10, c11, n12, rfl, hS, e8, e13, e15⟩
 obtain rfl := hS.on k0
 dsimp only [f38_b0] at hL
 refine r6 ?_
 refine r1 ?_
 refine cn hL ?_ ?_
 · intro hc hL
   refine r6 ?_
   refine r1 ?_
   refine WO.hn gN rfl (s_bs (e := (rInt .i64)) hS und35 size3 zero3 rfl rfl rfl (evp_cons lk evp_nil) rfl [((), v14)] rfl (xs := [v14]) rfl (by intro q hq; simp only [List.mem_cons, List.not_mem_nil, or_false] at hq; subst hq; exact trivial) rfl) ?_
   rintro _ h18 ⟨b17, eb17, rfl, hS⟩
   obtain ⟨z19, hz19, hL⟩ := bind_some hL
   refine WO.hv gN rfl (s_ap (e := (rInt .i64)) hS k1 app35_35 lk lk (hS.osrc k0) (hS.on k0) hz19) ?_
   rintro _ h22 ⟨a20, c21, rfl, hS⟩
   refine r8 ?_
   obtain ⟨x23, hx23, hL⟩ := bind_some hL
   obtain ⟨b24, o25, _, hab24, hAb24, hBb24, hFb24⟩ := Sl.at_ hsp0_0 hx23
   refine WO.w gN rfl (av_ixn und22 size66 lk lk rfl hab24 hx23) ?_
   refine r1 ?_
   refine WO.w gN rfl (av_ld agg3 (evT fh rfl) (At.fz hS.fz hBb24 hAb24) (j := 1) rfl (v := .int .i64 x23.in_) rfl) ?_
   refine r2 ?_
   exact LoopK.nrm (hnext16 _ _ hL ⟨_, _, a20, c21, z19.length, rfl, hS.only (.c k0 (.c k1 .n)), las⟩)
 · intro hc hL
   refine r12 ?_
   have hr := Option.some.inj hL
   subst hr
   exact RetK.gen1 rfl (ares_tmp lk ares_nil) ⟨_, ⟨a10, v9.length, c11, rfl, rfl⟩, hT ▸ hS.only (.c k0 .n)⟩
end Go.Proofs.YtcnahmgekicbdaaGreat
end
end
section
set_option linter.unusedVariables false
set_option linter.unusedSimpArgs false
namespace Go.Proofs.YtcnahmgekicbdaaGreat
open Go.Lf
def f54L (p0 : TollSetup) (p1 : Int) : Option Bool :=
  some ((decide (p1 ≥ 0)) && (decide (p1 < (p0.spots.length : Int))))
def f82_j0 (v15 : Int) (next19 : (Int × Bool → Option Bool)) : Bool × Bool → Option Bool := fun (v45, sp46) =>
  (bif sp46 then some v45 else next19 (w64 (v15 + 1), v45))
def f82_b1 (p0 : Story) (v15 : Int) (next19 : (Int × Bool → Option Bool)) (x20 : TollEvent) : Int × Bool × Bool → (Int × Bool × Bool → Option Bool) → Option Bool := fun (v59, v61, sp62) next63 =>
  (bif decide (v59 ≥ 0) then (bif sp62 then none else (bif (v59 == x20.other) then (bif (!false) then (f82_j0 v15 next19) (true, true) else (geti p0.setup.spots v59).bind fun x68 => next63 (x68.in_, true, true)) else (bif (!true) then (f82_j0 v15 next19) (v61, false) else (geti p0.setup.spots v59).bind fun x72 => next63 (x72.in_, v61, false)))) else (f82_j0 v15 next19) (v61, sp62))
def f82_b0 (F : Nat) (p0 : Story) (p1 : TollEvent) : Int × Bool → (Int × Bool → Option Bool) → Option Bool := fun (v15, v17) next19 =>
  (bif decide (v15 < (p0.before.length : Int)) then (geti p0.before v15).bind fun x20 => (gd (!(x20.deed != 4)) (geti p0.setup.spots x20.place) default).bind fun x26 => (gd (!(x20.deed != 4)) (geti p0.setup.spots p1.place) default).bind fun x29 => (bif ((x20.deed != 4) || (x26.at_ != x29.at_)) then next19 (w64 (v15 + 1), v17) else (bif (x20.other == p1.other) then some true else (geti p0.setup.spots p1.other).bind fun x52 => loop F (f82_b1 p0 v15 next19 x20) (x52.in_, v17, false))) else some false)
def f82L (F : Nat) (p0 : Story) (p1 : TollEvent) : Option Bool :=
  (bif (p1.deed != 2) then some false else loop F (f82_b0 F p0 p1) (0, false))
def f83_j0 (v13 : Int) (next15 : ((List Int) × Int → Option (List Int))) : (List Int) → Option (List Int) := fun v19 =>
  next15 (v19, w64 (v13 + 1))
def f83_b0 (p0 : TollSetup) (p1 : Int) : (List Int) × Int → ((List Int) × Int → Option (List Int)) → Option (List Int) := fun (v6, v13) next15 =>
  (bif decide (v13 < (p0.spots.length : Int)) then (geti p0.spots v13).bind fun x27 => (bif (x27.in_ == p1) then (app 8 v6 [v13]).bind fun z35 => (f83_j0 v13 next15) z35 else (f83_j0 v13 next15) v6) else some v6)
def f83L (F : Nat) (p0 : TollSetup) (p1 : Int) : Option (List Int) :=
  loop F (f83_b0 p0 p1) ([], 0)
def f110_j0 (v12 : Int) (next14 : (Int × Int → Option Int)) : Int → Option Int := fun v18 =>
  next14 (v18, w64 (v12 + 1))
def f110_b0 (p0 : Story) (p1 : TollEvent) : Int × Int → (Int × Int → Option Int) → Option Int := fun (v8, v12) next14 =>
  (bif decide (v12 < (p0.before.length : Int)) then (geti p0.before v12).bind fun x23 => (bif eqTollEvent p1 x23 then (f110_j0 v12 next14) (w64 (v8 + 1)) else (f110_j0 v12 next14) v8) else some v8)
def f110L (F : Nat) (p0 : Story) (p1 : TollEvent) : Option Int :=
  loop F (f110_b0 p0 p1) (0, 0)
def f111_j0 : Int → Option Bool := fun v9 =>
  some (decide (v9 ≥ 0))
def f111_b0 (p0 : Story) (p1 : Int) (p2 : Int) : Int → (Int → Option Bool) → Option Bool := fun v15 next17 =>
  (bif decide (v15 < (p0.before.length : Int)) then (geti p0.before v15).bind fun x18 => (bif ((x18.deed == p1) && (x18.n == p2)) then (f111_j0) v15 else next17 (w64 (v15 + 1))) else (f111_j0) (-1))
def f111L (F : Nat) (p0 : Story) (p1 : Int) (p2 : Int) : Option Bool :=
  loop F (f111_b0 p0 p1 p2) 0
def f112L (F : Nat) (p0 : Story) (p1 : Int) : Option Bool :=
  (f110L F p0 (TollEvent.mk 6 p1 0 0)).bind fun x3 => some (decide (x3 > 0))
end Go.Proofs.YtcnahmgekicbdaaGreat
end
section
set_option linter.unusedVariables false
set_option linter.unusedSimpArgs false
set_option maxRecDepth 20000
noncomputable section
namespace Go.Proofs.YtcnahmgekicbdaaGreat
open Go.Abs Go.Lf
theorem f54_wf {wm : Nat} {h : H} {p0 : TollSetup} {p1 : Int} {pa0_0 : Option Addr} {pc0_0 : Nat} {r : Bool} (hwm : wm ≤ h.size) (hsp0_0 : Sl rTollSpot wm h pa0_0 pc0_0 p0.spots) (hL : f54L p0 p1 = some r) :
    WR XX 54 #[.agg [.int .i64 p0.machines, .slice pa0_0 p0.spots.length pc0_0].toArray, .int .i64 p1] wm h (CP (fun (v : Value) (Gb : List (Ast wm)) => v = .bool r ∧ Gb = []) [] h) := by
 refine bg Tryz.ntmps54 hwm Hold.nil ?_
 intro T hT hS
 unfold f54L at hL
 refine r3 ?_
 rintro _ h2 ⟨b1, eb1, rfl, hS⟩
 refine r16 ?_
 refine r2 ?_
 exact rt hL hT hS
theorem f54_ok {h : H} {p0 : TollSetup} {p1 : Int} {pa0_0 : Option Addr} {pc0_0 : Nat} {r : Bool} (hsp0_0 : Sl rTollSpot h.size h pa0_0 pc0_0 p0.spots) (hL : f54L p0 p1 = some r) : Pure XX 54 #[.agg [.int .i64 p0.machines, .slice pa0_0 p0.spots.length pc0_0].toArray, .int .i64 p1] h (.bool r) :=
 WR.pureC rfl (f54_wf (Nat.le_refl _) hsp0_0 hL)
theorem f82_wf {F : Nat} {wm : Nat} {h : H} {p0 : Story} {p1 : TollEvent} {pa0_0 : Option Addr} {pc0_0 : Nat} {pa0_1 : Option Addr} {pc0_1 : Nat} {r : Bool} (hwm : wm ≤ h.size) (hsp0_0 : Sl rTollSpot wm h pa0_0 pc0_0 p0.setup.spots) (hsp0_1 : Sl rTollEvent wm h pa0_1 pc0_1 p0.before) (hL : f82L F p0 p1 = some r) :
    WR XX 82 #[.agg [.int .i64 p0.setup.machines, .slice pa0_0 p0.setup.spots.length pc0_0, .slice pa0_1 p0.before.length pc0_1].toArray, .agg [.int .i64 p1.deed, .int .i64 p1.place, .int .i64 p1.other, .int .i64 p1.n].toArray] wm h (CP (fun (v : Value) (Gb : List (Ast wm)) => v = .bool r ∧ Gb = []) [] h) := by
 refine WF.beginL (args := [_, _]) (fn := Tryz.f82) (by kernel_rfl) (by exact rfl) Tryz.ntmps82 (by simp) ?_
 simp only [frameOf_cons, frameOf_nil, Nat.reduceAdd]
 obtain ⟨T, hT, hS⟩ : ∃ T, T = Fps (wm := wm) [] ∧ Sp wm T h [] h := ⟨_, rfl, Sp.start hwm Hold.nil⟩
 unfold f82L at hL
 refine r3 ?_
 rintro _ h2 ⟨b1, eb1, rfl, hS⟩
 refine r1 ?_
 rintro _ h4 ⟨b3, eb3, rfl, hS⟩
 refine r1 ?_
 rintro _ h6 ⟨b5, eb5, rfl, hS⟩
 refine r8 ?_
 refine r2 ?_
 refine cn hL ?_ ?_
 · intro hc hL
   refine r3 ?_
   rintro h7 hS
   refine r4 ?_
   have hr := Option.some.inj hL
   subst hr
   exact RetL.gen rfl (ares_cell (fs2 rfl (fskip rfl fh)) (aload_at1 agg4 (hS.atB k0) (j := 0) rfl (v := .bool false) rfl) ares_nil) rfl ⟨_, ⟨rfl, rfl⟩, hT ▸ hS.only .n⟩
 · intro hc hL
   refine r12 ?_
   have hS := hS.cds0
   refine WC.loop (WL.lift hL (fun (p : Int × Bool) (s : Fs) => match p with | (v15, v17) => ∃ (fr9 : Fr) (h8 : H) (ld18 : List Nat), s = ⟨fr9, (colD ld18 ++ []), h8, none⟩ ∧ Sp wm T h [bx wm b1 [.int .i64 p0.setup.machines, .slice pa0_0 p0.setup.spots.length pc0_0, .slice pa0_1 p0.before.length pc0_1], bx wm b3 [.int .i64 p1.deed, .int .i64 p1.place, .int .i64 p1.other, .int .i64 p1.n], bx wm b5 [.bool v17], cds wm ld18] h8 ∧ fr9.at 2 = .pointer (some ⟨b1, 0, none⟩) ∧ fr9.at 3 = .pointer (some ⟨b3, 0, none⟩) ∧ fr9.at 4 = .pointer (some ⟨b5, 0, none⟩) ∧ fr9.at 12 = .slice pa0_1 p0.before.length pc0_1 ∧ fr9.at 13 = .int .i64 (p0.before.length : Int) ∧ fr9.at 14 = .int .i64 v15) ⟨_, _, [], rfl, hS.only (.c k3 (.c k2 (.c k1 (.c k0 .n)))), las⟩ ?_)
   clear hL hS
   rintro next19 ⟨v15, v17⟩ s hnext19 hL ⟨fr9, h8, ld18, rfl, hS, e10, e11, e12, e13, e14, e16⟩
   dsimp only [f82_b0] at hL
   refine r6 ?_
   refine cn hL ?_ ?_
   · intro hc hL
     refine r6 ?_
     obtain ⟨x20, hx20, hL⟩ := bind_some hL
     obtain ⟨b21, o22, _, hab21, hAb21, hBb21, hFb21⟩ := Sl.at_ hsp0_1 hx20
     refine WO.w gN rfl (av_ixn und34 size64 lk lk rfl hab21 hx20) ?_
     refine WO.w gN rfl (av_ldA agg64 size64 (evT fh rfl) (At.fz hS.fz hBb21 hAb21) (j := 0) rfl rfl (ws := [.int .i64 x20.deed, .int .i64 x20.place, .int .i64 x20.other, .int .i64 x20.n]) rfl) ?_
     refine r1 ?_
     rintro _ h24 ⟨b23, eb23, rfl, hS⟩
     refine r1 ?_
     rintro h25 hS
     refine r4 ?_
     refine WC.drawX mixed (by kernel_rfl) ?_
     refine r8 ?_
     refine r1 ?_
     obtain ⟨x26, hx26, hL⟩ := gd_some hL
     obtain ⟨b27, o28, _, hQ⟩ := Sl.atG (fun hg => hsp0_0) hx26
     have hab27 := fun hg => (hQ hg).1
     have hAb27 := fun hg => (hQ hg).2.1
     have hBb27 := fun hg => (hQ hg).2.2.1
     have hFb27 := fun hg => (hQ hg).2.2.2
     refine WX.gv (GuardIs.no rfl rfl rfl (fs4 rfl (fskip rfl fh))) rfl (fun hg => (av_ixn und22 size66 (evG (fs2 rfl fh) rfl hg) (evG fh rfl hg) rfl (hab27 hg) (hx26 hg))) ?_ rfl
     refine r1 ?_
     refine WX.gv (GuardIs.no rfl rfl rfl (fs4 rfl (fs2 rfl (fskip rfl fh)))) rfl (fun hg => (av_ld agg3 (evG fh rfl hg) (At.fz hS.fz (hBb27 hg) (hAb27 hg)) (j := 0) rfl (v := .int .i64 x26.at_) rfl)) ?_ rfl
     refine r4 ?_
     refine r1 ?_
     obtain ⟨x29, hx29, hL⟩ := gd_some hL
     obtain ⟨b30, o31, _, hQ⟩ := Sl.atG (fun hg => hsp0_0) hx29
     have hab30 := fun hg => (hQ hg).1
     have hAb30 := fun hg => (hQ hg).2.1
     have hBb30 := fun hg => (hQ hg).2.2.1
     have hFb30 := fun hg => (hQ hg).2.2.2
     refine WX.gv (GuardIs.no rfl rfl rfl (fs8 rfl (fs4 rfl (fskip rfl fh)))) rfl (fun hg => (av_ixn und22 size66 (evG (fs2 rfl fh) rfl hg) (evG fh rfl hg) rfl (hab30 hg) (hx29 hg))) ?_ rfl
     refine r1 ?_
     refine WX.gv (GuardIs.no rfl rfl rfl (fs8 rfl (fs4 rfl (fs2 rfl (fskip rfl fh))))) rfl (fun hg => (av_ld agg3 (evG fh rfl hg) (At.fz hS.fz (hBb30 hg) (hAb30 hg)) (j := 0) rfl (v := .int .i64 x29.at_) rfl)) ?_ rfl
     refine r4 ?_
     refine cn hL ?_ ?_
     · intro hc hL
       refine r8 ?_
       exact LoopK.nrm (hnext19 _ _ hL ⟨_, _, ld18, rfl, hS.only (.c k1 (.c k1 (.c k1 (.c k1 .n)))), las⟩)
     · intro hc hL
       refine r12 ?_
       refine cn hL ?_ ?_
       · intro hc hL
         refine r3 ?_
         rintro h32 hS
         refine r8 ?_
         refine r1 ?_
         refine RetL.colsS hS k4 ?_
         rintro h33 hS
         have hr := Option.some.inj hL
         subst hr
         exact RetL.gen rfl (ares_cell (fs8 rfl (fs8 rfl (fs8 rfl (fs4 rfl (fs2 rfl (fskip rfl e12)))))) (aload_at1 agg4 (hS.atB k0) (j := 0) rfl (v := .bool true) rfl) ares_nil) rfl ⟨_, ⟨rfl, rfl⟩, hT ▸ hS.only .n⟩
       · intro hc hL
         refine r8 ?_
         refine WO.inl gN rfl (Ent.fn has55 (evs_cons lk (evs_cons lk evs_nil))) (WF.begin (args := [_, _]) (fn := Tryz.f55) (by kernel_rfl) (by exact rfl) Tryz.ntmps55 (by simp) ?_)
         simp only [frameOf_cons, frameOf_nil, Nat.reduceAdd]
         refine r3 ?_
         rintro _ h35 ⟨b34, eb34, rfl, hS⟩
         refine r1 ?_
         rintro _ h37 ⟨b36, eb36, rfl, hS⟩
         refine r4 ?_
         refine r1 ?_
         refine WO.w gN rfl (av_mkf (evs_cons lk (evs_cons lk evs_nil))) ?_
         refine r4 ?_
         refine RetK.gen1 rfl (ares_tmp lk ares_nil) ?_
         refine r3 ?_
         refine WC.rangeS (first := []) (cap := [.pointer (some ⟨b34, 0, none⟩), .pointer (some ⟨b36, 0, none⟩)]) hS lk has84 ?_
         intro h38 l39 df40 LO41 hLO42 hS
         refine WR.inlJ (r := r) (fun (p : Bool × Bool) (v : Value) (h43 : H) => match p with | (v45, sp46) => v = .tuple [].toArray ∧ Sp wm T h [bx wm b1 [.int .i64 p0.setup.machines, .slice pa0_0 p0.setup.spots.length pc0_0, .slice pa0_1 p0.before.length pc0_1], bx wm b3 [.int .i64 p1.deed, .int .i64 p1.place, .int .i64 p1.other, .int .i64 p1.n], bx wm b5 [.bool v45], bx wm b23 [.int .i64 x20.deed, .int .i64 x20.place, .int .i64 x20.other, .int .i64 x20.n], bx wm b34 [.int .i64 p0.setup.machines, .slice pa0_0 p0.setup.spots.length pc0_0], bx wm b36 [.int .i64 p1.other], cds wm ld18, ob wm l39 (lst sp46 Code.ret LO41), ob wm df40 .deferred] h43) (f82_j0 v15 next19) ?_ (WF.begin (args := [_, _, _]) (fn := Tryz.f84) (by kernel_rfl) (by exact rfl) Tryz.ntmps84 (by simp) ?_)
         · clear hL hS
           rintro ⟨v45, sp46⟩ v h43 hL ⟨rfl, hS⟩
           dsimp only [f82_j0] at hL
           rcases bool_cases sp46 with hc | hc
           · replace hL := cond_tt hc hL
             rw [hc] at hS
             refine RgS.stop (c := Code.ret) hLO42 hS k7 ?_
             rintro h48 hS
             refine r6 ?_
             refine r1 ?_
             refine RetL.colS hS k7 ?_
             rintro h49 hS
             refine RetL.colsS hS k6 ?_
             rintro h50 hS
             have hr := Option.some.inj hL
             subst hr
             exact RetL.gen rfl (ares_cell (fs8 rfl (fs8 rfl (fs8 rfl (fs8 rfl (fs4 rfl e12))))) (aload_at1 agg4 (hS.atB k2) (j := 0) rfl (v := .bool v45) rfl) ares_nil) rfl ⟨_, ⟨rfl, rfl⟩, hT ▸ hS.only .n⟩
           · replace hL := cond_ff hc hL
             rw [hc] at hS
             refine RgS.sp hLO42 hS k7 ?_
             rintro h51 hS
             refine r6 ?_
             refine r1 ?_
             have hS := hS.cdsc k7 k6
             exact LoopK.nrm (hnext19 _ _ hL ⟨_, _, (df40 :: ld18), rfl, hS.only (.c k1 (.c k1 (.c k1 (.c k0 .n)))), las⟩)
         · skip
           simp only [frameOf_cons, frameOf_nil, Nat.reduceAdd]
           refine r4 ?_
           refine r1 ?_
           obtain ⟨x52, hx52, hL⟩ := bind_some hL
           obtain ⟨b53, o54, _, hab53, hAb53, hBb53, hFb53⟩ := Sl.at_ hsp0_0 hx52
           refine WO.w gN rfl (av_ixn und22 size66 lk lk rfl hab53 hx52) ?_
           refine r1 ?_
           refine WO.w gN rfl (av_ld agg3 (evT fh rfl) (At.fz hS.fz hBb53 hAb53) (j := 1) rfl (v := .int .i64 x52.in_) rfl) ?_
           refine r4 ?_
           refine WC.loop (WL.lift hL (fun (p : Int × Bool × Bool) (s : Fs) => match p with | (v59, v61, sp62) => ∃ (fr56 : Fr) (h55 : H), s = ⟨fr56, [], h55, none⟩ ∧ Sp wm T h [bx wm b34 [.int .i64 p0.setup.machines, .slice pa0_0 p0.setup.spots.length pc0_0], bx wm b1 [.int .i64 p0.setup.machines, .slice pa0_0 p0.setup.spots.length pc0_0, .slice pa0_1 p0.before.length pc0_1], bx wm b3 [.int .i64 p1.deed, .int .i64 p1.place, .int .i64 p1.other, .int .i64 p1.n], bx wm b5 [.bool v61], bx wm b23 [.int .i64 x20.deed, .int .i64 x20.place, .int .i64 x20.other, .int .i64 x20.n], bx wm b36 [.int .i64 p1.other], cds wm ld18, ob wm l39 (lst sp62 Code.ret LO41), ob wm df40 .deferred] h55 ∧ fr56.at 0 = .func (.yield l39) #[] #[] ∧ fr56.at 1 = .pointer (some ⟨b34, 0, none⟩) ∧ fr56.at 4 = .int .i64 v59) ⟨_, _, rfl, hS.only (.c k3 (.c k4 (.c k4 (.c k4 (.c k3 (.c k2 (.c k2 (.c k0 (.c k0 .n))))))))), las⟩ ?_)
           clear hL hS
           rintro next63 ⟨v59, v61, sp62⟩ s hnext63 hL ⟨fr56, h55, rfl, hS, e57, e58, e60⟩
           dsimp only [f82_b1] at hL
           refine r6 ?_
           refine r1 ?_
           refine cn hL ?_ ?_
           · intro hc hL
             refine r8 ?_
             obtain ⟨hc64, hL⟩ := cond_no hL
             rw [hc64] at hS
             refine WO.yldS gN rfl lk lks hS k7 hLO42 rfl rfl ?_
             refine r3 ?_
             refine AsS.sp hLO42 hS k7 ?_
             rintro h65 hS
             refine r8 ?_
             refine r1 ?_
             refine cn hL ?_ ?_
             · intro hc hL
               refine r3 ?_
               rintro h66 hS
               refine r4 ?_
               refine BdS.stop .ret hLO42 hS k1 ?_
               rintro h67 hS
               refine r3 ?_
               refine cn hL ?_ ?_
               · intro hc hL
                 refine r4 ?_
                 refine r1 ?_
                 exact RetK.gen (vs := []) rfl ares_nil rfl ⟨_, hL, ⟨rfl, hS.only (.c k3 (.c k3 (.c k1 (.c k2 (.c k1 (.c k1 (.c k1 (.c k0 (.c k0 .n)))))))))⟩⟩
               · intro hc hL
                 refine r6 ?_
                 refine r1 ?_
                 obtain ⟨x68, hx68, hL⟩ := bind_some hL
                 obtain ⟨b69, o70, _, hab69, hAb69, hBb69, hFb69⟩ := Sl.at_ hsp0_0 hx68
                 refine WO.w gN rfl (av_ixn und22 size66 lk lk rfl hab69 hx68) ?_
                 refine r1 ?_
                 refine WO.w gN rfl (av_ld agg3 (evT fh rfl) (At.fz hS.fz hBb69 hAb69) (j := 1) rfl (v := .int .i64 x68.in_) rfl) ?_
                 refine r2 ?_
                 exact LoopK.nrm (hnext63 _ _ hL ⟨_, _, rfl, hS.only (.c k2 (.c k2 (.c k2 (.c k1 (.c k1 (.c k1 (.c k1 (.c k0 (.c k0 .n))))))))), las⟩)
             · intro hc hL
               refine r2 ?_
               refine BdS.sp hLO42 hS k0 ?_
               rintro h71 hS
               refine r3 ?_
               refine cn hL ?_ ?_
               · intro hc hL
                 refine r4 ?_
                 refine r1 ?_
                 exact RetK.gen (vs := []) rfl ares_nil rfl ⟨_, hL, ⟨rfl, hS.only (.c k2 (.c k2 (.c k2 (.c k2 (.c k1 (.c k1 (.c k1 (.c k0 (.c k0 .n)))))))))⟩⟩
               · intro hc hL
                 refine r6 ?_
                 refine r1 ?_
                 obtain ⟨x72, hx72, hL⟩ := bind_some hL
                 obtain ⟨b73, o74, _, hab73, hAb73, hBb73, hFb73⟩ := Sl.at_ hsp0_0 hx72
                 refine WO.w gN rfl (av_ixn und22 size66 lk lk rfl hab73 hx72) ?_
                 refine r1 ?_
                 refine WO.w gN rfl (av_ld agg3 (evT fh rfl) (At.fz hS.fz hBb73 hAb73) (j := 1) rfl (v := .int .i64 x72.in_) rfl) ?_
                 refine r2 ?_
                 exact LoopK.nrm (hnext63 _ _ hL ⟨_, _, rfl, hS.only (.c k1 (.c k1 (.c k1 (.c k1 (.c k1 (.c k1 (.c k1 (.c k0 (.c k0 .n))))))))), las⟩)
           · intro hc hL
             refine r4 ?_
             refine RetK.nrm ?_
             exact RetK.gen (vs := []) rfl ares_nil rfl ⟨_, hL, ⟨rfl, hS.only (.c k1 (.c k1 (.c k1 (.c k1 (.c k0 (.c k0 (.c k0 (.c k0 (.c k0 .n)))))))))⟩⟩
   · intro hc hL
     refine r8 ?_
     rintro h75 hS
     refine r3 ?_
     refine RetL.colsS hS k3 ?_
     rintro h76 hS
     have hr := Option.some.inj hL
     subst hr
     exact RetL.gen rfl (ares_cell (fskip rfl e12) (aload_at1 agg4 (hS.atB k0) (j := 0) rfl (v := .bool false) rfl) ares_nil) rfl ⟨_, ⟨rfl, rfl⟩, hT ▸ hS.only .n⟩
theorem f83_wf {F : Nat} {wm : Nat} {h : H} {p0 : TollSetup} {p1 : Int} {pa0_0 : Option Addr} {pc0_0 : Nat} {r : (List Int)} (hwm : wm ≤ h.size) (hsp0_0 : Sl rTollSpot wm h pa0_0 pc0_0 p0.spots) (hL : f83L F p0 p1 = some r) :
    WR XX 83 #[.agg [.int .i64 p0.machines, .slice pa0_0 p0.spots.length pc0_0].toArray, .int .i64 p1] wm h (CP (fun (v : Value) (Gb : List (Ast wm)) => ∃ (ra0_0 : Option Addr) (rn0_0 : Nat) (rc0_0 : Nat), v = .slice ra0_0 rn0_0 rc0_0 ∧ Gb = [ow wm (rInt .i64) ra0_0 rn0_0 rc0_0 r]) [] h) := by
 refine bg Tryz.ntmps83 hwm Hold.nil ?_
 intro T hT hS
 unfold f83L at hL
 refine r3 ?_
 rintro _ h2 ⟨b1, eb1, rfl, hS⟩
 refine r16 ?_
 refine r2 ?_
 have hS := hS.nil (e := (rInt .i64))
 refine WC.loop (WL.lift hL (fun (p : (List Int) × Int) (s : Fs) => match p with | (v6, v13) => ∃ (fr4 : Fr) (h3 : H) (a7 : Option Addr) (c8 : Nat) (n9 : Nat), s = ⟨fr4, [], h3, none⟩ ∧ Sp wm T h [ow wm (rInt .i64) a7 n9 c8 v6] h3 ∧ fr4.at 1 = .int .i64 p1 ∧ fr4.at 5 = .slice a7 n9 c8 ∧ fr4.at 9 = .slice pa0_0 p0.spots.length pc0_0 ∧ fr4.at 10 = .int .i64 (p0.spots.length : Int) ∧ fr4.at 11 = .int .i64 v13) ⟨_, _, none, 0, 0, rfl, hS.only (.c k0 .n), las⟩ ?_)
 clear hL hS
 rintro next15 ⟨v6, v13⟩ s hnext15 hL ⟨fr4, h3, a7, c8, n9, rfl, hS, e5, e10, e11, e12, e14⟩
 obtain rfl := hS.on k0
 dsimp only [f83_b0] at hL
 refine r6 ?_
 refine cn hL ?_ ?_
 · intro hc hL
   refine r2 ?_
   refine WC.seqJ (r := r) (fun (v19 : (List Int)) (s : Fs) => ∃ (fr17 : Fr) (h16 : H) (a20 : Option Addr) (c21 : Nat) (n22 : Nat), s = ⟨fr17, [], h16, none⟩ ∧ Sp wm T h [ow wm (rInt .i64) a20 n22 c21 v19] h16 ∧ fr17.at 1 = .int .i64 p1 ∧ fr17.at 5 = .slice a20 n22 c21 ∧ fr17.at 9 = .slice pa0_0 p0.spots.length pc0_0 ∧ fr17.at 10 = .int .i64 (p0.spots.length : Int) ∧ fr17.at 11 = .int .i64 v13) (f83_j0 v13 next15) ?_ ?_
   · clear hL hS
     rintro v19 s hL ⟨fr17, h16, a20, c21, n22, rfl, hS, e18, e23, e24, e25, e26⟩
     obtain rfl := hS.on k0
     dsimp only [f83_j0] at hL
     refine r4 ?_
     exact LoopK.nrm (hnext15 _ _ hL ⟨_, _, a20, c21, v19.length, rfl, hS.only (.c k0 .n), las⟩)
   · skip
     refine r4 ?_
     obtain ⟨x27, hx27, hL⟩ := bind_some hL
     obtain ⟨b28, o29, _, hab28, hAb28, hBb28, hFb28⟩ := Sl.at_ hsp0_0 hx27
     refine WO.w gN rfl (av_ixn und22 size66 lk lk rfl hab28 hx27) ?_
     refine WO.w gN rfl (av_ldA agg66 size66 (evT fh rfl) (At.fz hS.fz hBb28 hAb28) (j := 0) rfl rfl (ws := [.int .i64 x27.at_, .int .i64 x27.in_]) rfl) ?_
     refine r1 ?_
     rintro _ h31 ⟨b30, eb30, rfl, hS⟩
     refine r2 ?_
     rintro h32 hS
     refine r8 ?_
     refine r2 ?_
     refine cn hL ?_ ?_
     · intro hc hL
       refine r3 ?_
       refine WO.hn gN rfl (s_bs (e := (rInt .i64)) hS und35 size3 zero3 rfl rfl rfl (evp_cons lk evp_nil) rfl [((), v13)] rfl (xs := [v13]) rfl (by intro q hq; simp only [List.mem_cons, List.not_mem_nil, or_false] at hq; subst hq; exact trivial) rfl) ?_
       rintro _ h34 ⟨b33, eb33, rfl, hS⟩
       obtain ⟨z35, hz35, hL⟩ := bind_some hL
       refine WO.hv gN rfl (s_ap (e := (rInt .i64)) hS k2 app35_35 lk lk (hS.osrc k0) (hS.on k0) hz35) ?_
       rintro _ h38 ⟨a36, c37, rfl, hS⟩
       refine r3 ?_
       exact SeqJ.nrm _ hL ⟨_, _, a36, c37, z35.length, rfl, hS.only (.c k0 .n), las⟩
     · intro hc hL
       refine r2 ?_
       exact SeqJ.nrm _ hL ⟨_, _, a7, c8, v6.length, rfl, hS.only (.c k1 .n), las⟩
 · intro hc hL
   refine r12 ?_
   have hr := Option.some.inj hL
   subst hr
   exact RetK.gen1 rfl (ares_tmp lk ares_nil) ⟨_, ⟨a7, v6.length, c8, rfl, rfl⟩, hT ▸ hS.only (.c k0 .n)⟩
theorem f110_wf {F : Nat} {wm : Nat} {h : H} {p0 : Story} {p1 : TollEvent} {pa0_0 : Option Addr} {pc0_0 : Nat} {pa0_1 : Option Addr} {pc0_1 : Nat} {r : Int} (hwm : wm ≤ h.size) (hsp0_0 : Sl rTollSpot wm h pa0_0 pc0_0 p0.setup.spots) (hsp0_1 : Sl rTollEvent wm h pa0_1 pc0_1 p0.before) (hL : f110L F p0 p1 = some r) :
    WR XX 110 #[.agg [.int .i64 p0.setup.machines, .slice pa0_0 p0.setup.spots.length pc0_0, .slice pa0_1 p0.before.length pc0_1].toArray, .agg [.int .i64 p1.deed, .int .i64 p1.place, .int .i64 p1.other, .int .i64 p1.n].toArray] wm h (CP (fun (v : Value) (Gb : List (Ast wm)) => v = .int .i64 r ∧ Gb = []) [] h) := by
 refine bg Tryz.ntmps110 hwm Hold.nil ?_
 intro T hT hS
 unfold f110L at hL
 refine r3 ?_
 rintro _ h2 ⟨b1, eb1, rfl, hS⟩
 refine r1 ?_
 rintro _ h4 ⟨b3, eb3, rfl, hS⟩
 refine r16 ?_
 refine r2 ?_
 refine WC.loop (WL.lift hL (fun (p : Int × Int) (s : Fs) => match p with | (v8, v12) => ∃ (fr6 : Fr) (h5 : H), s = ⟨fr6, [], h5, none⟩ ∧ Sp wm T h [bx wm b3 [.int .i64 p1.deed, .int .i64 p1.place, .int .i64 p1.other, .int .i64 p1.n]] h5 ∧ fr6.at 3 = .pointer (some ⟨b3, 0, none⟩) ∧ fr6.at 5 = .int .i64 v8 ∧ fr6.at 9 = .slice pa0_1 p0.before.length pc0_1 ∧ fr6.at 10 = .int .i64 (p0.before.length : Int) ∧ fr6.at 11 = .int .i64 v12) ⟨_, _, rfl, hS.only (.c k0 .n), las⟩ ?_)
 clear hL hS
 rintro next14 ⟨v8, v12⟩ s hnext14 hL ⟨fr6, h5, rfl, hS, e7, e9, e10, e11, e13⟩
 dsimp only [f110_b0] at hL
 refine r6 ?_
 refine cn hL ?_ ?_
 · intro hc hL
   refine r2 ?_
   refine WC.seqJ (r := r) (fun (v18 : Int) (s : Fs) => ∃ (fr16 : Fr) (h15 : H), s = ⟨fr16, [], h15, none⟩ ∧ Sp wm T h [bx wm b3 [.int .i64 p1.deed, .int .i64 p1.place, .int .i64 p1.other, .int .i64 p1.n]] h15 ∧ fr16.at 3 = .pointer (some ⟨b3, 0, none⟩) ∧ fr16.at 5 = .int .i64 v18 ∧ fr16.at 9 = .slice pa0_1 p0.before.length pc0_1 ∧ fr16.at 10 = .int .i64 (p0.before.length : Int) ∧ fr16.at 11 = .int .i64 v12) (f110_j0 v12 next14) ?_ ?_
   · clear hL hS
     rintro v18 s hL ⟨fr16, h15, rfl, hS, e17, e19, e20, e21, e22⟩
     dsimp only [f110_j0] at hL
     refine r4 ?_
     exact LoopK.nrm (hnext14 _ _ hL ⟨_, _, rfl, hS.only (.c k0 .n), las⟩)
   · skip
     refine r3 ?_
     obtain ⟨x23, hx23, hL⟩ := bind_some hL
     obtain ⟨b24, o25, _, hab24, hAb24, hBb24, hFb24⟩ := Sl.at_ hsp0_1 hx23
     refine WO.w gN rfl (av_ixn und34 size64 lk lk rfl hab24 hx23) ?_
     refine WO.w gN rfl (av_ldA agg64 size64 (evT fh rfl) (At.fz hS.fz hBb24 hAb24) (j := 0) rfl rfl (ws := [.int .i64 x23.deed, .int .i64 x23.place, .int .i64 x23.other, .int .i64 x23.n]) rfl) ?_
     refine r1 ?_
     rintro _ h27 ⟨b26, eb26, rfl, hS⟩
     refine r1 ?_
     rintro h28 hS
     refine r6 ?_
     refine WO.w gN rfl (av_bin (evT (fskip rfl fh) rfl) (evT fh rfl) (abin_eqS (xs := [.int .i64 p1.deed, .int .i64 p1.place, .int .i64 p1.other, .int .i64 p1.n]) (ys := [.int .i64 x23.deed, .int .i64 x23.place, .int .i64 x23.other, .int .i64 x23.n]) (eqs64 p1 x23) rfl rfl)) ?_
     refine r2 ?_
     refine cn hL ?_ ?_
     · intro hc hL
       refine r6 ?_
       exact SeqJ.nrm _ hL ⟨_, _, rfl, hS.only (.c k1 .n), las⟩
     · intro hc hL
       refine r2 ?_
       exact SeqJ.nrm _ hL ⟨_, _, rfl, hS.only (.c k1 .n), las⟩
 · intro hc hL
   refine r12 ?_
   exact rt hL hT hS
theorem f110_ok {F : Nat} {h : H} {p0 : Story} {p1 : TollEvent} {pa0_0 : Option Addr} {pc0_0 : Nat} {pa0_1 : Option Addr} {pc0_1 : Nat} {r : Int} (hsp0_0 : Sl rTollSpot h.size h pa0_0 pc0_0 p0.setup.spots) (hsp0_1 : Sl rTollEvent h.size h pa0_1 pc0_1 p0.before) (hL : f110L F p0 p1 = some r) : Pure XX 110 #[.agg [.int .i64 p0.setup.machines, .slice pa0_0 p0.setup.spots.length pc0_0, .slice pa0_1 p0.before.length pc0_1].toArray, .agg [.int .i64 p1.deed, .int .i64 p1.place, .int .i64 p1.other, .int .i64 p1.n].toArray] h (.int .i64 r) :=
 WR.pureC rfl (f110_wf (Nat.le_refl _) hsp0_0 hsp0_1 hL)
theorem f111_wf {F : Nat} {wm : Nat} {h : H} {p0 : Story} {p1 : Int} {p2 : Int} {pa0_0 : Option Addr} {pc0_0 : Nat} {pa0_1 : Option Addr} {pc0_1 : Nat} {r : Bool} (hwm : wm ≤ h.size) (hsp0_0 : Sl rTollSpot wm h pa0_0 pc0_0 p0.setup.spots) (hsp0_1 : Sl rTollEvent wm h pa0_1 pc0_1 p0.before) (hL : f111L F p0 p1 p2 = some r) :
    WR XX 111 #[.agg [.int .i64 p0.setup.machines, .slice pa0_0 p0.setup.spots.length pc0_0, .slice pa0_1 p0.before.length pc0_1].toArray, .int .i64 p1, .int .i64 p2] wm h (CP (fun (v : Value) (Gb : List (Ast wm)) => v = .bool r ∧ Gb = []) [] h) := by
 refine bg Tryz.ntmps111 hwm Hold.nil ?_
 intro T hT hS
 unfold f111L at hL
 refine r3 ?_
 rintro _ h2 ⟨b1, eb1, rfl, hS⟩
 refine r1 ?_
 rintro _ h4 ⟨b3, eb3, rfl, hS⟩
 refine r1 ?_
 rintro _ h6 ⟨b5, eb5, rfl, hS⟩
 refine r6 ?_
 refine r1 ?_
 refine WO.w gN rfl (av_mkf (evs_cons lk (evs_cons lk evs_nil))) ?_
 refine WO.inl gN rfl (Ent.fn has129 (evs_cons lk (evs_cons lk evs_nil))) (WF.begin (args := [_, _]) (fn := Tryz.f129) (by kernel_rfl) (by exact rfl) Tryz.ntmps129 (by simp) ?_)
 simp only [frameOf_cons, frameOf_nil, Nat.reduceAdd]
 refine r8 ?_
 refine r1 ?_
 refine WO.inlJ (r := r) (fun (v9 : Int) (v : Value) (h7 : H) => v = .int .i64 v9 ∧ Sp wm T h [bx wm b3 [.int .i64 p1], bx wm b5 [.int .i64 p2], bx wm b1 [.int .i64 p0.setup.machines, .slice pa0_0 p0.setup.spots.length pc0_0, .slice pa0_1 p0.before.length pc0_1]] h7) (f111_j0) gN rfl (Ent.fn has140 (evs_cons lk (evs_cons lk evs_nil))) ?_ (WF.begin (args := [_, _]) (fn := Tryz.f140) (by kernel_rfl) (by exact rfl) Tryz.ntmps140 (by simp) ?_)
 · clear hL hS
   rintro v9 v h7 hL ⟨rfl, hS⟩
   dsimp only [f111_j0] at hL
   refine r4 ?_
   refine r1 ?_
   refine RetK.gen1 rfl (ares_tmp lk ares_nil) ?_
   refine r4 ?_
   exact rt hL hT hS
 · skip
   simp only [frameOf_cons, frameOf_nil, Nat.reduceAdd]
   refine r12 ?_
   refine r2 ?_
   refine WC.loop (WL.lift hL (fun (v15 : Int) (s : Fs) => ∃ (fr11 : Fr) (h10 : H), s = ⟨fr11, [], h10, none⟩ ∧ Sp wm T h [bx wm b3 [.int .i64 p1], bx wm b5 [.int .i64 p2], bx wm b1 [.int .i64 p0.setup.machines, .slice pa0_0 p0.setup.spots.length pc0_0, .slice pa0_1 p0.before.length pc0_1]] h10 ∧ fr11.at 0 = .slice pa0_1 p0.before.length pc0_1 ∧ fr11.at 1 = .func (.func 130) #[] [.pointer (some ⟨b3, 0, none⟩), .pointer (some ⟨b5, 0, none⟩)].toArray ∧ fr11.at 7 = .int .i64 (p0.before.length : Int) ∧ fr11.at 8 = .int .i64 v15) ⟨_, _, rfl, hS.only (.c k1 (.c k0 (.c k0 .n))), las⟩ ?_)
   clear hL hS
   rintro next17 v15 s hnext17 hL ⟨fr11, h10, rfl, hS, e12, e13, e14, e16⟩
   dsimp only [f111_b0] at hL
   refine r6 ?_
   refine cn hL ?_ ?_
   · intro hc hL
     refine r12 ?_
     refine r3 ?_
     obtain ⟨x18, hx18, hL⟩ := bind_some hL
     obtain ⟨b19, o20, _, hab19, hAb19, hBb19, hFb19⟩ := Sl.at_ hsp0_1 hx18
     refine WO.w gN rfl (av_ixn und34 size64 lk lk rfl hab19 hx18) ?_
     refine WO.w gN rfl (av_ldA agg64 size64 (evT fh rfl) (At.fz hS.fz hBb19 hAb19) (j := 0) rfl rfl (ws := [.int .i64 x18.deed, .int .i64 x18.place, .int .i64 x18.other, .int .i64 x18.n]) rfl) ?_
     refine WO.inl gN rfl (Ent.clo (first := []) (cap := [.pointer (some ⟨b3, 0, none⟩), .pointer (some ⟨b5, 0, none⟩)]) lk has130 lks rfl) (WF.begin (args := [_, _, _]) (fn := Tryz.f130) (by kernel_rfl) (by exact rfl) Tryz.ntmps130 (by simp) ?_)
     simp only [frameOf_cons, frameOf_nil, Nat.reduceAdd]
     refine r3 ?_
     rintro _ h22 ⟨b21, eb21, rfl, hS⟩
     refine r16 ?_
     refine r3 ?_
     refine RetK.gen1 rfl (ares_tmp lk ares_nil) ?_
     refine r2 ?_
     refine cn hL ?_ ?_
     · intro hc hL
       refine r12 ?_
       exact RetK.gen1 rfl (ares_tmp lk ares_nil) ⟨_, hL, ⟨rfl, hS.only (.c k1 (.c k1 (.c k1 .n)))⟩⟩
     · intro hc hL
       refine r6 ?_
       refine r1 ?_
       exact LoopK.nrm (hnext17 _ _ hL ⟨_, _, rfl, hS.only (.c k1 (.c k1 (.c k1 .n))), las⟩)
   · intro hc hL
     refine r8 ?_
     refine r3 ?_
     exact RetK.gen1 rfl (ares_tmp lk ares_nil) ⟨_, hL, ⟨rfl, hS.only (.c k0 (.c k0 (.c k0 .n)))⟩⟩
theorem f111_ok {F : Nat} {h : H} {p0 : Story} {p1 : Int} {p2 : Int} {pa0_0 : Option Addr} {pc0_0 : Nat} {pa0_1 : Option Addr} {pc0_1 : Nat} {r : Bool} (hsp0_0 : Sl rTollSpot h.size h pa0_0 pc0_0 p0.setup.spots) (hsp0_1 : Sl rTollEvent h.size h pa0_1 pc0_1 p0.before) (hL : f111L F p0 p1 p2 = some r) : Pure XX 111 #[.agg [.int .i64 p0.setup.machines, .slice pa0_0 p0.setup.spots.length pc0_0, .slice pa0_1 p0.before.length pc0_1].toArray, .int .i64 p1, .int .i64 p2] h (.bool r) :=
 WR.pureC rfl (f111_wf (Nat.le_refl _) hsp0_0 hsp0_1 hL)
theorem f112_wf {F : Nat} {wm : Nat} {h : H} {p0 : Story} {p1 : Int} {pa0_0 : Option Addr} {pc0_0 : Nat} {pa0_1 : Option Addr} {pc0_1 : Nat} {r : Bool} (hwm : wm ≤ h.size) (hsp0_0 : Sl rTollSpot wm h pa0_0 pc0_0 p0.setup.spots) (hsp0_1 : Sl rTollEvent wm h pa0_1 pc0_1 p0.before) (hL : f112L F p0 p1 = some r) :
    WR XX 112 #[.agg [.int .i64 p0.setup.machines, .slice pa0_0 p0.setup.spots.length pc0_0, .slice pa0_1 p0.before.length pc0_1].toArray, .int .i64 p1] wm h (CP (fun (v : Value) (Gb : List (Ast wm)) => v = .bool r ∧ Gb = []) [] h) := by
 refine bg Tryz.ntmps112 hwm Hold.nil ?_
 intro T hT hS
 unfold f112L at hL
 refine r3 ?_
 rintro _ h2 ⟨b1, eb1, rfl, hS⟩
 refine r6 ?_
 refine r1 ?_
 refine WO.w gN rfl (av_bld bld64 (evp_cons lk (evp_cons lk evp_nil)) rfl (cs' := [.int .i64 6, .int .i64 p1, .int .i64 0, .int .i64 0]) rfl) ?_
 obtain ⟨x3, hx3, hL⟩ := bind_some hL
 refine WO.cp gN rfl (Ent.fn has110 (evs_cons lk (evs_cons lk evs_nil))) (f110_ok (p1 := (TollEvent.mk 6 p1 0 0)) (hS.slu hsp0_0) (hS.slu hsp0_1) hx3) ?_
 refine r4 ?_
 refine r1 ?_
 exact rt hL hT hS
theorem f112_ok {F : Nat} {h : H} {p0 : Story} {p1 : Int} {pa0_0 : Option Addr} {pc0_0 : Nat} {pa0_1 : Option Addr} {pc0_1 : Nat} {r : Bool} (hsp0_0 : Sl rTollSpot h.size h pa0_0 pc0_0 p0.setup.spots) (hsp0_1 : Sl rTollEvent h.size h pa0_1 pc0_1 p0.before) (hL : f112L F p0 p1 = some r) : Pure XX 112 #[.agg [.int .i64 p0.setup.machines, .slice pa0_0 p0.setup.spots.length pc0_0, .slice pa0_1 p0.before.length pc0_1].toArray, .int .i64 p1] h (.bool r) :=
 WR.pureC rfl (f112_wf (Nat.le_refl _) hsp0_0 hsp0_1 hL)
end Go.Proofs.YtcnahmgekicbdaaGreat
end
end
