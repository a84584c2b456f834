/- Names Part 14 of the proof. -/
import Derived.Test.YtbnepjakjmnadaaGreatNa13
set_option linter.all false
set_option maxHeartbeats 2000000
section
noncomputable section
namespace Go.Proofs.YtbnepjakjmnadaaGreat
open Go.Abs Go.Lf
theorem f14_ok {h : H} {r : Bool} (hL : f14L = some r) : Pure XX 14 #[] h (.bool r) := by
  cases hL
  intro wm
  have e : ev (cfg XW fun _ => false) 1 (.call 14 #[] wm h) = some (.fin (.ret (.bool true)) h) := rfl
  exact run_sound (X := XW) mixed 1 _ _ e
end Go.Proofs.YtbnepjakjmnadaaGreat
end
end
section
set_option linter.unusedVariables false
set_option linter.unusedSimpArgs false
namespace Go.Proofs.YtbnepjakjmnadaaGreat
open Go.Lf
def f3L (F : Nat) (p0 : ByteArray) (p1 : (List ByteArray)) : Option Bool :=
  (gd (!(decide ((p0.size : Int) > 30))) (f13L F p1) default).bind fun x1 => (bif ((decide ((p0.size : Int) > 30)) || (!x1)) then (f14L).bind fun x2 => some x2 else (f15L F p0).bind fun x3 => (f16L F p0).bind fun x4 => (gd (x3 == x4) (f17L F p1) default).bind fun x5 => (gd (x3 == x4) (f18L F p1) default).bind fun x6 => (gd ((x3 == x4) && (decide (x5 = x6))) (f14L) default).bind fun x7 => some (((x3 == x4) && (decide (x5 = x6))) && x7))
end Go.Proofs.YtbnepjakjmnadaaGreat
end
section
set_option linter.unusedVariables false
set_option linter.unusedSimpArgs false
set_option maxRecDepth 20000
noncomputable section
namespace Go.Proofs.YtbnepjakjmnadaaGreat
open Go.Abs Go.Lf
theorem f3_wf {F : Nat} {wm : Nat} {h : H} {p0 : ByteArray} {p1 : (List ByteArray)} {pa1_0 : Option Addr} {pc1_0 : Nat} {r : Bool} (hwm : wm ≤ h.size) (hsp1_0 : Sl rStr wm h pa1_0 pc1_0 p1) (hL : f3L F p0 p1 = some r) :
    WR XX 3 #[.string p0, .slice pa1_0 p1.length pc1_0] wm h (CP (fun (v : Value) (Gb : List (Ast wm)) => v = .bool r ∧ Gb = []) [] h) := by
 refine WF.begin (args := [_, _]) (fn := Tryz.f3) (by kernel_rfl) (by exact rfl) Tryz.ntmps3 (by simp) ?_
 simp only [frameOf_cons, frameOf_nil, Nat.reduceAdd]
 obtain ⟨T, hT, hS⟩ : ∃ T, T = Fps (wm := wm) [] ∧ Sp wm T h [] h := ⟨_, rfl, Sp.start hwm Hold.nil⟩
 unfold f3L at hL
 refine WC.seq ?_
 refine WC.region ?_
 refine WO.w gN rfl (av_assign (evC rfl)) ?_
 refine WO.nil ?_
 refine SeqK.nrm ?_
 refine WC.seq ?_
 refine WC.seq ?_
 refine WC.region ?_
 refine WO.w gN rfl (av_move (evT (fs2 rfl fh) rfl)) ?_
 refine WO.w gN rfl (av_lenStr und9 (evT fh rfl)) ?_
 refine WO.w gN rfl (av_bin (evT fh rfl) (evC rfl) abin_gtr) ?_
 refine WO.w gN rfl (av_move (evT fh rfl)) ?_
 refine WO.gv (GuardIs.no rfl rfl rfl fh) rfl (fun hg => (av_move (evT (fs4 rfl (fskip rfl fh)) rfl))) ?_
 obtain ⟨x1, hx1, hL⟩ := gd_some hL
 refine WO.gcp (GuardIs.no rfl rfl rfl (fskip rfl fh)) rfl (fun hg => (Ent.fn has13 (evs_cons (evG fh rfl hg) evs_nil))) (fun hg => f13_ok (hS.slu hsp1_0) (hx1 hg)) ?_
 refine WO.gv (GuardIs.no rfl rfl rfl (fs2 rfl fh)) rfl (fun hg => (av_not (evG fh rfl hg))) ?_
 refine WO.w gN rfl (av_or (evT (fs2 rfl (fskip rfl fh)) rfl) (evC rfl) (evGU fh)) ?_
 refine WO.nil ?_
 refine SeqK.nrm ?_
 refine WC.condN (evT fh rfl) (fun hc => ?_) (fun hc => ?_)
 · replace hL := cond_tt hc hL
   refine WC.seq ?_
   refine WC.region ?_
   obtain ⟨x2, hx2, hL⟩ := bind_some hL
   refine WO.cp gN rfl (Ent.fn has14 evs_nil) (f14_ok hx2) ?_
   refine WO.w gN rfl (av_assign (evT fh rfl)) ?_
   refine WO.nil ?_
   refine SeqK.nrm ?_
   refine WC.ret ?_
   refine SeqK.ret ?_
   have hr := Option.some.inj hL
   subst hr
   exact RetK.gen1 rfl (ares_tmp (evT fh rfl) ares_nil) ⟨_, ⟨rfl, rfl⟩, hT ▸ hS.only .n⟩
 · replace hL := cond_ff hc hL
   refine WC.skip ?_
   refine SeqK.nrm ?_
   refine WC.seq ?_
   refine WC.region ?_
   refine WO.w gN rfl (av_move (evT (fs8 rfl (fs2 rfl fh)) rfl)) ?_
   obtain ⟨x3, hx3, hL⟩ := bind_some hL
   refine WO.cp gN rfl (Ent.fn has15 (evs_cons (evT fh rfl) evs_nil)) (f15_ok hx3) ?_
   refine WO.w gN rfl (av_move (evT (fs8 rfl (fs4 rfl fh)) rfl)) ?_
   obtain ⟨x4, hx4, hL⟩ := bind_some hL
   refine WO.cp gN rfl (Ent.fn has16 (evs_cons (evT fh rfl) evs_nil)) (f16_ok hx4) ?_
   refine WO.w gN rfl (av_bin (evT (fs2 rfl fh) rfl) (evT fh rfl) (abin_eqlB und4)) ?_
   refine WO.w gN rfl (av_move (evT fh rfl)) ?_
   refine WO.gv (GuardIs.yes rfl rfl rfl fh) rfl (fun hg => (av_move (evT (fs8 rfl (fs4 rfl (fs2 rfl (fskip rfl fh)))) rfl))) ?_
   obtain ⟨x5, hx5, hL⟩ := gd_some hL
   refine WO.gcp (GuardIs.yes rfl rfl rfl (fskip rfl fh)) rfl (fun hg => (Ent.fn has17 (evs_cons (evG fh rfl hg) evs_nil))) (fun hg => f17_ok (hS.slu hsp1_0) (hx5 hg)) ?_
   refine WO.gv (GuardIs.yes rfl rfl rfl (fs2 rfl fh)) rfl (fun hg => (av_move (evT (fs8 rfl (fs8 rfl (fskip rfl fh))) rfl))) ?_
   obtain ⟨x6, hx6, hL⟩ := gd_some hL
   refine WO.gcp (GuardIs.yes rfl rfl rfl (fs2 rfl (fskip rfl fh))) rfl (fun hg => (Ent.fn has18 (evs_cons (evG fh rfl hg) evs_nil))) (fun hg => f18_ok (hS.slu hsp1_0) (hx6 hg)) ?_
   refine WO.gv (GuardIs.yes rfl rfl rfl (fs4 rfl fh)) rfl (fun hg => (av_bin (evG (fs2 rfl fh) rfl hg) (evG fh rfl hg) abin_eqStr)) ?_
   refine WO.w gN rfl (av_and (evT (fs4 rfl (fskip rfl fh)) rfl) (evGU fh) (evC rfl)) ?_
   refine WO.w gN rfl (av_move (evT fh rfl)) ?_
   obtain ⟨x7, hx7, hL⟩ := gd_some hL
   refine WO.gcp (GuardIs.yes rfl rfl rfl fh) rfl (fun hg => (Ent.fn has14 evs_nil)) (fun hg => f14_ok (hx7 hg)) ?_
   refine WO.w gN rfl (av_and (evT (fskip rfl fh) rfl) (evGU fh) (evC rfl)) ?_
   refine WO.w gN rfl (av_assign (evT fh rfl)) ?_
   refine WO.nil ?_
   refine SeqK.nrm ?_
   refine WC.ret ?_
   have hr := Option.some.inj hL
   subst hr
   exact RetK.gen1 rfl (ares_tmp (evT fh rfl) ares_nil) ⟨_, ⟨rfl, rfl⟩, hT ▸ hS.only .n⟩
theorem f3_ok {F : Nat} {h : H} {p0 : ByteArray} {p1 : (List ByteArray)} {pa1_0 : Option Addr} {pc1_0 : Nat} {r : Bool} (hsp1_0 : Sl rStr h.size h pa1_0 pc1_0 p1) (hL : f3L F p0 p1 = some r) : Pure XX 3 #[.string p0, .slice pa1_0 p1.length pc1_0] h (.bool r) :=
 WR.pureC rfl (f3_wf (Nat.le_refl _) hsp1_0 hL)
end Go.Proofs.YtbnepjakjmnadaaGreat
end
end
section

end
section
namespace Go.Lf
theorem w64_succ {k : Nat} (h : k < 4611686018427387904) : w64 ((k : Int) + 1) = ((k + 1 : Nat) : Int) := by
  rw [w64_id (by omega) (by omega)]; rfl
theorem w64_pred {k : Nat} (h : k < 4611686018427387904) (h0 : 0 < k) : w64 ((k : Int) - 1) = ((k - 1 : Nat) : Int) := by
  rw [w64_id (by omega) (by omega)]; omega
def iter {α β σ : Type} (g : Nat → α → σ → (σ → Option β) → Option β) (d : σ → Option β) : Nat → List α → σ → Option β
  | _, [], s => d s
  | i, x :: l, s => g i x s (fun s' => iter g d (i + 1) l s')
end Go.Lf
end
section
set_option linter.unusedVariables false
set_option linter.unusedSimpArgs false
namespace Go.Proofs.YtbnepjakjmnadaaGreat
open Go.Lf
section
variable {β γ : Type}
theorem loop_traj {body : γ → (γ → Option β) → Option β} {r : Option β} (S : Nat → γ) {n F : Nat} (hF : n < F) (hb : ∀ k, k < n → ∀ next, body (S k) next = next (S (k + 1))) (he : ∀ next, body (S n) next = r) : loop F body (S 0) = r := by
  have : ∀ j F, j ≤ n → n - j < F → loop F body (S j) = r := by
    intro j F hj hF
    obtain ⟨d, hd⟩ : ∃ d, d = n - j := ⟨_, rfl⟩
    induction d generalizing j F with
    | zero =>
      have : j = n := by omega
      subst this
      cases F with
      | zero => omega
      | succ F => rw [loop_succ]; exact he _
    | succ d ih =>
      cases F with
      | zero => omega
      | succ F => rw [loop_succ, hb j (by omega)]; exact ih (j + 1) F (by omega) (by omega) (by omega)
  exact this 0 F (Nat.zero_le _) (by omega)
theorem loop_any {body : γ → (γ → Option β) → Option β} {r1 r2 : Option β} (S : Nat → γ) (c : Nat → Bool) {n F : Nat} (hF : n < F) (hb : ∀ k, k < n → ∀ next, body (S k) next = bif c k then r1 else next (S (k + 1))) (he : ∀ next, body (S n) next = r2) : loop F body (S 0) = bif (List.range n).any c then r1 else r2 := by
  cases h : (List.range n).any c with
  | false =>
    rw [List.any_eq_false] at h
    refine loop_traj S hF (fun k hk next => ?_) he
    have := h k (List.mem_range.2 hk)
    rw [hb k hk, Bool.eq_false_iff.2 this]; rfl
  | true =>
    have hex : ∃ k, k < n ∧ c k = true := by
      obtain ⟨k, h1, h2⟩ := List.any_eq_true.1 h
      exact ⟨k, List.mem_range.1 h1, h2⟩
    have hm : ∃ m, (m < n ∧ c m = true) ∧ ∀ k, k < m → c k = false := by
      obtain ⟨k, hk⟩ := hex
      induction k using Nat.strongRecOn with
      | _ k ih =>
        by_cases hz : ∃ j, j < k ∧ c j = true
        · obtain ⟨j, h1, h2⟩ := hz
          exact ih j h1 ⟨by omega, h2⟩
        · exact ⟨k, hk, fun j hj => Bool.eq_false_iff.2 fun q => hz ⟨j, hj, q⟩⟩
    obtain ⟨m, ⟨h1, h2⟩, h3⟩ := hm
    refine loop_traj S (n := m) (by omega) (fun k hk next => ?_) (fun next => ?_)
    · rw [hb k (by omega), h3 k hk]; rfl
    · rw [hb m h1, h2]; rfl
end
theorem w64s {k : Nat} (h : k < 4611686018427387904) : w64 ((k : Int) + 1) = ((k + 1 : Nat) : Int) := w64_succ h
theorem lt_nat_t {k n : Nat} (h : k < n) : decide ((k : Int) < (n : Int)) = true := decide_eq_true (by omega)
theorem lt_nat_f (n : Nat) : decide ((n : Int) < (n : Int)) = false := decide_eq_false (by omega)
theorem geti_k {α : Type} {l : List α} {k : Nat} (h : k < l.length) : geti l (k : Int) = some l[k] := by rw [geti_nat, List.getElem?_eq_getElem h]
end Go.Proofs.YtbnepjakjmnadaaGreat
end
section
set_option linter.unusedVariables false
set_option linter.unusedSimpArgs false
namespace Go.Proofs.YtbnepjakjmnadaaGreat
open Go.Lf
instance : LawfulBEq ByteArray where
  eq_of_beq {a b} h := by
    cases a with | mk a => cases b with | mk b =>
    have h : (a == b) = true := h
    rw [eq_of_beq h]
  rfl {a} := by
    cases a with | mk a =>
    show (a == a) = true
    simp
def kws : List ByteArray := [(⟨#[97, 110, 100]⟩ : ByteArray), (⟨#[100, 101, 102]⟩ : ByteArray), (⟨#[101, 108, 115, 101]⟩ : ByteArray), (⟨#[103, 111]⟩ : ByteArray), (⟨#[105, 102]⟩ : ByteArray), (⟨#[105, 110]⟩ : ByteArray), (⟨#[112, 108, 97, 99, 101]⟩ : ByteArray), (⟨#[115, 116, 111, 112]⟩ : ByteArray), (⟨#[116, 104, 101, 110]⟩ : ByteArray), (⟨#[119, 97, 116, 99, 104]⟩ : ByteArray)]
def badAt (s : ByteArray) (k : Nat) : Bool := decide (((s.data.getD k 0).toNat : Int) < 97) || decide (((s.data.getD k 0).toNat : Int) > 122)
def nameW (s : ByteArray) : Bool := decide (0 < s.size) && decide (s.size ≤ 8) && !((List.range s.size).any (badAt s)) && !decide (s ∈ kws)
theorem strAt_k {s : ByteArray} {k : Nat} (h : k < s.size) : strAt s (k : Int) = some ((s.data.getD k 0).toNat : Int) := by
  have hk : k < s.data.size := h
  have e : s[((k : Int)).toNat]? = some (s.data[k]) := by
    rw [Int.toNat_natCast]
    show s.data[k]? = _
    rw [Array.getElem?_eq_getElem hk]
  unfold strAt
  rw [if_pos (by omega), e, Array.getD_eq_getD_getElem?, Array.getElem?_eq_getElem hk]
  rfl
theorem has_eq (F : Nat) (l : List ByteArray) (s : ByteArray) (h : l.length < F) (hl : l.length < 4000000000000000000) : f36L F l s = some (decide (s ∈ l)) := by
  have := loop_any (body := f36_b0 l s) (r1 := some true) (r2 := some false) (fun k : Nat => (k : Int)) (fun k => decide (l[k]? = some s)) (n := l.length) h
    (fun k hk next => by
      simp only [f36_b0, lt_nat_t hk, cond_true, geti_k hk, Option.bind_some, w64s (show k < 4611686018427387904 by omega)]
      rw [List.getElem?_eq_getElem hk]
      simp)
    (fun next => by simp [f36_b0])
  rw [show f36L F l s = loop F (f36_b0 l s) 0 from rfl]
  rw [show (0 : Int) = ((0 : Nat) : Int) from rfl, this]
  have e : (List.range l.length).any (fun k => decide (l[k]? = some s)) = decide (s ∈ l) := by
    rw [Bool.eq_iff_iff, List.any_eq_true, decide_eq_true_iff]
    constructor
    · rintro ⟨k, _, hk⟩
      rw [decide_eq_true_iff] at hk
      exact List.mem_of_getElem? hk
    · intro hm
      obtain ⟨k, hk, hs⟩ := List.getElem_of_mem hm
      exact ⟨k, List.mem_range.2 hk, by rw [decide_eq_true_iff, List.getElem?_eq_getElem hk, hs]⟩
  rw [e]
  cases decide (s ∈ l) <;> rfl
def setOf (l : List ByteArray) : List (ByteArray × Bool) := l.foldl (fun m s => mset m s true) []
theorem setOf_get (l : List ByteArray) (s : ByteArray) : (mget (setOf l) s).getD false = decide (s ∈ l) := by
  have gen : ∀ (l : List ByteArray) (m : List (ByteArray × Bool)), (mget (l.foldl (fun m s => mset m s true) m) s).getD false = (decide (s ∈ l) || (mget m s).getD false) := by
    intro l
    induction l with
    | nil => intro m; simp
    | cons x l ih =>
      intro m
      rw [List.foldl_cons, ih, mget_mset]
      by_cases h : s = x
      · subst h; simp
      · rw [if_neg h]; simp [h]
  have := gen l []
  unfold setOf
  rw [this]
  simp [mget, mfind]
theorem set_eq (F : Nat) (l : List ByteArray) (h : l.length < F) (hl : l.length < 4000000000000000000) : f55L F l = some (setOf l) := by
  have := loop_traj (body := f55_b0 l) (r := some (setOf l)) (fun k : Nat => ((k : Int), setOf (l.take k))) (n := l.length) h
    (fun k hk next => by
      have e : setOf (l.take (k + 1)) = mset (setOf (l.take k)) l[k] true := by
        unfold setOf
        rw [List.take_succ_eq_append_getElem hk, List.foldl_append]; rfl
      simp only [f55_b0, lt_nat_t hk, cond_true, geti_k hk, Option.bind_some, w64s (show k < 4611686018427387904 by omega), e])
    (fun next => by simp [f55_b0])
  exact this
theorem kw_get (s : ByteArray) : (f53L.bind fun m => (pget m s false).bind fun x => some (!x)) = some (!decide (s ∈ kws)) := by
  have e : f53L = some (setOf kws) := rfl
  rw [e]
  show some (!((mget (setOf kws) s).getD false)) = _
  rw [setOf_get]
theorem nameP_eq (F : Nat) (s : ByteArray) (h : s.size < F) (hl : s.size < 4000000000000000000) : f15L F s = some (nameW s) := by
  have := loop_any (body := f15_b0 s) (r1 := some false) (r2 := some (decide (0 < s.size) && decide (s.size ≤ 8) && !decide (s ∈ kws))) (fun k : Nat => (k : Int)) (badAt s) (n := s.size) h
    (fun k hk next => by
      simp only [f15_b0, lt_nat_t hk, cond_true, strAt_k hk, Option.bind_some, w64s (show k < 4611686018427387904 by omega)]
      unfold badAt
      cases h1 : decide (((s.data.getD k 0).toNat : Int) < 97) <;> simp [gd])
    (fun next => by
      simp only [f15_b0, lt_nat_f, cond_false]
      rw [kw_get]
      have e1 : decide ((s.size : Int) > 0) = decide (0 < s.size) := by
        by_cases hz : 0 < s.size
        · rw [decide_eq_true hz, decide_eq_true (by omega)]
        · rw [decide_eq_false hz, decide_eq_false (by omega)]
      have e2 : decide ((s.size : Int) ≤ 8) = decide (s.size ≤ 8) := by
        by_cases hz : s.size ≤ 8
        · rw [decide_eq_true hz, decide_eq_true (by omega)]
        · rw [decide_eq_false hz, decide_eq_false (by omega)]
      rw [e1, e2]
      cases (decide (0 < s.size) && decide (s.size ≤ 8)) <;> simp)
  show loop F (f15_b0 s) ((0 : Nat) : Int) = _
  rw [this]
  unfold nameW
  cases (List.range s.size).any (badAt s) <;> simp
theorem nameR_eq (F : Nat) (s : ByteArray) (h : s.size < F) (h2 : 20 ≤ F) : f16L F s = some (nameW s) := by
  unfold f16L
  by_cases hz : 0 < s.size ∧ s.size ≤ 8
  · obtain ⟨z1, z2⟩ := hz
    rw [decide_eq_false (by omega), decide_eq_false (by omega)]
    simp only [Bool.or_false, cond_false]
    have := loop_any (body := f16_b0 F s) (r1 := some false) (r2 := some (!decide (s ∈ kws))) (fun k : Nat => (k : Int)) (badAt s) (n := s.size) h
      (fun k hk next => by
        simp only [f16_b0, lt_nat_t hk, cond_true, strAt_k hk, Option.bind_some, w64s (show k < 4611686018427387904 by omega)]
        unfold badAt
        cases h1 : decide (((s.data.getD k 0).toNat : Int) < 97) <;> simp [gd])
      (fun next => by
        simp only [f16_b0, lt_nat_f, cond_false]
        have e := has_eq F kws s (by show 10 < F; omega) (by decide)
        unfold kws at e
        rw [e]; rfl)
    show loop F (f16_b0 F s) ((0 : Nat) : Int) = _
    rw [this]
    unfold nameW
    rw [decide_eq_true z1, decide_eq_true z2]
    cases (List.range s.size).any (badAt s) <;> simp
  · have : nameW s = false := by
      unfold nameW
      by_cases z1 : 0 < s.size
      · rw [decide_eq_false (show ¬ s.size ≤ 8 by omega)]; simp
      · rw [decide_eq_false z1]; simp
    rw [this]
    by_cases z1 : s.size < 1
    · rw [decide_eq_true (by omega)]; rfl
    · rw [decide_eq_true (show (s.size : Int) > 8 by omega)]; simp
end Go.Proofs.YtbnepjakjmnadaaGreat
end
section
set_option linter.unusedVariables false
set_option linter.unusedSimpArgs false
namespace Go.Proofs.YtbnepjakjmnadaaGreat
open Go.Lf
def strI (xs : List Int) : ByteArray := ⟨(xs.map fun n => UInt8.ofNat n.toNat).toArray⟩
theorem strB_cons (x : Int) (xs : List Int) : strB (x :: xs) = some (strI (x :: xs)) := rfl
theorem strI_size (xs : List Int) : (strI xs).size = xs.length := by
  show ((xs.map fun n => UInt8.ofNat n.toNat).toArray).size = _
  simp
theorem strCat_cons (x : Int) (xs : List Int) (h : xs.length ≤ 1000) : strCat (strI [x]) (strI xs) = some (strI (x :: xs)) := by
  unfold strCat
  rw [if_neg (by rw [strI_size, strI_size]; simp; omega)]
  congr 1
theorem rem26 {v : Nat} (h0 : 0 < v) (h : v ≤ 1000000) : remL (w64 ((v : Int) - 1)) 26 = some (((v - 1) % 26 : Nat) : Int) := by
  rw [w64_pred (by omega) h0]
  unfold remL
  simp only [show ((26 : Int) == 0) = false from rfl, cond_false]
  rw [show (26 : Int) = ((26 : Nat) : Int) from rfl, Int.ofNat_tmod]
theorem quo26 {v : Nat} (h0 : 0 < v) (h : v ≤ 1000000) : quoL (w64 ((v : Int) - 1)) 26 = some (((v - 1) / 26 : Nat) : Int) := by
  rw [w64_pred (by omega) h0]
  unfold quoL
  simp only [show ((26 : Int) == 0) = false from rfl, cond_false]
  rw [show (26 : Int) = ((26 : Nat) : Int) from rfl, ← Int.ofNat_tdiv, w64_id (by omega) (by omega)]
theorem wrapL {m : Nat} (h : m < 26) : IntKind.wrap .u8 (w64 (97 + (m : Int))) = ((97 + m : Nat) : Int) := by
  rw [w64_id (by omega) (by omega)]
  unfold IntKind.wrap
  have e1 : (2 ^ IntKind.u8.bits : Int) = 256 := by decide
  have e3 : IntKind.u8.signed = false := rfl
  simp only [e1, e3]
  simp
  omega
theorem gt_nat {v : Nat} (h : 0 < v) : decide ((v : Int) > 0) = true := decide_eq_true (by omega)
def bs (n : Nat) : List Int := if n ≤ 26 then [((97 + (n - 1) % 26 : Nat) : Int)] else [((97 + ((n - 1) / 26 - 1) % 26 : Nat) : Int), ((97 + (n - 1) % 26 : Nat) : Int)]
theorem bs_len (n : Nat) : (bs n).length ≤ 2 := by unfold bs; split <;> simp
theorem bs_ne (n : Nat) : strB (bs n) = some (strI (bs n)) := by unfold bs; split <;> rfl
theorem mod26 (n : Nat) : n % 26 < 26 := Nat.mod_lt _ (by decide)
def SB (n k : Nat) : List Int × Nat :=
  match k with
  | 0 => ([], n)
  | 1 => ([((97 + (n - 1) % 26 : Nat) : Int)], (n - 1) / 26)
  | _ => (bs n, 0)
theorem letters {β : Type} {body : List Int × Int → (List Int × Int → Option β) → Option β} {r : Option β} {n F : Nat} (h1 : 1 ≤ n) (h2 : n ≤ 702) (hF : 3 ≤ F)
    (hs : ∀ (b : List Int) (v : Nat), b.length ≤ 2 → 0 < v → v ≤ 702 → ∀ next, body (b, (v : Int)) next = next (((97 + (v - 1) % 26 : Nat) : Int) :: b, (((v - 1) / 26 : Nat) : Int)))
    (he : ∀ next, body (bs n, 0) next = r) : loop F body ([], (n : Int)) = r := by
  by_cases h : n ≤ 26
  · have e : (n - 1) / 26 = 0 := Nat.div_eq_of_lt (by omega)
    have eb : bs n = [((97 + (n - 1) % 26 : Nat) : Int)] := by unfold bs; rw [if_pos h]
    refine loop_traj (S := fun k => ((SB n k).1, ((SB n k).2 : Int))) (n := 1) (by omega) (fun k hk next => ?_) (fun next => ?_)
    · obtain rfl : k = 0 := by omega
      exact hs [] n (by simp) (by omega) (by omega) next
    · show body ([((97 + (n - 1) % 26 : Nat) : Int)], (((n - 1) / 26 : Nat) : Int)) next = r
      rw [e, ← eb]; exact he next
  · have eb : bs n = [((97 + ((n - 1) / 26 - 1) % 26 : Nat) : Int), ((97 + (n - 1) % 26 : Nat) : Int)] := by unfold bs; rw [if_neg h]
    refine loop_traj (S := fun k => ((SB n k).1, ((SB n k).2 : Int))) (n := 2) (by omega) (fun k hk next => ?_) (fun next => ?_)
    · rcases (show k = 0 ∨ k = 1 by omega) with rfl | rfl
      · exact hs [] n (by simp) (by omega) (by omega) next
      · have := hs [((97 + (n - 1) % 26 : Nat) : Int)] ((n - 1) / 26) (by simp) (by omega) (by omega) next
        refine this.trans ?_
        have e : ((n - 1) / 26 - 1) / 26 = 0 := Nat.div_eq_of_lt (by omega)
        rw [e, ← eb]; rfl
    · exact he next
theorem word_eq (F n : Nat) (h1 : 1 ≤ n) (h2 : n ≤ 702) (hF : 3 ≤ F) : f56L F (n : Int) = some (strI (bs n)) := by
  by_cases h : n ≤ 26
  · have e : (n - 1) / 26 = 0 := Nat.div_eq_of_lt (by omega)
    have eb : bs n = [((97 + (n - 1) % 26 : Nat) : Int)] := by unfold bs; rw [if_pos h]
    refine loop_traj (body := f56_b0) (S := fun k => (((SB n k).2 : Int), strI (SB n k).1)) (n := 1) (by omega) (fun k hk next => ?_) (fun next => ?_)
    · obtain rfl : k = 0 := by omega
      show f56_b0 ((n : Int), strI []) next = next ((((n - 1) / 26 : Nat) : Int), strI [((97 + (n - 1) % 26 : Nat) : Int)])
      simp only [f56_b0, gt_nat (show 0 < n by omega), cond_true, rem26 (show 0 < n by omega) (by omega), quo26 (show 0 < n by omega) (by omega), Option.bind_some, wrapL (mod26 _), strB_cons, strCat_cons _ [] (by simp)]
    · show f56_b0 ((((n - 1) / 26 : Nat) : Int), strI [((97 + (n - 1) % 26 : Nat) : Int)]) next = _
      rw [e, ← eb]; rfl
  · have eb : bs n = [((97 + ((n - 1) / 26 - 1) % 26 : Nat) : Int), ((97 + (n - 1) % 26 : Nat) : Int)] := by unfold bs; rw [if_neg h]
    refine loop_traj (body := f56_b0) (S := fun k => (((SB n k).2 : Int), strI (SB n k).1)) (n := 2) (by omega) (fun k hk next => ?_) (fun next => ?_)
    · rcases (show k = 0 ∨ k = 1 by omega) with rfl | rfl
      · show f56_b0 ((n : Int), strI []) next = next ((((n - 1) / 26 : Nat) : Int), strI [((97 + (n - 1) % 26 : Nat) : Int)])
        simp only [f56_b0, gt_nat (show 0 < n by omega), cond_true, rem26 (show 0 < n by omega) (by omega), quo26 (show 0 < n by omega) (by omega), Option.bind_some, wrapL (mod26 _), strB_cons, strCat_cons _ [] (by simp)]
      · show f56_b0 ((((n - 1) / 26 : Nat) : Int), strI [((97 + (n - 1) % 26 : Nat) : Int)]) next = next (((0 : Nat) : Int), strI (bs n))
        have hq : 0 < (n - 1) / 26 := by omega
        have e : ((n - 1) / 26 - 1) / 26 = 0 := Nat.div_eq_of_lt (by omega)
        simp only [f56_b0, gt_nat hq, cond_true, rem26 hq (by omega), quo26 hq (by omega), Option.bind_some, wrapL (mod26 _), strB_cons, strCat_cons _ [_] (by simp), e, eb]
    · rfl
def Wd (k : Nat) : ByteArray := strI (bs (k + 1))
theorem Wd_size (k : Nat) : (Wd k).size ≤ 2 := by unfold Wd; rw [strI_size]; exact bs_len _
def free1 (l : List ByteArray) (k : Nat) : Bool := nameW (Wd k) && !decide (Wd k ∈ l)
theorem refRound (F : Nat) (l : List ByteArray) (hF : 1000 ≤ F) (hl : l.length ≤ 90) (k : Nat) (hk : k < 700) (next : Int → Option ByteArray) :
    f18_b0 F l ((k + 1 : Nat) : Int) next = bif free1 l k then some (Wd k) else next ((k + 2 : Nat) : Int) := by
  have hz := Wd_size k
  simp only [f18_b0]
  rw [word_eq F (k + 1) (by omega) (by omega) (by omega), show strI (bs (k + 1)) = Wd k from rfl, Option.bind_some]
  rw [nameR_eq F (Wd k) (by omega) (by omega), Option.bind_some, has_eq F l (Wd k) (by omega) (by omega), w64s (by omega)]
  show (gd (nameW (Wd k)) (some (decide (Wd k ∈ l))) default).bind (fun x9 => bif nameW (Wd k) && !x9 then some (Wd k) else next ((k + 1 + 1 : Nat) : Int)) = _
  unfold free1
  cases nameW (Wd k) <;> rfl
theorem progRound (F : Nat) (l : List ByteArray) (hF : 1000 ≤ F) (k : Nat) (hk : k < 700) (next : Int × ByteArray × Bool → Option ByteArray) :
    f54_b0 F (setOf l) (((k + 1 : Nat) : Int), ⟨#[]⟩, false) next = bif free1 l k then some (Wd k) else next (((k + 2 : Nat) : Int), ⟨#[]⟩, false) := by
  have hz := Wd_size k
  show loop F (f54_b1 F (setOf l) ((k + 1 : Nat) : Int) ⟨#[]⟩ false next) ([], ((k + 1 : Nat) : Int)) = _
  refine letters (by omega) (by omega) (by omega) (fun b v hb h0 h1 nx => ?_) (fun nx => ?_)
  · simp only [f54_b1, gt_nat h0, cond_true, rem26 h0 (by omega), quo26 h0 (by omega), Option.bind_some, wrapL (mod26 _)]
    rw [app_eq (by simp; omega)]
    rfl
  · simp only [f54_b1]
    rw [show decide ((0 : Int) > 0) = false from rfl, cond_false, bs_ne, Option.bind_some, cond_false]
    show (f15L F (Wd k)).bind _ = _
    rw [nameP_eq F (Wd k) (by omega) (by omega), Option.bind_some]
    show (gd (nameW (Wd k)) (some ((mget (setOf l) (Wd k)).getD false)) default).bind _ = _
    rw [setOf_get, w64s (by omega)]
    unfold free1
    cases nameW (Wd k)
    · rfl
    · cases decide (Wd k ∈ l) <;> rfl
set_option maxRecDepth 100000 in
theorem words_ok : ((List.range 91).all fun k => nameW (Wd k)) = true := by decide +kernel
set_option maxRecDepth 100000 in
theorem words_ne : ((List.range 91).map Wd).Nodup := by decide +kernel
theorem pigeonA : ∀ (n : Nat) (f : Nat → Nat), (∀ i, i ≤ n → f i < n) → ∃ i j, i < j ∧ j ≤ n ∧ f i = f j := by
  intro n
  induction n with
  | zero => intro f h; exact absurd (h 0 (Nat.le_refl _)) (Nat.not_lt_zero _)
  | succ n ih =>
    intro f h
    by_cases hz : ∃ i, i ≤ n ∧ f i = f (n + 1)
    · obtain ⟨i, h1, h2⟩ := hz
      exact ⟨i, n + 1, by omega, Nat.le_refl _, h2⟩
    · have hne : ∀ i, i ≤ n → f i ≠ f (n + 1) := fun i hi q => hz ⟨i, hi, q⟩
      have hl := h (n + 1) (Nat.le_refl _)
      obtain ⟨i, j, h1, h2, h3⟩ := ih (fun i => if f i < f (n + 1) then f i else f i - 1) (fun i hi => by
        have := h i (by omega)
        have := hne i hi
        by_cases q : f i < f (n + 1)
        · rw [if_pos q]; omega
        · rw [if_neg q]; omega)
      refine ⟨i, j, h1, by omega, ?_⟩
      have a1 := hne i (by omega)
      have a2 := hne j h2
      by_cases q1 : f i < f (n + 1) <;> by_cases q2 : f j < f (n + 1)
      · rwa [if_pos q1, if_pos q2] at h3
      · rw [if_pos q1, if_neg q2] at h3; omega
      · rw [if_neg q1, if_pos q2] at h3; omega
      · rw [if_neg q1, if_neg q2] at h3; omega
theorem exists_free {l : List ByteArray} (hl : l.length ≤ 90) : ∃ k, k < 91 ∧ free1 l k = true := by
  apply Classical.byContradiction
  intro hno
  have hall : ∀ k, k < 91 → Wd k ∈ l := by
    intro k hk
    have h1 : nameW (Wd k) = true := by
      have := words_ok
      rw [List.all_eq_true] at this
      exact this k (List.mem_range.2 hk)
    apply Classical.byContradiction
    intro hm
    exact hno ⟨k, hk, by unfold free1; rw [h1, decide_eq_false hm]; rfl⟩
  have hidx : ∀ k, k < 91 → ∃ i, i < l.length ∧ l[i]? = some (Wd k) := fun k hk => by
    obtain ⟨i, h1, h2⟩ := List.getElem_of_mem (hall k hk)
    exact ⟨i, h1, by rw [List.getElem?_eq_getElem h1, h2]⟩
  obtain ⟨i, j, h1, h2, h3⟩ := pigeonA 90 (fun k => if h : k < 91 then (hidx k h).choose else 0) (fun i hi => by
    have h : i < 91 := by omega
    show (if h : i < 91 then (hidx i h).choose else 0) < 90
    rw [dif_pos h]
    have := (hidx i h).choose_spec.1
    omega)
  have hi : i < 91 := by omega
  have hj : j < 91 := by omega
  simp only [dif_pos hi, dif_pos hj] at h3
  have e1 := (hidx i hi).choose_spec.2
  have e2 := (hidx j hj).choose_spec.2
  rw [h3, e2] at e1
  have e3 : Wd j = Wd i := Option.some.inj e1
  have := words_ne
  rw [List.nodup_iff_pairwise_ne, List.pairwise_iff_getElem] at this
  have := this i j (by simp; omega) (by simp; omega) h1
  simp at this
  exact this e3.symm
theorem fresh_eq (F : Nat) (l : List ByteArray) (hF : 1000 ≤ F) (hl : l.length ≤ 90) : ∃ x, f17L F l = some x ∧ f18L F l = some x := by
  obtain ⟨k0, hk0, hc0⟩ := exists_free hl
  have hm : ∃ m, (m < 91 ∧ free1 l m = true) ∧ ∀ k, k < m → free1 l k = false := by
    induction k0 using Nat.strongRecOn with
    | _ k ih =>
      by_cases hz : ∃ j, j < k ∧ free1 l j = true
      · obtain ⟨j, h1, h2⟩ := hz
        exact ih j h1 (by omega) h2
      · exact ⟨k, ⟨hk0, hc0⟩, fun j hj => Bool.eq_false_iff.2 fun q => hz ⟨j, hj, q⟩⟩
  obtain ⟨m, ⟨h1, h2⟩, h3⟩ := hm
  refine ⟨Wd m, ?_, ?_⟩
  · unfold f17L
    rw [set_eq F l (by omega) (by omega), Option.bind_some]
    have : f54L F (setOf l) = some (Wd m) := by
      refine loop_traj (body := f54_b0 F (setOf l)) (S := fun k => (((k + 1 : Nat) : Int), (⟨#[]⟩ : ByteArray), false)) (n := m) (by omega) (fun k hk next => ?_) (fun next => ?_)
      · rw [progRound F l hF k (by omega), h3 k hk]; rfl
      · rw [progRound F l hF m (by omega), h2]; rfl
    rw [this]; rfl
  · refine loop_traj (body := f18_b0 F l) (S := fun k => ((k + 1 : Nat) : Int)) (n := m) (by omega) (fun k hk next => ?_) (fun next => ?_)
    · rw [refRound F l hF hl k (by omega), h3 k hk]; rfl
    · rw [refRound F l hF hl m (by omega), h2]; rfl
theorem short_eq (F : Nat) (l : List ByteArray) (hF : 1000 ≤ F) : ∃ b, f13L F l = some b ∧ (b = true → l.length ≤ 90) := by
  have hr := loop_any (body := f13_b0 l) (r1 := some false) (r2 := some (decide (l.length ≤ 90))) (fun k : Nat => (k : Int)) (fun k => decide (((l.getD k ⟨#[]⟩).size : Int) > 30)) (n := min l.length 100) (F := F) (by omega)
    (fun k hk next => by
      have hk1 : k < l.length := by omega
      have hk2 : decide ((k : Int) < 100) = true := decide_eq_true (by omega)
      simp only [f13_b0, lt_nat_t hk1, hk2, Bool.and_self, cond_true, geti_k hk1, Option.bind_some, w64s (show k < 4611686018427387904 by omega)]
      simp [List.getD_eq_getElem?_getD, hk1])
    (fun next => by
      have : (decide (((min l.length 100 : Nat) : Int) < (l.length : Int)) && decide (((min l.length 100 : Nat) : Int) < 100)) = false := by
        by_cases h : l.length ≤ 100
        · rw [decide_eq_false (show ¬ ((min l.length 100 : Nat) : Int) < (l.length : Int) by omega)]; rfl
        · rw [decide_eq_false (show ¬ ((min l.length 100 : Nat) : Int) < 100 by omega), Bool.and_false]
      have e : decide ((l.length : Int) ≤ 90) = decide (l.length ≤ 90) := by
        by_cases hz : l.length ≤ 90
        · rw [decide_eq_true hz, decide_eq_true (by omega)]
        · rw [decide_eq_false hz, decide_eq_false (by omega)]
      simp only [f13_b0, this, cond_false, e])
  have hr : f13L F l = _ := hr
  rw [hr]
  cases (List.range (min l.length 100)).any fun k => decide (((l.getD k ⟨#[]⟩).size : Int) > 30)
  · exact ⟨_, rfl, fun h => of_decide_eq_true h⟩
  · exact ⟨_, rfl, fun h => by cases h⟩
theorem TermNames_law (F : Nat) (hF : 1000 ≤ F) (s : ByteArray) (l : List ByteArray) : f3L F s l = some true := by
  unfold f3L
  obtain ⟨b, hb, hb2⟩ := short_eq F l hF
  by_cases hs : s.size ≤ 30
  · have e : decide ((s.size : Int) > 30) = false := decide_eq_false (by omega)
    rw [e, hb]
    cases b with
    | false => rfl
    | true =>
      obtain ⟨x, hx1, hx2⟩ := fresh_eq F l hF (hb2 rfl)
      simp only [Bool.not_false, Bool.not_true, Bool.or_self, cond_false, gd_true, Option.bind_some]
      rw [nameP_eq F s (by omega) (by omega), Option.bind_some, nameR_eq F s (by omega) (by omega), Option.bind_some, hx1, hx2]
      simp [gd, f14L]
  · have e : decide ((s.size : Int) > 30) = true := decide_eq_true (by omega)
    rw [e]
    rfl
end Go.Proofs.YtbnepjakjmnadaaGreat
end
