/- A closed call, run in pieces: between two pieces nothing of the frame and of the heap is kept. -/
import Derived.Test.YtekpjgmhkkjhgaaLift
noncomputable section
namespace Go.Proofs.Ytekpjgmhkkjhgaa
open Go.Abs Go.RowKit

def bodyOf (fn : Func) : Code := fn.body.getD .skip

def tailC : Nat → Code → Code
  | 0, c => c
  | k + 1, .seq _ b => tailC k b
  | _ + 1, c => c

/-- The first statements of a sequence. -/
def segRun (ih : Job → Option Res) (n : Nat) : Nat → Code → Fs → Option Fs
  | 0, _, s => some s
  | k + 1, .seq a b, s => match ih (.code a n 0 none s) with
    | some (.code .normal s1) => segRun ih n k b s1
    | _ => none
  | _ + 1, _, _ => none
def isSeg (r : Option Fs) : Bool :=
  match r with
  | some s => s.ds.isEmpty
  | none => false

def anyFr : Nat → Fr
  | 0 => .nil
  | n + 1 => Tr.set (anyFr n) n anyV
def anyS (n : Nat) : Fs := { fr := anyFr n, ds := [], h := ⟨.nil, 0⟩ }
theorem anyFr_at (n t : Nat) : (anyFr n).at t = if t < n then anyV else undef := by
  induction n with
  | zero => rfl
  | succ n ih =>
    unfold Fr.at at ih ⊢
    rw [anyFr, Tr.get_set]
    by_cases h : t = n
    · subst h; simp
    · rw [if_neg h, ih]
      by_cases h2 : t < n
      · rw [if_pos h2, if_pos (by omega)]
      · rw [if_neg h2, if_neg (by omega)]
theorem anyS_inv {n : Nat} {a : Act} {w : World} (h1 : a.tmps.size = n) (h2 : a.defers = []) : Inv noRen n (anyS n) a w := by
  refine ⟨⟨fun _ _ _ e => (by cases e), fun _ _ _ e => (by cases e), fun _ _ _ _ _ e => (by cases e)⟩, ⟨h1, fun t ht => ?_⟩, ?_⟩
  · have e : (anyS n).fr.at t = if t < n then anyV else undef := anyFr_at n t
    rw [e] at ht ⊢
    by_cases h : t < n
    · rw [if_pos h] at ht; cases ht
    · rw [if_neg h, Array.getD_eq_getD_getElem?, Array.getElem?_eq_none (by omega)]
      exact VR.undef _
  · rw [h2]; exact .nil

variable {X : Ctx} {k : Nat}

theorem segRun_sound {ih : Job → Option Res} (HI : ∀ j r, ih j = some r → JobOK X j r) {n : Nat} {Q : Exit → Act → World → Prop} : ∀ (m : Nat) (c : Code) (s s' : Fs), segRun ih n m c s = some s' → ∀ (ρ : Ren) (a : Act) (w : World), Inv ρ n s a w →
    (∀ ρ' a' w', Inv ρ' n s' a' w' → Stp 0 ρ s.h w ρ' s'.h w' → (tailC m c).wpIn Fence.wide 0 X.P Q a' w') → c.wpIn Fence.wide 0 X.P Q a w := by
  intro m
  induction m with
  | zero => intro c s s' h ρ a w hi hk; cases h; exact hk ρ a w hi (Stp.refl _ _ _ _)
  | succ m ihm =>
    intro c s s' h ρ a w hi hk
    cases c with
    | seq x y =>
      simp only [segRun] at h
      split at h
      · rename_i s1 h1
        refine wpIn_seq (wpIn_mono (HI _ _ h1 ρ a w Fence.wide (Nat.zero_le _) hi rfl) ?_)
        rintro e' a' w' ⟨ρ', he, hi', hst⟩
        cases he
        exact ihm y s1 s' h ρ' a' w' hi' fun ρ2 a2 w2 hi2 hst2 => hk ρ2 a2 w2 hi2 (hst.trans hi.rel.lt hst2)
      · cases h
    | _ => cases h

/-- A body, run in pieces, ends in a call's return of true. -/
inductive Cuts (X : Ctx) (fn : Func) : Code → Prop
  | last {c : Code} {k : Nat} (h : isTrue (cRes (fun e s => match xPM e with
      | some pm => ev (cfg X fun _ => false) k (.leave fn 0 pm s)
      | none => none) (ev (cfg X fun _ => false) k (.code c fn.ntmps 0 none (anyS fn.ntmps)))) = true) : Cuts X fn c
  | seg {c : Code} {k : Nat} (m : Nat) (h : isSeg (segRun (ev (cfg X fun _ => false) k) fn.ntmps m c (anyS fn.ntmps)) = true) (t : Cuts X fn (tailC m c)) : Cuts X fn c

theorem stp_below {ρ ρ' : Ren} {h' : H} {w w' : World} {h : H} (hρ : ρ = noRen) (st : Stp 0 ρ h w ρ' h' w') : Below w.heap.size w w' := by
  subst hρ
  exact st.below fun i b d _ e => by cases e

theorem Cuts.sound {fn : Func} (hm : X.P.follows .mixedOrders = true) {c : Code} (h : Cuts X fn c) : ∀ (a : Act) (w w0 : World), a.tmps.size = fn.ntmps → a.defers = [] → Below w0.heap.size w0 w →
    c.wpIn Fence.wide 0 X.P (bodyPostM Fence.wide 0 X.P fn (fun e w' => e = .returned (.bool true) ∧ Below w0.heap.size w0 w')) a w := by
  induction h with
  | last h =>
    intro a w w0 h1 h2 hb
    rename_i k
    obtain ⟨h', hc⟩ := isTrue_some h
    obtain ⟨e, s1, ha, hk⟩ := cRes_eq hc
    have ka := run_sound (X := X) (pur := fun _ => false) hm k _ _ ha
    split at hk
    · rename_i pm hpm
      have hj := run_sound (X := X) (pur := fun _ => false) hm k _ _ hk
      refine wpIn_mono (ka noRen a w Fence.wide (Nat.zero_le _) (anyS_inv h1 h2) rfl) ?_
      rintro e' a' w' ⟨ρ', he, hi', hst⟩
      have fin : ∀ e2 w2, PostF 0 ρ' s1.h w' (.ret (.bool true)) h' e2 w2 → e2 = .returned (.bool true) ∧ Below w0.heap.size w0 w2 := by
        rintro e2 w2 ⟨ρ2, hr, hrel, hst2⟩
        have hi0 := (anyS_inv (n := fn.ntmps) (w := w) h1 h2).rel.lt
        have hbb := stp_below rfl (hst.trans hi0 hst2)
        refine ⟨?_, hb.trans (hbb.mono hb.size)⟩
        cases hr with
        | ret hv => cases hv; rfl
      cases he with
      | normal => cases hpm; exact hj ρ' _ a' .returning w' _ (Nat.zero_le _) hi' .ret fin
      | ret => cases hpm; exact hj ρ' _ a' .returning w' _ (Nat.zero_le _) hi' .ret fin
      | panic hv' => cases hpm; exact hj ρ' _ a' _ w' _ (Nat.zero_le _) hi' (.pan hv') fin
      | exit id => cases hpm
      | goto l => cases hpm
    · cases hk
  | seg m h t iht =>
    intro a w w0 h1 h2 hb
    rename_i c k
    unfold isSeg at h
    split at h
    · rename_i s' hs
      refine segRun_sound (run_sound (X := X) (pur := fun _ => false) hm k) m c _ s' hs noRen a w (anyS_inv h1 h2) fun ρ' a' w' hi' hst => ?_
      refine iht a' w' w0 hi'.fr.size ?_ (hb.trans ((stp_below rfl hst).mono hb.size))
      have hd := hi'.ds
      have : s'.ds = [] := by cases e : s'.ds with | nil => rfl | cons _ _ => rw [e] at h; cases h
      rw [this] at hd
      generalize a'.defers = l at hd
      cases hd; rfl
    · cases h

theorem cuts_true (X : Ctx) (hX : X.P = Try.prog) {f : FuncId} {fn : Func} {c : Code} (hf : Try.prog.funcs[f]? = some fn) (hb : fn.body = some c) (h : Cuts X fn c) (w : World) :
    Calls Try.prog f #[] w fun e w' => e = .returned (.bool true) ∧ Below w.heap.size w w' := by
  rw [← hX] at hf ⊢
  refine callsIn_wide.1 (callsIn_of_wp_marks hf hb trivial (h.sound (by rw [hX]; exact mixed) _ w w ?_ rfl (Below.refl _ _)))
  simp
end Go.Proofs.Ytekpjgmhkkjhgaa
