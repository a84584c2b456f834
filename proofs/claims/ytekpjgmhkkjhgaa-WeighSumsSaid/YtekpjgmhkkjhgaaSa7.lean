/- WeighSums returns true, whatever the world and the name. No condition. Part 7 of the proof. -/
import Derived.ProofKit
import Derived.Test.YtekpjgmhkkjhgaaSa6
section
noncomputable section
namespace Go.Proofs.Ytekpjgmhkkjhgaa
open Go.Abs Go.RowKit Go.WideShapes Go.ChangeShapes
def isTrue (r : Option Res) : Bool :=
  match r with
  | some (.fin (.ret (.bool true)) _) => true
  | _ => false
theorem isTrue_some {r : Option Res} (h : isTrue r = true) : ∃ h', r = some (.fin (.ret (.bool true)) h') := by
  unfold isTrue at h
  split at h
  · exact ⟨_, rfl⟩
  · cases h
theorem mixed : Try.prog.follows .mixedOrders = true := by kernel_rfl
def noRen : Ren := ⟨fun _ => none, fun _ => (0, 0)⟩
theorem closed_true (X : Ctx) (hX : X.P = Try.prog) {k : Nat} {f : FuncId} (h : isTrue (ev (cfg X fun _ => false) k (.call f #[] 0 ⟨.nil, 0⟩)) = true) (w : World) :
    Calls Try.prog f #[] w fun e w' => e = .returned (.bool true) ∧ Below w.heap.size w w' := by
  obtain ⟨h', e⟩ := isTrue_some h
  have hj : JobOK X (.call f #[] 0 ⟨.nil, 0⟩) (.fin (.ret (.bool true)) h') := run_sound (by rw [hX]; exact mixed) k _ _ e
  have hr : Rel noRen ⟨.nil, 0⟩ w := ⟨fun _ _ _ e => (by cases e), fun _ _ _ e => (by cases e), fun _ _ _ _ _ e => (by cases e)⟩
  rw [← hX]
  have := callsIn_wide.1 (hj noRen #[] w (Nat.le_refl 0) hr ⟨rfl, fun i v v' e => by simp at e⟩)
  refine this.mono fun e w' ⟨ρ', he, _, st⟩ => ?_
  refine ⟨?_, st.below fun i b d _ e => by cases e⟩
  cases he with
  | ret hv => cases hv; rfl
section
variable {H : Type} {enc : TypeId × Value → H} {P : Program}
theorem post_of_below {f : Func} {s : ChangeSpec} {apart fresh handsOn again : Bool} {W W' : World} {args : Array Value} {v : Value} {ds gs : List (DataW H)} {before pa pv : List MemPlace}
    (hW : DataW.Whole enc P f.params.toList s.vars apart W args.toList ds gs before)
    (hres : ∀ (b : Nat) (sp : Nat → Bool) (hd : Bool), DataW.TrodAll enc P W' b sp hd f.resultTypes.toList (v.resultList f.resultTypes.size) (s.fn H (ds ++ gs)).results [])
    (hargs : ∀ sp : Nat → Bool, (∀ p ∈ before, sp p.block = true) → DataW.TrodAll enc P W' 0 sp true f.params.toList args.toList (s.fn H (ds ++ gs)).args pa)
    (hvars : ∀ sp : Nat → Bool, (∀ p ∈ before, sp p.block = true) → DataW.TrodVars enc P W' sp s.vars (s.fn H (ds ++ gs)).vars pv)
    (hps : before = pa ++ pv) (hb : Below W.heap.size W W')
    (hok : ∀ (j : Nat) (t : TypeId) (r : Value), f.resultTypes[j]? = some t → (v.resultList f.resultTypes.size)[j]? = some r → Value.okWide P W' .any 0 t r) :
    s.post enc P f apart fresh handsOn again W args v W' := by
  have hlt : ∀ p ∈ before, p.block < W.heap.size := fun p hp => hW.lt p hp
  have hold : ∀ p ∈ before, (fun b => decide (b < W.heap.size)) p.block = true := fun p hp => by simpa using hlt p hp
  refine ⟨ds, gs, before, [], pa, pv, hW, hres _ _ _, hargs _ hold, hvars _ hold, World.keptBut_mono (fun p hp => ⟨hp, ?_⟩) (hb.frame (· ∈ before)), fun _ => ?_⟩
  · rw [hps, List.mem_append] at hp
    exact Or.inr hp
  · obtain ⟨_, _, _, _, _, hz, hn⟩ := hW
    refine ⟨hok, _, _, ([] ++ pa) ++ pv, ⟨[] ++ pa, pv, trodAll_append (hargs _ (fun _ _ => rfl)) (hres _ _ _), hvars _ (fun _ _ => rfl), rfl, ?_, ?_⟩, ?_⟩
    · intro b off hp
      have hin : MemPlace.cell b off ∈ before := by rw [hps]; simpa using hp
      rw [hb.frozen (hlt _ hin)]
      exact hz b off hin
    · intro ha
      have := hn ha
      rw [hps] at this
      simpa using this
    · intro p hp _
      rw [hps]
      simpa using hp
end
end Go.Proofs.Ytekpjgmhkkjhgaa
end
end
section
noncomputable section
namespace Go.Abs
variable {X : Ctx}
structure FrLe (n : Nat) (fr0 fr : Fr) : Prop where
  val : ∀ t, t < n → isAny (fr0.at t) = false → fr.at t = fr0.at t
  und : ∀ t, n ≤ t → fr0.at t = undef
structure Weak (n : Nat) (s0 s : Fs) : Prop where
  fr : FrLe n s0.fr s.fr
  ds : s.ds = s0.ds
  h : s.h = s0.h
theorem Weak.inv {s0 s : Fs} {ρ : Ren} {n : Nat} {a : Act} {w : World} (k : Weak n s0 s) (hi : Inv ρ n s a w) : Inv ρ n s0 a w := by
  refine ⟨by rw [← k.h]; exact hi.rel, ⟨hi.fr.size, fun t ht => ?_⟩, by rw [← k.ds]; exact hi.ds⟩
  by_cases hn : t < n
  · have e := k.fr.val t hn ht
    have := hi.fr.val t (by rw [e]; exact ht)
    rwa [e] at this
  · rw [k.fr.und t (Nat.le_of_not_lt hn), Array.getD_eq_getD_getElem?, Array.getElem?_eq_none (by rw [hi.fr.size]; omega)]
    exact VR.undef ρ
structure WC (X : Ctx) (n wm : Nat) (rd : Option Nat) (c : Code) (s : Fs) (Q : XX → Fs → Prop) : Prop where
  out : ∃ e s', Q e s' ∧ JobOK X (.code c n wm rd s) (.code e s')
structure WL (X : Ctx) (n wm : Nat) (rd : Option Nat) (c : Code) (s : Fs) (Q : XX → Fs → Prop) : Prop where
  out : ∃ e s', Q e s' ∧ JobOK X (.loop c n wm rd s) (.code e s')
structure WF (X : Ctx) (f : FuncId) (args : Array Value) (wm : Nat) (h : H) (Q : AEnd → H → Prop) : Prop where
  out : ∃ e h', Q e h' ∧ JobOK X (.call f args wm h) (.fin e h')
def OpsOK (X : Ctx) (n wm : Nat) (rd : Option Nat) (ops : Array Oper) (l : List Oper) (s : Fs) (e : XX) (s' : Fs) : Prop :=
  ∀ (Q : Exit → Act → World → Prop) {ρ : Ren} {F : Fence} {a : Act} {w : World}, Inv ρ n s a w → wm ≤ s.h.size → FR' ρ rd F → (∀ e' a' w', PostC wm n ρ s.h w e s' e' a' w' → Q e' a' w') → wpListIn F 0 X.P ops Q l a w
structure WO (X : Ctx) (n wm : Nat) (rd : Option Nat) (ops : Array Oper) (l : List Oper) (s : Fs) (Q : XX → Fs → Prop) : Prop where
  out : ∃ e s', Q e s' ∧ OpsOK X n wm rd ops l s e s'
variable {n wm : Nat} {rd : Option Nat} {s : Fs} {Q : XX → Fs → Prop}
theorem WC.mono {c : Code} {Q' : XX → Fs → Prop} (h : WC X n wm rd c s Q) (k : ∀ e s', Q e s' → Q' e s') : WC X n wm rd c s Q' := let ⟨e, s', h1, h2⟩ := h; ⟨e, s', k e s' h1, h2⟩
theorem WL.mono {c : Code} {Q' : XX → Fs → Prop} (h : WL X n wm rd c s Q) (k : ∀ e s', Q e s' → Q' e s') : WL X n wm rd c s Q' := let ⟨e, s', h1, h2⟩ := h; ⟨e, s', k e s' h1, h2⟩
theorem WF.mono {f : FuncId} {args : Array Value} {h : H} {Q Q' : AEnd → H → Prop} (h1 : WF X f args wm h Q) (k : ∀ e s', Q e s' → Q' e s') : WF X f args wm h Q' := let ⟨e, s', h1, h2⟩ := h1; ⟨e, s', k e s' h1, h2⟩
theorem WC.weak {c : Code} {s0 : Fs} (k : Weak n s0 s) (h : WC X n wm rd c s0 Q) : WC X n wm rd c s Q := by
  obtain ⟨e, s', h1, h2⟩ := h
  refine ⟨e, s', h1, fun ρ a w F hwm hi hF => ?_⟩
  rw [k.h] at hwm ⊢
  exact h2 ρ a w F hwm (k.inv hi) hF
theorem WL.weak {c : Code} {s0 : Fs} (k : Weak n s0 s) (h : WL X n wm rd c s0 Q) : WL X n wm rd c s Q := by
  obtain ⟨e, s', h1, h2⟩ := h
  refine ⟨e, s', h1, fun ρ a w F hwm hi hF => ?_⟩
  rw [k.h] at hwm ⊢
  exact h2 ρ a w F hwm (k.inv hi) hF
def SeqKd (X : Ctx) (n wm : Nat) (rd : Option Nat) (b : Code) (Q : XX → Fs → Prop) : XX → Fs → Prop := fun e s =>
  match e with
  | .normal => WC X n wm rd b s Q
  | e => Q e s
def LoopKd (X : Ctx) (n wm : Nat) (rd : Option Nat) (c : Code) (Q : XX → Fs → Prop) : XX → Fs → Prop := fun e s =>
  match e with
  | .normal => WL X n wm rd c s Q
  | e => Q e s
def BlkKd (id : Nat) (Q : XX → Fs → Prop) : XX → Fs → Prop := fun e s =>
  match e with
  | .exit k => if k = id then Q .normal s else Q (.exit k) s
  | e => Q e s
def ScpKd (Q : XX → Fs → Prop) : XX → Fs → Prop := fun e s =>
  match e with
  | .goto _ => False
  | e => Q e s
structure SeqK (X : Ctx) (n wm : Nat) (rd : Option Nat) (b : Code) (Q : XX → Fs → Prop) (e : XX) (s : Fs) : Prop where
  out : SeqKd X n wm rd b Q e s
structure LoopK (X : Ctx) (n wm : Nat) (rd : Option Nat) (b : Code) (Q : XX → Fs → Prop) (e : XX) (s : Fs) : Prop where
  out : LoopKd X n wm rd b Q e s
structure BlkK (id : Nat) (Q : XX → Fs → Prop) (e : XX) (s : Fs) : Prop where
  out : BlkKd id Q e s
structure ScpK (Q : XX → Fs → Prop) (e : XX) (s : Fs) : Prop where
  out : ScpKd Q e s
theorem ExR.not_normal {ρ : Ren} {e : XX} {e' : Exit} (he : ExR ρ e e') (h : e ≠ .normal) {N : Act → World → Prop} {R : Exit → Act → World → Prop} {a : Act} {w : World} (hr : R e' a w) : Exit.then N R e' a w := by
  cases he with
  | normal => exact absurd rfl h
  | _ => exact hr
theorem WC.seq {a b : Code} (h : WC X n wm rd a s (SeqK X n wm rd b Q)) : WC X n wm rd (.seq a b) s Q := by
  obtain ⟨e, s1, hq, ka⟩ := h
  by_cases hn : e = .normal
  · subst hn
    obtain ⟨e2, s2, hq2, kb⟩ := hq.out
    refine ⟨e2, s2, hq2, fun ρ a w F hwm hi hF => wpIn_seq (wpIn_mono (ka ρ a w F hwm hi hF) ?_)⟩
    rintro e' a' w' ⟨ρ', he, hi', hst⟩
    cases he
    exact wpIn_mono (kb ρ' a' w' F (Nat.le_trans hwm hst.size) hi' (hF.mono hst.ext)) fun _ _ _ hp => PostC.trans hi.rel.lt hst hp
  · refine ⟨e, s1, ?_, fun ρ a w F hwm hi hF => wpIn_seq (wpIn_mono (ka ρ a w F hwm hi hF) ?_)⟩
    · cases e with
      | normal => exact absurd rfl hn
      | _ => exact hq.out
    · rintro e' a' w' ⟨ρ', he, hi', hst⟩
      exact he.not_normal hn ⟨ρ', he, hi', hst⟩
theorem WC.cond {c : Operand} {a b : Code} {t : Bool} (hc : aev s.fr c = some (.bool t)) (h1 : t = true → WC X n wm rd a s Q) (h2 : t = false → WC X n wm rd b s Q) : WC X n wm rd (.cond c a b) s Q := by
  have : ∃ e s', Q e s' ∧ ∀ ρ a' w F, wm ≤ s.h.size → Inv ρ n s a' w → FR' ρ rd F → (if t then a else b).wpIn F 0 X.P (PostC wm n ρ s.h w e s') a' w := by
    cases t with
    | true => obtain ⟨e, s', q, k⟩ := h1 rfl; exact ⟨e, s', q, k⟩
    | false => obtain ⟨e, s', q, k⟩ := h2 rfl; exact ⟨e, s', q, k⟩
  obtain ⟨e, s', hq, k⟩ := this
  refine ⟨e, s', hq, fun ρ a' w F hwm hi hF => ?_⟩
  have hv := aev_sound hi.fr _ _ hc
  generalize hx : a'.eval c = x at hv
  cases hv
  exact wpIn_cond hx (k ρ a' w F hwm hi hF)
theorem WC.block {id : Nat} {c : Code} (h : WC X n wm rd c s (BlkK id Q)) : WC X n wm rd (.block id c) s Q := by
  obtain ⟨e, s1, hq, ka⟩ := h
  have key : ∃ e2, Q e2 s1 ∧ ∀ (wm' n' : Nat) (ρ0 : Ren) (h0 : H) (w0 : World) (e' : Exit) (a' : Act) (w' : World), PostC wm' n' ρ0 h0 w0 e s1 e' a' w' → Exit.inBlock id (PostC wm' n' ρ0 h0 w0 e2 s1) e' a' w' := by
    cases e with
    | exit k =>
      by_cases hk : k = id
      · subst hk
        refine ⟨.normal, by simpa [BlkKd] using hq.out, ?_⟩
        rintro _ _ _ _ _ e' a' w' ⟨ρ', he, hi', hst⟩
        cases he
        show if _ then _ else _
        rw [if_pos rfl]
        exact ⟨ρ', .normal, hi', hst⟩
      · refine ⟨.exit k, by simpa [BlkKd, hk] using hq.out, ?_⟩
        rintro _ _ _ _ _ e' a' w' ⟨ρ', he, hi', hst⟩
        cases he
        show if _ then _ else _
        rw [if_neg hk]
        exact ⟨ρ', .exit k, hi', hst⟩
    | normal => exact ⟨.normal, hq.out, by rintro _ _ _ _ _ e' a' w' ⟨ρ', he, hi', hst⟩; cases he; exact ⟨ρ', .normal, hi', hst⟩⟩
    | goto l => exact ⟨.goto l, hq.out, by rintro _ _ _ _ _ e' a' w' ⟨ρ', he, hi', hst⟩; cases he; exact ⟨ρ', .goto l, hi', hst⟩⟩
    | ret => exact ⟨.ret, hq.out, by rintro _ _ _ _ _ e' a' w' ⟨ρ', he, hi', hst⟩; cases he; exact ⟨ρ', .ret, hi', hst⟩⟩
    | panic v => exact ⟨.panic v, hq.out, by rintro _ _ _ _ _ e' a' w' ⟨ρ', he, hi', hst⟩; cases he with | panic hv => exact ⟨ρ', .panic hv, hi', hst⟩⟩
  obtain ⟨e2, hq2, key⟩ := key
  exact ⟨e2, s1, hq2, fun ρ a w F hwm hi hF => wpIn_block (wpIn_mono (ka ρ a w F hwm hi hF) fun e' a' w' hp => key _ _ _ _ _ e' a' w' hp)⟩
theorem WC.scope {c : Code} (h : WC X n wm rd c s (ScpK Q)) : WC X n wm rd (.scope c) s Q := by
  obtain ⟨e, s1, hq, ka⟩ := h
  cases e with
  | goto l => exact hq.out.elim
  | exit k => exact ⟨_, s1, hq.out, fun ρ a w F hwm hi hF => wpIn_scope (wpIn_mono (ka ρ a w F hwm hi hF) (by rintro e' a' w' ⟨ρ', he, hi', hst⟩; cases he; exact ⟨ρ', .exit k, hi', hst⟩))⟩
  | normal => exact ⟨_, s1, hq.out, fun ρ a w F hwm hi hF => wpIn_scope (wpIn_mono (ka ρ a w F hwm hi hF) (by rintro e' a' w' ⟨ρ', he, hi', hst⟩; cases he; exact ⟨ρ', .normal, hi', hst⟩))⟩
  | ret => exact ⟨_, s1, hq.out, fun ρ a w F hwm hi hF => wpIn_scope (wpIn_mono (ka ρ a w F hwm hi hF) (by rintro e' a' w' ⟨ρ', he, hi', hst⟩; cases he; exact ⟨ρ', .ret, hi', hst⟩))⟩
  | panic v => exact ⟨_, s1, hq.out, fun ρ a w F hwm hi hF => wpIn_scope (wpIn_mono (ka ρ a w F hwm hi hF) (by rintro e' a' w' ⟨ρ', he, hi', hst⟩; cases he with | panic hv => exact ⟨ρ', .panic hv, hi', hst⟩))⟩
theorem WC.skip (h : Q .normal s) : WC X n wm rd .skip s Q := ⟨_, _, h, fun ρ _ _ _ _ hi _ => wpIn_skip ⟨ρ, .normal, hi, Stp.refl _ _ _ _⟩⟩
theorem WC.label {l : Nat} (h : Q .normal s) : WC X n wm rd (.label l) s Q := ⟨_, _, h, fun ρ _ _ _ _ hi _ => wpIn_label ⟨ρ, .normal, hi, Stp.refl _ _ _ _⟩⟩
theorem WC.ret (h : Q .ret s) : WC X n wm rd .ret s Q := ⟨_, _, h, fun ρ _ _ _ _ hi _ => wpIn_ret ⟨ρ, .ret, hi, Stp.refl _ _ _ _⟩⟩
theorem WC.exit {id : Nat} (h : Q (.exit id) s) : WC X n wm rd (.exit id) s Q := ⟨_, _, h, fun ρ _ _ _ _ hi _ => wpIn_exit ⟨ρ, .exit id, hi, Stp.refl _ _ _ _⟩⟩
theorem WC.loop {c : Code} (h : WL X n wm rd c s Q) : WC X n wm rd (.loop c) s Q :=
  let ⟨e, s', hq, k⟩ := h; ⟨e, s', hq, fun ρ a w F hwm hi hF => wpIn_of_loopIn (k ρ a w F hwm hi hF)⟩
theorem WC.region {id : Nat} {ops : Array Oper} (h : WO X n wm rd ops ops.toList s Q) : WC X n wm rd (.region id ops false) s Q := by
  obtain ⟨e, s', hq, k⟩ := h
  exact ⟨e, s', hq, fun ρ a w F hwm hi hF => wpIn_region_list (k _ hi hwm hF fun _ _ _ hp => hp)⟩
theorem WL.step {c : Code} (h : WC X n wm rd c s (LoopK X n wm rd c Q)) : WL X n wm rd c s Q := by
  obtain ⟨e, s1, hq, ka⟩ := h
  by_cases hn : e = .normal
  · subst hn
    obtain ⟨e2, s2, hq2, kb⟩ := hq.out
    refine ⟨e2, s2, hq2, fun ρ a w F hwm hi hF => loopIn_step (wpIn_mono (ka ρ a w F hwm hi hF) ?_)⟩
    rintro e' a' w' ⟨ρ', he, hi', hst⟩
    cases he
    have := kb ρ' a' w' F (Nat.le_trans hwm hst.size) hi' (hF.mono hst.ext)
    intro b k cs h1 h2 h3
    obtain ⟨e3, a3, w3, hp, harr⟩ := this b k cs h1 h2 h3
    exact ⟨e3, a3, w3, PostC.trans hi.rel.lt hst hp, harr⟩
  · refine ⟨e, s1, ?_, fun ρ a w F hwm hi hF => loopIn_step (wpIn_mono (ka ρ a w F hwm hi hF) ?_)⟩
    · cases e with
      | normal => exact absurd rfl hn
      | _ => exact hq.out
    · rintro e' a' w' ⟨ρ', he, hi', hst⟩
      exact he.not_normal hn ⟨ρ', he, hi', hst⟩
def RoundKd {α : Type} (n : Nat) (S : α → Fs) (m : α → Nat) (x : α) (Q : XX → Fs → Prop) : XX → Fs → Prop := fun e s =>
  match e with
  | .normal => ∃ y, m y < m x ∧ Weak n (S y) s
  | e => Q e s
structure RoundK {α : Type} (n : Nat) (S : α → Fs) (m : α → Nat) (x : α) (Q : XX → Fs → Prop) (e : XX) (s : Fs) : Prop where
  out : RoundKd n S m x Q e s
def RetKd (X : Ctx) (fn : Func) (Q : AEnd → H → Prop) : XX → Fs → Prop := fun e s => s.ds = [] ∧
  match e with
  | .normal => ∃ v, aresult X.P fn s.fr s.h = some v ∧ Q (.ret v) s.h
  | .ret => ∃ v, aresult X.P fn s.fr s.h = some v ∧ Q (.ret v) s.h
  | .panic v => Q (.pan v) s.h
  | _ => False
structure RetK (X : Ctx) (fn : Func) (Q : AEnd → H → Prop) (e : XX) (s : Fs) : Prop where
  out : RetKd X fn Q e s
theorem WF.enter {f : FuncId} {fn : Func} {c : Code} {args : Array Value} {h : H} {Q : AEnd → H → Prop} (hf : X.fns.get f = some fn) (hb : fn.body = some c) (hn : args.toList.length ≤ fn.ntmps)
    (k : WC X fn.ntmps wm none c { fr := frameOf args.toList 0 .nil, ds := [], h := h } (RetK X fn Q)) : WF X f args wm h Q := by
  obtain ⟨e, s', ⟨hds, hq⟩, ka⟩ := k
  have main : ∀ (E : AEnd) (pm : PM), xPM e = some pm → evLeave (cfg X fun _ => false) (fun _ => none) fn wm pm s' = some (.fin E s'.h) → JobOK X (.call f args wm h) (.fin E s'.h) := by
    intro E pm hpm hl
    have hj := evLeave_sound (C := cfg X fun _ => false) (ih := fun _ => none) (fun _ _ h => by cases h) hl
    intro ρ args' w hwm hr hv
    have hi : Inv ρ fn.ntmps { fr := frameOf args.toList 0 .nil, ds := [], h := h } { tmps := args' ++ Array.replicate (fn.ntmps - args'.size) undef, defers := [] } w :=
      ⟨hr, frameOf_sound hv hn, .nil⟩
    refine callsIn_of_wp_marks (X.ok f fn hf).1 hb trivial (wpIn_mono (ka ρ _ w Fence.wide hwm hi rfl) ?_)
    rintro e' a' w' ⟨ρ', he, hi', hst⟩
    cases he with
    | normal => cases hpm; exact hj ρ' _ a' .returning w' _ (Nat.le_trans hwm hst.size) hi' .ret (fun _ _ hp => PostF.trans hr.lt hst hp)
    | ret => cases hpm; exact hj ρ' _ a' .returning w' _ (Nat.le_trans hwm hst.size) hi' .ret (fun _ _ hp => PostF.trans hr.lt hst hp)
    | panic hv' => cases hpm; exact hj ρ' _ a' _ w' _ (Nat.le_trans hwm hst.size) hi' (.pan hv') (fun _ _ hp => PostF.trans hr.lt hst hp)
    | exit id => cases hpm
    | goto l => cases hpm
  cases e with
  | normal =>
    obtain ⟨v, hv, hq⟩ := hq
    exact ⟨_, _, hq, main _ .ret rfl (by
      have hv' : aresult (cfg X fun _ => false).X.P fn s'.fr s'.h = some v := hv
      unfold evLeave; rw [hds]; simp only [hv'])⟩
  | ret =>
    obtain ⟨v, hv, hq⟩ := hq
    exact ⟨_, _, hq, main _ .ret rfl (by
      have hv' : aresult (cfg X fun _ => false).X.P fn s'.fr s'.h = some v := hv
      unfold evLeave; rw [hds]; simp only [hv'])⟩
  | panic v => exact ⟨_, _, hq, main _ (.pan v) rfl (by unfold evLeave; rw [hds])⟩
  | exit _ => exact hq.elim
  | goto _ => exact hq.elim
abbrev Pure (X : Ctx) (f : FuncId) (args : Array Value) (h : H) (v : Value) : Prop := ∀ wm, JobOK X (.call f args wm h) (.fin (.ret v) h)
theorem WF.pure {f : FuncId} {args : Array Value} {h : H} {v : Value} (hp : plain v = true) (k : WF X f args h.size h (fun e _ => e = .ret v)) : Pure X f args h v := by
  obtain ⟨e, h', rfl, hj⟩ := k
  intro wm ρ args' w hwm hr hv
  refine (hj ρ args' w (Nat.le_refl _) hr hv).mono ?_
  rintro e' w' ⟨ρ', he, hr', hst⟩
  cases he with
  | ret hv' =>
    rw [VR.plain_eq hp hv']
    obtain ⟨q1, q2⟩ := drop_call hr hst
    exact ⟨ρ, .ret (VR.plain_refl hp), q1, q2 wm⟩
variable {ops : Array Oper} {l : List Oper} {o : Oper}
theorem WO.nil (h : Q .normal s) : WO X n wm rd ops [] s Q := ⟨_, _, h, fun _ ρ _ a w hi _ _ hq => hq .normal a w ⟨ρ, .normal, hi, Stp.refl _ _ _ _⟩⟩
theorem WO.cons {ih : Job → Option Res} (HI : ∀ j r, ih j = some r → JobOK X j r) {s1 : Fs} (h : astep X (fun _ => false) ih n wm rd ops.toList o s = some (.normal, s1)) (k : WO X n wm rd ops l s1 Q) : WO X n wm rd ops (o :: l) s Q := by
  obtain ⟨e, s', hq, hk⟩ := k
  refine ⟨e, s', hq, fun Q' ρ F a w hi hwm hF hq' => ?_⟩
  refine astep_sound HI h hi hwm hF (fun _ ρ' a' w' hi' st' => ?_) (fun v he => by cases he)
  refine hk Q' hi' (Nat.le_trans hwm st'.size) (hF.mono st'.ext) fun e' a2 w2 hp => ?_
  obtain ⟨ρ2, q1, q2, q3⟩ := hp
  exact hq' e' a2 w2 ⟨ρ2, q1, q2, st'.trans hi.rel.lt q3⟩
theorem none_ok (X : Ctx) : ∀ (j : Job) (r : Res), (fun _ : Job => (none : Option Res)) j = some r → JobOK X j r := fun _ _ h => by cases h
def GuardOn (ops : Array Oper) (o : Oper) (fr : Fr) : Prop := okG ops.toList o fr = true ∧ awanted ops.toList o fr = true
def GuardOff (ops : Array Oper) (o : Oper) (fr : Fr) : Prop := okG ops.toList o fr = true ∧ awanted ops.toList o fr = false
theorem GuardOn.none {ops : Array Oper} {o : Oper} {fr : Fr} (h : o.guard = none) : GuardOn ops o fr := by unfold GuardOn okG awanted; rw [h]; exact ⟨rfl, rfl⟩
theorem gN {ops : Array Oper} {d : Option Tmp} {op : Op} {ty : TypeId} {p : String} {af : Array Edge} {fr : Fr} : GuardOn ops ⟨d, op, ty, p, af, Option.none⟩ fr := GuardOn.none rfl
theorem GuardOn.some {ops : Array Oper} {o : Oper} {fr : Fr} {j : Nat} {want b : Bool} {og : Oper} {d : Tmp} (h : o.guard = some (j, want)) (hj : ops.toList[j]? = some og) (hd : og.dst = some d) (hv : fr.at d = .bool b) (hb : b = want) : GuardOn ops o fr := by
  unfold GuardOn okG awanted ayield; rw [h]; dsimp only; rw [hj]; dsimp only; rw [hd]; dsimp only; rw [hv, hb]; cases want <;> exact ⟨rfl, rfl⟩
theorem GuardOff.yes {ops : Array Oper} {o : Oper} {fr : Fr} {j : Nat} {b : Bool} {og : Oper} {d : Tmp} (h : o.guard = Option.some (j, true)) (hj : ops.toList[j]? = Option.some og) (hd : og.dst = Option.some d) (hv : fr.at d = .bool b) (hb : b = false) : GuardOff ops o fr := by
  unfold GuardOff okG awanted ayield; rw [h]; dsimp only; rw [hj]; dsimp only; rw [hd]; dsimp only; rw [hv, hb]; exact ⟨rfl, rfl⟩
theorem GuardOff.no {ops : Array Oper} {o : Oper} {fr : Fr} {j : Nat} {b : Bool} {og : Oper} {d : Tmp} (h : o.guard = Option.some (j, false)) (hj : ops.toList[j]? = Option.some og) (hd : og.dst = Option.some d) (hv : fr.at d = .bool b) (hb : b = true) : GuardOff ops o fr := by
  unfold GuardOff okG awanted ayield; rw [h]; dsimp only; rw [hj]; dsimp only; rw [hd]; dsimp only; rw [hv, hb]; exact ⟨rfl, rfl⟩
def dstOk (n : Nat) (d : Option Tmp) : Bool :=
  match d with
  | none => true
  | some d => Nat.blt d n
theorem aput_ok {fr : Fr} {ds : List Deferred} {h : H} {d : Option Tmp} {v : Value} (hd : dstOk n d = true) : aput n ⟨fr, ds, h, none⟩ d v = some ⟨setd fr d v, ds, h, none⟩ := by
  rw [aput_eq]
  cases d with
  | none => rfl
  | some d =>
    unfold dstOk at hd
    dsimp only at hd ⊢
    rw [hd]; rfl
variable {fr : Fr} {ds : List Deferred} {h h1 : H}
theorem WO.val {v : Value} {E : Eff} (hg : GuardOn ops o fr) (hd : dstOk n o.dst = true) (ha : aop X h (aev fr) o = some (.val v, E)) (hE : E.apply wm h = some h1)
    (k : WO X n wm rd ops l ⟨setd fr o.dst v, ds, h1, none⟩ Q) : WO X n wm rd ops (o :: l) ⟨fr, ds, h, none⟩ Q := by
  refine WO.cons (none_ok X) ?_ k
  unfold astep
  rw [hg.1, hg.2]
  dsimp only [Bool.not_true, cond_false, cond_true]
  rw [ha]
  dsimp only [Bool.not_true, cond_false, cond_true]
  rw [hE]
  unfold aupon
  dsimp only [withH_eq]
  rw [aput_ok hd]
  rfl
theorem WO.unit {E : Eff} (hg : GuardOn ops o fr) (hd : dstOk n o.dst = true) (ha : aop X h (aev fr) o = some (.skip, E)) (hE : E.apply wm h = some h1)
    (k : WO X n wm rd ops l ⟨setd fr o.dst undef, ds, h1, none⟩ Q) : WO X n wm rd ops (o :: l) ⟨fr, ds, h, none⟩ Q := by
  refine WO.cons (none_ok X) ?_ k
  unfold astep
  rw [hg.1, hg.2]
  dsimp only [Bool.not_true, cond_false, cond_true]
  rw [ha]
  dsimp only [Bool.not_true, cond_false, cond_true]
  rw [hE]
  unfold aupon
  dsimp only [withH_eq]
  rw [aput_ok hd]
  rfl
theorem WO.off (hg : GuardOff ops o fr) (hd : dstOk n o.dst = true) (k : WO X n wm rd ops l ⟨setd fr o.dst undef, ds, h, none⟩ Q) : WO X n wm rd ops (o :: l) ⟨fr, ds, h, none⟩ Q := by
  refine WO.cons (none_ok X) ?_ k
  unfold astep
  rw [hg.1, hg.2]
  dsimp only [Bool.not_true, cond_false, cond_true]
  rw [aput_ok hd]
  rfl
open Classical in
def oneJob (j : Job) (r : Res) : Job → Option Res := fun j' => if j' = j then some r else none
theorem oneJob_ok {j : Job} {r : Res} (h : JobOK X j r) : ∀ j' r', oneJob j r j' = some r' → JobOK X j' r' := by
  intro j' r' e
  unfold oneJob at e
  split at e
  · rename_i hj; cases e; rw [hj]; exact h
  · cases e
theorem oneJob_eq (j : Job) (r : Res) : oneJob j r j = some r := by unfold oneJob; rw [if_pos rfl]
theorem WO.call {f : FuncId} {args : Array Value} {E : Eff} {v : Value} {h2 : H} (hg : GuardOn ops o fr) (hd : dstOk n o.dst = true) (ha : aop X h (aev fr) o = some (.enter f args, E)) (hE : E.apply wm h = some h1)
    (hc : JobOK X (.call f args wm h1) (.fin (.ret v) h2)) (k : WO X n wm rd ops l ⟨setd fr o.dst v, ds, h2, none⟩ Q) : WO X n wm rd ops (o :: l) ⟨fr, ds, h, none⟩ Q := by
  refine WO.cons (oneJob_ok hc) ?_ k
  unfold astep
  rw [hg.1, hg.2]
  dsimp only [Bool.not_true, cond_false, cond_true]
  rw [ha]
  dsimp only [Bool.not_true, cond_false, cond_true]
  rw [hE]
  unfold aupon
  dsimp only [withH_eq, cond_false]
  rw [oneJob_eq]
  dsimp only
  rw [aput_ok hd]
  rfl
end Go.Abs
end
end
section
noncomputable section
namespace Go.Abs
variable {X : Ctx} {P : Program} {h : H} {fr : Fr} {ev : Operand → Option Value} {d : Option Tmp} {ty : TypeId} {p : String} {af : Array Edge} {g : Option (Nat × Bool)}
theorem at_set (fr : Fr) (d t : Nat) (v : Value) : Fr.at (Tr.set fr d v) t = if t = d then v else Fr.at fr t := by
  unfold Fr.at; rw [Tr.get_set]; by_cases h : t = d <;> simp [h]
theorem at_nil (t : Nat) : Fr.at .nil t = undef := rfl
theorem frameOf_nil (i : Nat) (fr : Fr) : frameOf [] i fr = fr := rfl
theorem frameOf_cons (v : Value) (vs : List Value) (i : Nat) (fr : Fr) : frameOf (v :: vs) i fr = frameOf vs (i + 1) (Tr.set fr i v) := rfl
def anyF (n : Nat) : Fr := anyAll (List.range n) .nil
theorem at_anyF (n t : Nat) : (anyF n).at t = if t < n then anyV else undef := by
  unfold anyF; rw [anyAll_at]; simp [at_nil]
theorem aev_tmp (fr : Fr) (t : Nat) : aev fr (.tmp t) = bif isAny (fr.at t) then none else some (fr.at t) := rfl
theorem aev_const (fr : Fr) (v : Value) : aev fr (.const v) = bif plain v then some v else none := rfl
theorem aev_func (fr : Fr) (f : FuncId) : aev fr (.func f) = some (.func (.func f) #[] #[]) := rfl
theorem aop_move (x : Operand) : aop X h ev ⟨d, .move x, ty, p, af, g⟩ = vN (ev x) := rfl
theorem aop_assign (x : Operand) : aop X h ev ⟨d, .assign x, ty, p, af, g⟩ = vN (ev x) := rfl
theorem aop_binOp (op : BinOp) (t : TypeId) (x y : Operand) (yt : TypeId) : aop X h ev ⟨d, .binOp op t x y yt, ty, p, af, g⟩ = match ev x, ev y with
  | some a, some b => abin X.P op t x y a b
  | _, _ => none := rfl
theorem aop_pick (c a b : Operand) : aop X h ev ⟨d, .pick c a b, ty, p, af, g⟩ = match ev c with
  | some (.bool true) => vN (ev a)
  | some (.bool false) => vN (ev b)
  | _ => none := rfl
theorem aop_unOp (op : UnOp) (t : TypeId) (x : Operand) : aop X h ev ⟨d, .unOp op t x, ty, p, af, g⟩ = match ev x with
  | some a => bif plain a then pN (pval X.P (Op.unary op a)) else none
  | none => none := rfl
theorem aop_load (t : TypeId) (x : Operand) : aop X h ev ⟨d, .load t x, ty, p, af, g⟩ = match ev x with
  | some v => vN (aload X.P h t v)
  | none => none := rfl
theorem aop_store (t : TypeId) (a x : Operand) : aop X h ev ⟨d, .store t a x, ty, p, af, g⟩ = match ev a, ev x with
  | some a, some x => sE (astore X.P h t a x)
  | _, _ => none := rfl
theorem aop_box (t : TypeId) (x : Operand) : aop X h ev ⟨d, .box t x, ty, p, af, g⟩ = match ev x with
  | some v => some (.val (freshPtr h), .new (.row v.cells.toList true 0))
  | none => none := rfl
theorem aop_alloc (t : TypeId) : aop X h ev ⟨d, .alloc t, ty, p, af, g⟩ = match zeroP X.P t with
  | some z => some (.val (freshPtr h), .new (.row z.cells.toList true 0))
  | none => none := rfl
theorem aop_fieldAddr (t : TypeId) (x : Operand) (f : Nat) : aop X h ev ⟨d, .fieldAddr t x f, ty, p, af, g⟩ = match ev x with
  | some v => vN (afield X.P t v f)
  | none => none := rfl
theorem aop_indexAddr (t : TypeId) (x i : Operand) : aop X h ev ⟨d, .indexAddr t x i, ty, p, af, g⟩ = match ev x, ev i with
  | some x, some i => vN (aindex X.P t x i)
  | _, _ => none := rfl
theorem aop_extract (x : Operand) (k : Nat) : aop X h ev ⟨d, .extract x k, ty, p, af, g⟩ = match ev x with
  | some x => vN (aextract x k)
  | none => none := rfl
theorem aop_builtin (b : Builtin) (xs : Array Operand) (ts : Array TypeId) : aop X h ev ⟨d, .call { callee := .builtin b, args := xs, argTypes := ts }, ty, p, af, g⟩ = match evs ev xs.toList with
  | some args => abuiltin X.P h b ts ty args
  | none => none := by
  show (match Callee.builtin b, evs ev xs.toList with
    | .builtin b, some args => abuiltin X.P h b ts ty args
    | .value f, some args => match ev f with
      | some f => acall X h f args
      | none => none
    | _, _ => none) = _
  cases evs ev xs.toList <;> rfl
theorem aop_value (f : Operand) (xs : Array Operand) (ts : Array TypeId) : aop X h ev ⟨d, .call { callee := .value f, args := xs, argTypes := ts }, ty, p, af, g⟩ = match evs ev xs.toList with
  | some args => match ev f with
    | some f => acall X h f args
    | none => none
  | none => none := by
  show (match Callee.value f, evs ev xs.toList with
    | .builtin b, some args => abuiltin X.P h b ts ty args
    | .value f, some args => match ev f with
      | some f => acall X h f args
      | none => none
    | _, _ => none) = _
  cases evs ev xs.toList <;> rfl
theorem vN_some (v : Value) : vN (some v) = some (.val v, .none) := rfl
theorem evs_nil : evs ev [] = some [] := rfl
theorem evs_cons {x : Operand} {xs : List Operand} {v : Value} {vs : List Value} (h1 : ev x = some v) (h2 : evs ev xs = some vs) : evs ev (x :: xs) = some (v :: vs) := by
  show (match ev x, evs ev xs with | some v, some vs => some (v :: vs) | _, _ => none) = _
  rw [h1, h2]
theorem abin_cmp {op : BinOp} {t : TypeId} {x y : Operand} {k : IntKind} {a b : Int} {c : Bool} (ho : Op.intCmp op a b = pure (.bool c)) (h1 : op = .eql ∨ op = .neq ∨ op = .lss ∨ op = .leq ∨ op = .gtr ∨ op = .geq) : abin P op t x y (.int k a) (.int k b) = some (.val (.bool c), .none) := by
  have hp : (plain (.int k a) && plain (.int k b)) = true := rfl
  unfold abin
  rw [hp, cond_true]
  have hb : binOp op t (.int k a) (.int k b) = pure (.bool c) := by
    rcases h1 with rfl | rfl | rfl | rfl | rfl | rfl <;> simp [binOp, ho]
  have hg : (do eqGuard op t x y (.int k a) (.int k b); binOp op t (.int k a) (.int k b) : Sem Value) = pure (.bool c) := by
    rw [hb]
    rcases h1 with rfl | rfl | rfl | rfl | rfl | rfl <;> rfl
  rw [hg]; rfl
theorem abin_eql {t : TypeId} {x y : Operand} {k : IntKind} {a b : Int} : abin P .eql t x y (.int k a) (.int k b) = some (.val (.bool (a == b)), .none) := abin_cmp rfl (by simp)
theorem abin_neq {t : TypeId} {x y : Operand} {k : IntKind} {a b : Int} : abin P .neq t x y (.int k a) (.int k b) = some (.val (.bool (a != b)), .none) := abin_cmp rfl (by simp)
theorem abin_lss {t : TypeId} {x y : Operand} {k : IntKind} {a b : Int} : abin P .lss t x y (.int k a) (.int k b) = some (.val (.bool (decide (a < b))), .none) := abin_cmp rfl (by simp)
theorem abin_leq {t : TypeId} {x y : Operand} {k : IntKind} {a b : Int} : abin P .leq t x y (.int k a) (.int k b) = some (.val (.bool (decide (a ≤ b))), .none) := abin_cmp rfl (by simp)
theorem abin_gtr {t : TypeId} {x y : Operand} {k : IntKind} {a b : Int} : abin P .gtr t x y (.int k a) (.int k b) = some (.val (.bool (decide (a > b))), .none) := abin_cmp rfl (by simp)
theorem abin_geq {t : TypeId} {x y : Operand} {k : IntKind} {a b : Int} : abin P .geq t x y (.int k a) (.int k b) = some (.val (.bool (decide (a ≥ b))), .none) := abin_cmp rfl (by simp)
theorem abin_arith {op : BinOp} {t : TypeId} {x y : Operand} {k : IntKind} {a b c : Int} (h1 : op = .add ∧ c = a + b ∨ op = .sub ∧ c = a - b ∨ op = .mul ∧ c = a * b) : abin P op t x y (.int k a) (.int k b) = some (.val (.int k (k.wrap c)), .none) := by
  have hp : (plain (.int k a) && plain (.int k b)) = true := rfl
  unfold abin
  rw [hp, cond_true]
  have hb : binOp op t (.int k a) (.int k b) = pure (.int k (k.wrap c)) := by
    rcases h1 with ⟨rfl, rfl⟩ | ⟨rfl, rfl⟩ | ⟨rfl, rfl⟩ <;> simp [binOp, Op.intArith]
  have hg : (do eqGuard op t x y (.int k a) (.int k b); binOp op t (.int k a) (.int k b) : Sem Value) = pure (.int k (k.wrap c)) := by
    rw [hb]
    rcases h1 with ⟨rfl, rfl⟩ | ⟨rfl, rfl⟩ | ⟨rfl, rfl⟩ <;> rfl
  rw [hg]; rfl
end Go.Abs
end
end
section
noncomputable section
namespace Go.Abs
variable {X : Ctx} {n wm : Nat} {rd : Option Nat} {s : Fs} {Q : XX → Fs → Prop}
theorem SeqK.nrm {b : Code} (h : WC X n wm rd b s Q) : SeqK X n wm rd b Q .normal s := ⟨h⟩
theorem SeqK.ret {b : Code} (h : Q .ret s) : SeqK X n wm rd b Q .ret s := ⟨h⟩
theorem SeqK.exit {b : Code} {id : Nat} (h : Q (.exit id) s) : SeqK X n wm rd b Q (.exit id) s := ⟨h⟩
theorem SeqK.goto {b : Code} {id : Nat} (h : Q (.goto id) s) : SeqK X n wm rd b Q (.goto id) s := ⟨h⟩
theorem SeqK.panic {b : Code} {v : Value} (h : Q (.panic v) s) : SeqK X n wm rd b Q (.panic v) s := ⟨h⟩
theorem LoopK.nrm {b : Code} (h : WL X n wm rd b s Q) : LoopK X n wm rd b Q .normal s := ⟨h⟩
theorem LoopK.ret {b : Code} (h : Q .ret s) : LoopK X n wm rd b Q .ret s := ⟨h⟩
theorem LoopK.exit {b : Code} {id : Nat} (h : Q (.exit id) s) : LoopK X n wm rd b Q (.exit id) s := ⟨h⟩
theorem LoopK.panic {b : Code} {v : Value} (h : Q (.panic v) s) : LoopK X n wm rd b Q (.panic v) s := ⟨h⟩
theorem BlkK.nrm {id : Nat} (h : Q .normal s) : BlkK id Q .normal s := ⟨h⟩
theorem BlkK.ret {id : Nat} (h : Q .ret s) : BlkK id Q .ret s := ⟨h⟩
theorem BlkK.panic {id : Nat} {v : Value} (h : Q (.panic v) s) : BlkK id Q (.panic v) s := ⟨h⟩
theorem BlkK.here {id : Nat} (h : Q .normal s) : BlkK id Q (.exit id) s := ⟨by show if _ then _ else _; rw [if_pos rfl]; exact h⟩
theorem BlkK.other {id k : Nat} (hk : Nat.beq k id = false) (h : Q (.exit k) s) : BlkK id Q (.exit k) s := ⟨by
  show if _ then _ else _
  rw [if_neg fun e => by rw [e, Nat.beq_refl] at hk; cases hk]
  exact h⟩
theorem ScpK.nrm (h : Q .normal s) : ScpK Q .normal s := ⟨h⟩
theorem ScpK.ret (h : Q .ret s) : ScpK Q .ret s := ⟨h⟩
theorem ScpK.exit {id : Nat} (h : Q (.exit id) s) : ScpK Q (.exit id) s := ⟨h⟩
theorem ScpK.panic {v : Value} (h : Q (.panic v) s) : ScpK Q (.panic v) s := ⟨h⟩
theorem RoundK.nrm {α : Type} {S : α → Fs} {m : α → Nat} {x : α} (y : α) (hm : m y < m x) (hw : Weak n (S y) s) : RoundK n S m x Q .normal s := ⟨y, hm, hw⟩
theorem RoundK.ret {α : Type} {S : α → Fs} {m : α → Nat} {x : α} (h : Q .ret s) : RoundK n S m x Q .ret s := ⟨h⟩
theorem RoundK.exit {α : Type} {S : α → Fs} {m : α → Nat} {x : α} {id : Nat} (h : Q (.exit id) s) : RoundK n S m x Q (.exit id) s := ⟨h⟩
theorem RoundK.panic {α : Type} {S : α → Fs} {m : α → Nat} {x : α} {v : Value} (h : Q (.panic v) s) : RoundK n S m x Q (.panic v) s := ⟨h⟩
theorem aresult1 {P : Program} {fn : Func} {fr : Fr} {h : H} {t : Nat} {v : Value} (hr : fn.results.toList = [.tmp t]) (hv : aev fr (.tmp t) = some v) : aresult P fn fr h = some v := by
  unfold aresult; rw [hr]
  have : ares P fr h [.tmp t] = some [v] := by
    show (match ares1 P fr h (.tmp t), ares P fr h [] with | some v, some vs => some (v :: vs) | _, _ => none) = _
    have e : ares1 P fr h (.tmp t) = some v := hv
    rw [e]; rfl
  rw [this]
theorem RetK.ret1 {fn : Func} {R : AEnd → H → Prop} {fr : Fr} {h : H} {wr : Option Nat} {t : Nat} {v : Value} (hr : fn.results.toList = [.tmp t]) (hv : aev fr (.tmp t) = some v) (k : R (.ret v) h) : RetK X fn R .ret ⟨fr, [], h, wr⟩ :=
  ⟨⟨rfl, v, aresult1 hr hv, k⟩⟩
theorem WF.begin {f : FuncId} {fn : Func} {c : Code} {args : List Value} {h : H} {n : Nat} {R : AEnd → H → Prop} (hf : X.fns.get f = some fn) (hb : fn.body = some c) (hnt : fn.ntmps = n) (hn : args.length ≤ n)
    (k : WC X n wm none c ⟨frameOf args 0 .nil, [], h, none⟩ (RetK X fn R)) : WF X f args.toArray wm h R := by
  subst hnt
  exact WF.enter hf hb hn k
variable {ops : Array Oper} {l : List Oper} {fr : Fr} {ds : List Deferred} {h h1 : H} {d : Nat} {op : Op} {ty : TypeId} {p : String} {af : Array Edge} {g : Option (Nat × Bool)}
theorem WO.v {v : Value} {E : Eff} (hg : GuardOn ops ⟨some d, op, ty, p, af, g⟩ fr) (hd : Nat.blt d n = true) (ha : aop X h (aev fr) ⟨some d, op, ty, p, af, g⟩ = some (.val v, E)) (hE : E.apply wm h = some h1)
    (k : WO X n wm rd ops l ⟨Tr.set fr d v, ds, h1, none⟩ Q) : WO X n wm rd ops (⟨some d, op, ty, p, af, g⟩ :: l) ⟨fr, ds, h, none⟩ Q := WO.val hg hd ha hE k
theorem WO.u {E : Eff} (hg : GuardOn ops ⟨none, op, ty, p, af, g⟩ fr) (ha : aop X h (aev fr) ⟨none, op, ty, p, af, g⟩ = some (.skip, E)) (hE : E.apply wm h = some h1)
    (k : WO X n wm rd ops l ⟨fr, ds, h1, none⟩ Q) : WO X n wm rd ops (⟨none, op, ty, p, af, g⟩ :: l) ⟨fr, ds, h, none⟩ Q := WO.unit hg rfl ha hE k
theorem WO.o (hg : GuardOff ops ⟨some d, op, ty, p, af, g⟩ fr) (hd : Nat.blt d n = true) (k : WO X n wm rd ops l ⟨Tr.set fr d undef, ds, h, none⟩ Q) : WO X n wm rd ops (⟨some d, op, ty, p, af, g⟩ :: l) ⟨fr, ds, h, none⟩ Q := WO.off hg hd k
theorem WO.c {f : FuncId} {args : Array Value} {E : Eff} {v : Value} {h2 : H} (hg : GuardOn ops ⟨some d, op, ty, p, af, g⟩ fr) (hd : Nat.blt d n = true) (ha : aop X h (aev fr) ⟨some d, op, ty, p, af, g⟩ = some (.enter f args, E)) (hE : E.apply wm h = some h1)
    (hc : JobOK X (.call f args wm h1) (.fin (.ret v) h2)) (k : WO X n wm rd ops l ⟨Tr.set fr d v, ds, h2, none⟩ Q) : WO X n wm rd ops (⟨some d, op, ty, p, af, g⟩ :: l) ⟨fr, ds, h, none⟩ Q := WO.call hg hd ha hE hc k
theorem WO.mv {x : Operand} {v : Value} (hg : GuardOn ops ⟨some d, .move x, ty, p, af, g⟩ fr) (hd : Nat.blt d n = true) (hx : aev fr x = some v) (k : WO X n wm rd ops l ⟨Tr.set fr d v, ds, h, none⟩ Q) :
    WO X n wm rd ops (⟨some d, .move x, ty, p, af, g⟩ :: l) ⟨fr, ds, h, none⟩ Q := WO.v hg hd (by rw [aop_move, hx, vN_some]) rfl k
theorem WO.as {x : Operand} {v : Value} (hg : GuardOn ops ⟨some d, .assign x, ty, p, af, g⟩ fr) (hd : Nat.blt d n = true) (hx : aev fr x = some v) (k : WO X n wm rd ops l ⟨Tr.set fr d v, ds, h, none⟩ Q) :
    WO X n wm rd ops (⟨some d, .assign x, ty, p, af, g⟩ :: l) ⟨fr, ds, h, none⟩ Q := WO.v hg hd (by rw [aop_assign, hx, vN_some]) rfl k
theorem WO.pickT {c x y : Operand} {b : Bool} {v : Value} (hg : GuardOn ops ⟨some d, .pick c x y, ty, p, af, g⟩ fr) (hd : Nat.blt d n = true) (hc : aev fr c = some (.bool b)) (hb : b = true) (hv : aev fr x = some v)
    (k : WO X n wm rd ops l ⟨Tr.set fr d v, ds, h, none⟩ Q) : WO X n wm rd ops (⟨some d, .pick c x y, ty, p, af, g⟩ :: l) ⟨fr, ds, h, none⟩ Q := by
  subst hb
  exact WO.v hg hd (by rw [aop_pick, hc]; dsimp only; rw [hv, vN_some]) rfl k
theorem WO.pickF {c x y : Operand} {b : Bool} {v : Value} (hg : GuardOn ops ⟨some d, .pick c x y, ty, p, af, g⟩ fr) (hd : Nat.blt d n = true) (hc : aev fr c = some (.bool b)) (hb : b = false) (hv : aev fr y = some v)
    (k : WO X n wm rd ops l ⟨Tr.set fr d v, ds, h, none⟩ Q) : WO X n wm rd ops (⟨some d, .pick c x y, ty, p, af, g⟩ :: l) ⟨fr, ds, h, none⟩ Q := by
  subst hb
  exact WO.v hg hd (by rw [aop_pick, hc]; dsimp only; rw [hv, vN_some]) rfl k
theorem WC.condT {c : Operand} {a b : Code} {t : Bool} (hc : aev s.fr c = some (.bool t)) (ht : t = true) (k : WC X n wm rd a s Q) : WC X n wm rd (.cond c a b) s Q := WC.cond hc (fun _ => k) fun e => by rw [ht] at e; cases e
theorem WC.condF {c : Operand} {a b : Code} {t : Bool} (hc : aev s.fr c = some (.bool t)) (ht : t = false) (k : WC X n wm rd b s Q) : WC X n wm rd (.cond c a b) s Q := WC.cond hc (fun e => by rw [ht] at e; cases e) fun _ => k
theorem acall_fn {f : FuncId} {fn : Func} {vs : List Value} (hf : X.fns.get f = some fn) : acall X h (.func (.func f) #[] #[]) vs = some (.enter f vs.toArray, .none) := by
  unfold acall
  simp [hf]
structure Slc (h : H) (a : Option Addr) (len sz : Nat) (cells : List Value) : Prop where
  clen : cells.length = len * sz
  mem : len = 0 ∨ ∃ i o cs own z, a = some ⟨i, o, none⟩ ∧ h.at i = .row cs own z ∧ o + len * sz ≤ cs.length ∧ (cs.drop o).take (len * sz) = cells
theorem Slc.get {h : H} {a : Option Addr} {len sz : Nat} {cells : List Value} (s : Slc h a len sz cells) (hl : 0 < len) : ∃ i o cs own z, a = some ⟨i, o, none⟩ ∧ h.at i = .row cs own z ∧ o + len * sz ≤ cs.length ∧ ∀ j, j < len * sz → cs[o + j]? = cells[j]? := by
  rcases s.mem with z | ⟨i, o, cs, own, z, h1, h2, h3, h4⟩
  · omega
  · refine ⟨i, o, cs, own, z, h1, h2, h3, fun j hj => ?_⟩
    rw [← h4, List.getElem?_take_of_lt hj, List.getElem?_drop]
structure Grow (h h' : H) : Prop where
  size : h.size ≤ h'.size
  keep : ∀ i, i < h.size → h'.at i = h.at i
theorem Grow.refl (h : H) : Grow h h := ⟨Nat.le_refl _, fun _ _ => rfl⟩
theorem Grow.trans {a b c : H} (x : Grow a b) (y : Grow b c) : Grow a c := ⟨Nat.le_trans x.size y.size, fun i hi => (y.keep i (Nat.lt_of_lt_of_le hi x.size)).trans (x.keep i hi)⟩
theorem Grow.push {a b : H} (x : Grow a b) (A : AObj) : Grow a (b.push A) := ⟨Nat.le_succ_of_le x.size, fun i hi => by rw [H.at_push, if_neg (by have := x.size; omega)]; exact x.keep i hi⟩
theorem Grow.put {a b : H} (x : Grow a b) {i : Nat} (hi : a.size ≤ i) (A : AObj) : Grow a (b.put i A) := ⟨x.size, fun j hj => by rw [H.at_put, if_neg (by omega)]; exact x.keep j hj⟩
theorem live_lt {h : H} {i : Nat} {A : AObj} (e : h.at i = A) (hl : A.live = true) : i < h.size := by
  rcases Nat.lt_or_ge i h.size with z | z
  · exact z
  · rw [H.at_ge z] at e; subst e; cases hl
theorem Slc.grow {h h' : H} (g : Grow h h') {a : Option Addr} {len sz : Nat} {cells : List Value} (s : Slc h a len sz cells) : Slc h' a len sz cells := by
  refine ⟨s.clen, s.mem.imp id fun ⟨i, o, cs, own, z, h1, h2, h3, h4⟩ => ⟨i, o, cs, own, z, h1, ?_, h3, h4⟩⟩
  rw [g.keep i (live_lt h2 rfl)]; exact h2
theorem Slc.load {P : Program} {h : H} {i o : Nat} {cs : List Value} {own : Bool} {z : Nat} {t : TypeId} {v : Value} (hr : h.at i = .row cs own z) (ht : isAggP P t = some false) (hc : cs[o]? = some v) : aload P h t (.pointer (some ⟨i, o, none⟩)) = some v := by
  unfold aload
  dsimp only
  rw [hr]
  dsimp only
  rw [ht]
  dsimp only
  exact hc
theorem Slc.addr {P : Program} {i o len cap k sz : Nat} {t e : TypeId} (hu : P.underlying t = some (.slice e)) (hs : sizeP P e = some sz) (hk : k < len) : aindex P t (.slice (some ⟨i, o, none⟩) len cap) (.int .i64 (k : Int)) = some (.pointer (some ⟨i, o + k * sz, none⟩)) := by
  have : aindex P t (.slice (some ⟨i, o, none⟩) len cap) (.int .i64 (Int.ofNat k)) = some (.pointer (some ⟨i, o + k * sz, none⟩)) := by
    unfold aindex
    rw [hu]
    dsimp only
    rw [hs]
    dsimp only
    have : Nat.blt k len = true := by rw [Nat.blt_eq]; exact hk
    rw [this]; rfl
  exact this
theorem FrLe.any {n : Nat} {fr : Fr} : FrLe n (anyF n) fr := ⟨fun t ht h => (by rw [at_anyF, if_pos ht] at h; cases h), fun t ht => (by rw [at_anyF, if_neg (by omega)])⟩
theorem FrLe.set {n : Nat} {fr0 fr : Fr} {d : Nat} {v : Value} (h : FrLe n fr0 fr) (hd : Nat.blt d n = true) (e : fr.at d = v) : FrLe n (Tr.set fr0 d v) fr := by
  rw [Nat.blt_eq] at hd
  refine ⟨fun t ht ha => ?_, fun t ht => ?_⟩
  · rw [at_set] at ha ⊢
    by_cases hh : t = d
    · subst hh; rw [if_pos rfl]; exact e
    · rw [if_neg hh] at ha ⊢; exact h.val t ht ha
  · rw [at_set, if_neg (by omega)]; exact h.und t ht
section
variable {ops : Array Oper} {l : List Oper} {fr : Fr} {ds : List Deferred} {h : H} {d : Nat} {ty : TypeId} {p : String} {af : Array Edge} {g : Option (Nat × Bool)}
theorem WO.len {x : Operand} {t e : TypeId} {a : Option Addr} {m c : Nat} (hg : GuardOn ops ⟨some d, .call { callee := .builtin .len, args := #[x], argTypes := #[t] }, ty, p, af, g⟩ fr) (hd : Nat.blt d n = true) (hu : X.P.underlying t = some (.slice e)) (hx : aev fr x = some (.slice a m c))
    (k : WO X n wm rd ops l ⟨Tr.set fr d (.int .i64 m), ds, h, none⟩ Q) : WO X n wm rd ops (⟨some d, .call { callee := .builtin .len, args := #[x], argTypes := #[t] }, ty, p, af, g⟩ :: l) ⟨fr, ds, h, none⟩ Q := by
  refine WO.v hg hd (E := .none) ?_ rfl k
  have he : evs (aev fr) [x] = some [.slice a m c] := evs_cons hx evs_nil
  show (match Callee.builtin .len, evs (aev fr) [x] with
    | .builtin b, some args => abuiltin X.P h b #[t] ty args
    | .value f, some args => match aev fr f with
      | some f => acall X h f args
      | none => none
    | _, _ => none) = _
  rw [he]
  show vN (alen X.P h t (.slice a m c)) = _
  unfold alen; rw [hu]; rfl
theorem WO.not {x : Operand} {t : TypeId} {b : Bool} (hg : GuardOn ops ⟨some d, .unOp .not t x, ty, p, af, g⟩ fr) (hd : Nat.blt d n = true) (hx : aev fr x = some (.bool b))
    (kk : WO X n wm rd ops l ⟨Tr.set fr d (.bool (!b)), ds, h, none⟩ Q) : WO X n wm rd ops (⟨some d, .unOp .not t x, ty, p, af, g⟩ :: l) ⟨fr, ds, h, none⟩ Q :=
  WO.v hg hd (E := .none) (by rw [aop_unOp, hx]; rfl) rfl kk
end
end Go.Abs
end
end
section
noncomputable section
namespace Go.Abs
variable {X : Ctx} {n wm : Nat} {rd : Option Nat} {Q : XX → Fs → Prop} {ops : Array Oper} {l : List Oper} {fr : Fr} {ds : List Deferred} {h : H} {d : Nat} {ty : TypeId} {p : String} {af : Array Edge} {g : Option (Nat × Bool)}
theorem at_push_new (h : H) (A : AObj) : (h.push A).at h.size = A := by rw [H.at_push, if_pos rfl]
theorem at_push_old {h : H} {i : Nat} (hi : i < h.size) (A : AObj) : (h.push A).at i = h.at i := by rw [H.at_push, if_neg (by omega)]
theorem at_put_same {h : H} {i : Nat} (hi : i < h.size) (A : AObj) : (h.put i A).at i = A := by rw [H.at_put, if_pos ⟨rfl, hi⟩]
theorem at_put_other {h : H} {i j : Nat} (hj : j ≠ i) (A : AObj) : (h.put i A).at j = h.at j := by rw [H.at_put, if_neg fun z => hj z.1]
def FieldAt (P : Program) (t : TypeId) (f off : Nat) : Prop := ∃ fs x m, P.underlying t = some (.struct fs) ∧ fs[f]? = some x ∧ sizeP P x.type = some (m + 1) ∧ x.offset = off
theorem FieldAt.of {P : Program} {t : TypeId} {f off : Nat} (h : afield P t (.pointer (some ⟨0, 0, none⟩)) f = some (.pointer (some ⟨0, off, none⟩))) : FieldAt P t f off := by
  unfold afield at h
  cases e : P.underlying t with
  | none => rw [e] at h; cases h
  | some u =>
    rw [e] at h
    cases u with
    | struct fs =>
      dsimp only at h
      cases ex : fs[f]? with
      | none => rw [ex] at h; cases h
      | some x =>
        rw [ex] at h
        dsimp only at h
        cases em : sizeP P x.type with
        | none => rw [em] at h; cases h
        | some m =>
          rw [em] at h
          cases m with
          | zero => cases h
          | succ m => cases h; exact ⟨fs, x, m, e, ex, em, (Nat.zero_add _).symm⟩
    | _ => cases h
theorem FieldAt.addr {P : Program} {t : TypeId} {f off : Nat} (h : FieldAt P t f off) (i o : Nat) : afield P t (.pointer (some ⟨i, o, none⟩)) f = some (.pointer (some ⟨i, o + off, none⟩)) := by
  obtain ⟨fs, x, m, h1, h2, h3, rfl⟩ := h
  unfold afield
  rw [h1]; dsimp only; rw [h2]; dsimp only; rw [h3]
theorem WO.fld {x : Operand} {t : TypeId} {f off b o : Nat} (hg : GuardOn ops ⟨some d, .fieldAddr t x f, ty, p, af, g⟩ fr) (hd : Nat.blt d n = true) (hf : FieldAt X.P t f off) (hx : aev fr x = some (.pointer (some ⟨b, o, none⟩)))
    (k : WO X n wm rd ops l ⟨Tr.set fr d (.pointer (some ⟨b, o + off, none⟩)), ds, h, none⟩ Q) : WO X n wm rd ops (⟨some d, .fieldAddr t x f, ty, p, af, g⟩ :: l) ⟨fr, ds, h, none⟩ Q :=
  WO.v hg hd (E := .none) (by rw [aop_fieldAddr, hx]; dsimp only; rw [hf.addr]; rfl) rfl k
theorem WO.nck {x : Operand} {a : Addr} (hg : GuardOn ops ⟨some d, .nilCheck x, ty, p, af, g⟩ fr) (hd : Nat.blt d n = true) (hx : aev fr x = some (.pointer (some a)))
    (k : WO X n wm rd ops l ⟨Tr.set fr d (.pointer (some a)), ds, h, none⟩ Q) : WO X n wm rd ops (⟨some d, .nilCheck x, ty, p, af, g⟩ :: l) ⟨fr, ds, h, none⟩ Q := by
  refine WO.v hg hd (E := .none) ?_ rfl k
  show (match aev fr x with
    | some (.pointer (some a)) => some (AN.val (.pointer (some a)), Eff.none)
    | _ => none) = _
  rw [hx]
theorem WO.box {x : Operand} {t : TypeId} {v : Value} {vs : List Value} (hg : GuardOn ops ⟨some d, .box t x, ty, p, af, g⟩ fr) (hd : Nat.blt d n = true) (hx : aev fr x = some v) (hv : v.cells.toList = vs)
    (k : WO X n wm rd ops l ⟨Tr.set fr d (.pointer (some ⟨h.size, 0, none⟩)), ds, h.push (.row vs true 0), none⟩ Q) : WO X n wm rd ops (⟨some d, .box t x, ty, p, af, g⟩ :: l) ⟨fr, ds, h, none⟩ Q := by
  subst hv
  exact WO.v hg hd (E := .new (.row v.cells.toList true 0)) (by rw [aop_box, hx]; rfl) rfl k
theorem WO.alc {t : TypeId} {v : Value} {vs : List Value} (hg : GuardOn ops ⟨some d, .alloc t, ty, p, af, g⟩ fr) (hd : Nat.blt d n = true) (hz : zeroP X.P t = some v) (hv : v.cells.toList = vs)
    (k : WO X n wm rd ops l ⟨Tr.set fr d (.pointer (some ⟨h.size, 0, none⟩)), ds, h.push (.row vs true 0), none⟩ Q) : WO X n wm rd ops (⟨some d, .alloc t, ty, p, af, g⟩ :: l) ⟨fr, ds, h, none⟩ Q := by
  subst hv
  exact WO.v hg hd (E := .new (.row v.cells.toList true 0)) (by rw [aop_alloc, hz]; rfl) rfl k
theorem WO.st {x y : Operand} {t : TypeId} {b o z sz : Nat} {cs cs' vs : List Value} {v : Value} (hg : GuardOn ops ⟨none, .store t x y, ty, p, af, g⟩ fr) (hs : sizeP X.P t = some sz) (hx : aev fr x = some (.pointer (some ⟨b, o, none⟩))) (hy : aev fr y = some v)
    (hr : h.at b = .row cs true z) (hb : wm ≤ b) (hvs : v.cells.toList = vs) (hn : vs.length = sz) (hl : o + sz ≤ cs.length) (hc : vs.all Value.oneCell' = true) (hv : splice cs o vs = cs')
    (k : WO X n wm rd ops l ⟨fr, ds, h.put b (.row cs' true z), none⟩ Q) : WO X n wm rd ops (⟨none, .store t x y, ty, p, af, g⟩ :: l) ⟨fr, ds, h, none⟩ Q := by
  subst hvs
  refine WO.u hg (E := .upd b (.row cs' true z)) ?_ ?_ k
  · rw [aop_store, hx, hy]
    dsimp only
    have : astore X.P h t (.pointer (some ⟨b, o, none⟩)) v = some (.upd b (.row cs' true z)) := by
      unfold astore
      rw [hs]
      dsimp only
      rw [hr]
      dsimp only
      have h1 : Nat.beq v.cells.toList.length sz = true := by rw [hn]; exact Nat.beq_refl sz
      have h2 : Nat.ble (o + sz) cs.length = true := Nat.ble_eq_true_of_le hl
      rw [h1, h2, hc, hv]; rfl
    rw [this]; rfl
  · show (bif Nat.ble wm b && (h.at b).own then some (h.put b (.row cs' true z)) else none) = _
    rw [hr]
    have : Nat.ble wm b = true := Nat.ble_eq_true_of_le hb
    rw [this]; rfl
theorem WO.cf {f : FuncId} {xs : Array Operand} {ts : Array TypeId} {vs : List Value} {v : Value} {h2 : H} (hg : GuardOn ops ⟨some d, .call { callee := .value (.func f), args := xs, argTypes := ts }, ty, p, af, g⟩ fr) (hd : Nat.blt d n = true)
    (hf : (X.fns.get f).isSome = true) (hx : evs (aev fr) xs.toList = some vs) (hc : JobOK X (.call f vs.toArray wm h) (.fin (.ret v) h2)) (k : WO X n wm rd ops l ⟨Tr.set fr d v, ds, h2, none⟩ Q) :
    WO X n wm rd ops (⟨some d, .call { callee := .value (.func f), args := xs, argTypes := ts }, ty, p, af, g⟩ :: l) ⟨fr, ds, h, none⟩ Q := by
  refine WO.c hg hd (E := .none) (f := f) (args := vs.toArray) ?_ rfl hc k
  rw [aop_value, hx]
  dsimp only
  rw [aev_func]
  dsimp only
  obtain ⟨fn, hf⟩ := Option.isSome_iff_exists.1 hf
  exact acall_fn hf
end Go.Abs
end
end
section
noncomputable section
namespace Go.Abs
variable {X : Ctx} {n wm : Nat} {rd : Option Nat} {Q : XX → Fs → Prop} {ops : Array Oper} {l : List Oper} {fr : Fr} {ds : List Deferred} {h : H} {d : Nat} {ty : TypeId} {p : String} {af : Array Edge} {g : Option (Nat × Bool)}
def BuildAt (P : Program) (t : TypeId) (zs : List Value) (pl : List (Nat × Nat)) : Prop := ∃ z fs, zeroP P t = some z ∧ z.cells.toList = zs ∧ P.underlying t = some (.struct fs) ∧ placesP P fs.toList = some pl
def BuildAr (P : Program) (t : TypeId) (zs : List Value) (m : Nat) : Prop := ∃ z k e, zeroP P t = some z ∧ z.cells.toList = zs ∧ P.underlying t = some (.array k e) ∧ sizeP P e = some m
def fillOK (place : Nat → Option (Nat × Nat)) (len : Nat) : List (Nat × Value) → Bool
  | [] => true
  | (i, v) :: rest => (match place i with
    | some (off, size) => Nat.beq v.cells.toList.length size && Nat.ble (off + v.cells.toList.length) len
    | none => false) && fillOK place len rest
def fillR (off : Nat → Nat) : List Value → List (Nat × Value) → List Value
  | cs, [] => cs
  | cs, (i, v) :: rest => fillR off (splice cs (off i) v.cells.toList) rest
theorem afill_eq {place : Nat → Option (Nat × Nat)} {off : Nat → Nat} (ho : ∀ i p, place i = some p → off i = p.1) : ∀ (ps : List (Nat × Value)) (cs : List Value), fillOK place cs.length ps = true → afill place cs ps = some (fillR off cs ps) := by
  intro ps
  induction ps with
  | nil => intro cs _; rfl
  | cons q ps ih =>
    obtain ⟨i, v⟩ := q
    intro cs h
    simp only [fillOK, Bool.and_eq_true] at h
    obtain ⟨h1, h2⟩ := h
    unfold afill fillR
    cases e : place i with
    | none => rw [e] at h1; cases h1
    | some q =>
      obtain ⟨of, sz⟩ := q
      rw [e] at h1
      dsimp only at h1 ⊢
      rw [h1, cond_true, ho i _ e]
      have hl : (splice cs of v.cells.toList).length = cs.length := by
        rw [Bool.and_eq_true] at h1
        have := Nat.le_of_ble_eq_true h1.2
        simp only [splice, List.length_append, List.length_take, List.length_drop]; omega
      exact ih _ (by rw [hl]; exact h2)
theorem evp_nil {ev : Operand → Option Value} : evp ev [] = some [] := rfl
theorem evp_cons {ev : Operand → Option Value} {i : Nat} {x : Operand} {xs : List (Nat × Operand)} {v : Value} {vs : List (Nat × Value)} (h1 : ev x = some v) (h2 : evp ev xs = some vs) : evp ev ((i, x) :: xs) = some ((i, v) :: vs) := by
  show (match ev x, evp ev xs with | some v, some vs => some ((i, v) :: vs) | _, _ => none) = _
  rw [h1, h2]
theorem aop_build (t : TypeId) (ps : Array (Nat × Operand)) (ev : Operand → Option Value) : aop X h ev ⟨some d, .build t ps, ty, p, af, g⟩ = match evp ev ps.toList with
  | some ps => vN (abuild X.P t ps)
  | none => none := rfl
theorem WO.bld {t : TypeId} {ps : Array (Nat × Operand)} {zs cs' : List Value} {pl : List (Nat × Nat)} {pvs : List (Nat × Value)} (hg : GuardOn ops ⟨some d, .build t ps, ty, p, af, g⟩ fr) (hd : Nat.blt d n = true) (hb : BuildAt X.P t zs pl)
    (hp : evp (aev fr) ps.toList = some pvs) (ho : fillOK (fun i => pl[i]?) zs.length pvs = true) (hv : fillR (fun i => (pl.getD i (0, 0)).1) zs pvs = cs')
    (k : WO X n wm rd ops l ⟨Tr.set fr d (.agg cs'.toArray), ds, h, none⟩ Q) : WO X n wm rd ops (⟨some d, .build t ps, ty, p, af, g⟩ :: l) ⟨fr, ds, h, none⟩ Q := by
  subst hv
  refine WO.v hg hd (E := .none) ?_ rfl k
  obtain ⟨z, fs, h1, rfl, h3, h4⟩ := hb
  rw [aop_build, hp]
  dsimp only
  unfold abuild
  rw [h1, h3]
  dsimp only
  rw [h4]
  dsimp only
  rw [afill_eq (off := fun i => (pl.getD i (0, 0)).1) (fun i p e => by rw [List.getD_eq_getElem?_getD, e]; rfl) _ _ ho]
  rfl
theorem WO.bldA {t : TypeId} {ps : Array (Nat × Operand)} {zs cs' : List Value} {m : Nat} {pvs : List (Nat × Value)} (hg : GuardOn ops ⟨some d, .build t ps, ty, p, af, g⟩ fr) (hd : Nat.blt d n = true) (hb : BuildAr X.P t zs m)
    (hp : evp (aev fr) ps.toList = some pvs) (ho : fillOK (fun i => some (i * m, m)) zs.length pvs = true) (hv : fillR (fun i => i * m) zs pvs = cs')
    (k : WO X n wm rd ops l ⟨Tr.set fr d (.agg cs'.toArray), ds, h, none⟩ Q) : WO X n wm rd ops (⟨some d, .build t ps, ty, p, af, g⟩ :: l) ⟨fr, ds, h, none⟩ Q := by
  subst hv
  refine WO.v hg hd (E := .none) ?_ rfl k
  obtain ⟨z, c, e, h1, rfl, h3, h4⟩ := hb
  rw [aop_build, hp]
  dsimp only
  unfold abuild
  rw [h1, h3]
  dsimp only
  rw [h4]
  dsimp only
  rw [afill_eq (off := fun i => i * m) (fun i p e => by cases e; rfl) _ _ ho]
  rfl
theorem aload_agg {P : Program} {h : H} {t : TypeId} {b o z sz : Nat} {cs vs : List Value} {own : Bool} (ht : isAggP P t = some true) (hs : sizeP P t = some sz) (hr : h.at b = .row cs own z) (hl : o + sz ≤ cs.length) (hv : (cs.drop o).take sz = vs) :
    aload P h t (.pointer (some ⟨b, o, none⟩)) = some (.agg vs.toArray) := by
  unfold aload
  dsimp only
  rw [hr]
  dsimp only
  rw [ht, hs]
  dsimp only
  have hb : Nat.ble (o + sz) cs.length = true := Nat.ble_eq_true_of_le hl
  rw [hb, hv]; rfl
theorem RetK.none {fn : Func} {R : AEnd → H → Prop} {fr : Fr} {h : H} {wr : Option Nat} (hr : fn.results.toList = []) (k : R (.ret (.tuple #[])) h) : RetK X fn R .ret ⟨fr, [], h, wr⟩ := by
  refine ⟨⟨rfl, _, ?_, k⟩⟩
  unfold aresult; rw [hr]; rfl
end Go.Abs
end
end
section
noncomputable section
namespace Go.Abs
variable {X : Ctx} {n wm : Nat} {rd : Option Nat} {Q : XX → Fs → Prop} {ops : Array Oper} {l : List Oper} {fr : Fr} {ds : List Deferred} {h : H} {d : Option Tmp} {ty : TypeId} {p : String} {af : Array Edge} {g : Option (Nat × Bool)} {ev : Operand → Option Value}
theorem av_move {x : Operand} {v : Value} (hx : ev x = some v) : aop X h ev ⟨d, .move x, ty, p, af, g⟩ = some (.val v, .none) := by rw [aop_move, hx]; rfl
theorem av_assign {x : Operand} {v : Value} (hx : ev x = some v) : aop X h ev ⟨d, .assign x, ty, p, af, g⟩ = some (.val v, .none) := by rw [aop_assign, hx]; rfl
theorem av_fld {x : Operand} {t : TypeId} {f off b o : Nat} (hf : FieldAt X.P t f off) (hx : ev x = some (.pointer (some ⟨b, o, none⟩))) : aop X h ev ⟨d, .fieldAddr t x f, ty, p, af, g⟩ = some (.val (.pointer (some ⟨b, o + off, none⟩)), .none) := by
  rw [aop_fieldAddr, hx]; dsimp only; rw [hf.addr]; rfl
theorem av_nck {x : Operand} {a : Addr} (hx : ev x = some (.pointer (some a))) : aop X h ev ⟨d, .nilCheck x, ty, p, af, g⟩ = some (.val (.pointer (some a)), .none) := by
  show (match ev x with
    | some (.pointer (some a)) => some (AN.val (.pointer (some a)), Eff.none)
    | _ => none) = _
  rw [hx]
theorem av_load1 {x : Operand} {t : TypeId} {b o z : Nat} {cs : List Value} {own : Bool} {v : Value} (ht : isAggP X.P t = some false) (hx : ev x = some (.pointer (some ⟨b, o, none⟩))) (hr : h.at b = .row cs own z) (hc : cs[o]? = some v) :
    aop X h ev ⟨d, .load t x, ty, p, af, g⟩ = some (.val v, .none) := by rw [aop_load, hx]; dsimp only; rw [Slc.load hr ht hc]; rfl
theorem av_loadA {x : Operand} {t : TypeId} {b o z sz : Nat} {cs vs : List Value} {own : Bool} (ht : isAggP X.P t = some true) (hs : sizeP X.P t = some sz) (hx : ev x = some (.pointer (some ⟨b, o, none⟩))) (hr : h.at b = .row cs own z) (hl : o + sz ≤ cs.length) (hv : (cs.drop o).take sz = vs) :
    aop X h ev ⟨d, .load t x, ty, p, af, g⟩ = some (.val (.agg vs.toArray), .none) := by rw [aop_load, hx]; dsimp only; rw [aload_agg ht hs hr hl hv]; rfl
theorem av_len {x : Operand} {t e : TypeId} {a : Option Addr} {m c : Nat} (hu : X.P.underlying t = some (.slice e)) (hx : ev x = some (.slice a m c)) :
    aop X h ev ⟨d, .call { callee := .builtin .len, args := #[x], argTypes := #[t] }, ty, p, af, g⟩ = some (.val (.int .i64 m), .none) := by
  have he : evs ev [x] = some [.slice a m c] := evs_cons hx evs_nil
  rw [aop_builtin]
  show (match evs ev [x] with
    | some args => abuiltin X.P h .len #[t] ty args
    | none => none) = _
  rw [he]
  show vN (alen X.P h t (.slice a m c)) = _
  unfold alen; rw [hu]; rfl
theorem av_idx {x y : Operand} {t e : TypeId} {sz b o m c k : Nat} {iv : Int} (hu : X.P.underlying t = some (.slice e)) (hs : sizeP X.P e = some sz) (hx : ev x = some (.slice (some ⟨b, o, none⟩) m c)) (hy : ev y = some (.int .i64 iv)) (hi : iv = (k : Int)) (hk : k < m) :
    aop X h ev ⟨d, .indexAddr t x y, ty, p, af, g⟩ = some (.val (.pointer (some ⟨b, o + k * sz, none⟩)), .none) := by
  subst hi
  rw [aop_indexAddr, hx, hy]
  dsimp only
  rw [Slc.addr hu hs hk]; rfl
theorem av_not {x : Operand} {t : TypeId} {b : Bool} (hx : ev x = some (.bool b)) : aop X h ev ⟨d, .unOp .not t x, ty, p, af, g⟩ = some (.val (.bool (!b)), .none) := by rw [aop_unOp, hx]; rfl
theorem av_bin {op : BinOp} {x y : Operand} {t yt : TypeId} {a b v : Value} (hx : ev x = some a) (hy : ev y = some b) (hv : abin X.P op t x y a b = some (.val v, .none)) : aop X h ev ⟨d, .binOp op t x y yt, ty, p, af, g⟩ = some (.val v, .none) := by
  rw [aop_binOp, hx, hy]; exact hv
theorem av_and {c x y : Operand} {b z : Bool} (hc : ev c = some (.bool b)) (hx : ev x = some (cond b (.bool z) undef)) (hy : ev y = some (.bool false)) : aop X h ev ⟨d, .pick c x y, ty, p, af, g⟩ = some (.val (.bool (b && z)), .none) := by
  rw [aop_pick, hc, hx, hy]; cases b <;> rfl
theorem av_or {c x y : Operand} {b z : Bool} (hc : ev c = some (.bool b)) (hx : ev x = some (.bool true)) (hy : ev y = some (cond (!b) (.bool z) undef)) : aop X h ev ⟨d, .pick c x y, ty, p, af, g⟩ = some (.val (.bool (b || z)), .none) := by
  rw [aop_pick, hc, hx, hy]; cases b <;> rfl
theorem av_extract {x : Operand} {k : Nat} {vs : List Value} {v : Value} (hx : ev x = some (.tuple vs.toArray)) (hv : vs[k]? = some v) : aop X h ev ⟨d, .extract x k, ty, p, af, g⟩ = some (.val v, .none) := by
  rw [aop_extract, hx]; dsimp only; unfold aextract; dsimp only; rw [hv]; rfl
def GuardIs (ops : Array Oper) (o : Oper) (fr : Fr) (c : Bool) : Prop := okG ops.toList o fr = true ∧ awanted ops.toList o fr = c
theorem GuardIs.yes {ops : Array Oper} {o : Oper} {fr : Fr} {j : Nat} {b : Bool} {og : Oper} {dd : Tmp} (h : o.guard = some (j, true)) (hj : ops.toList[j]? = some og) (hd : og.dst = some dd) (hv : fr.at dd = .bool b) : GuardIs ops o fr b := by
  unfold GuardIs okG awanted ayield; rw [h]; dsimp only; rw [hj]; dsimp only; rw [hd]; dsimp only; rw [hv]; cases b <;> exact ⟨rfl, rfl⟩
theorem GuardIs.no {ops : Array Oper} {o : Oper} {fr : Fr} {j : Nat} {b : Bool} {og : Oper} {dd : Tmp} (h : o.guard = some (j, false)) (hj : ops.toList[j]? = some og) (hd : og.dst = some dd) (hv : fr.at dd = .bool b) : GuardIs ops o fr (!b) := by
  unfold GuardIs okG awanted ayield; rw [h]; dsimp only; rw [hj]; dsimp only; rw [hd]; dsimp only; rw [hv]; cases b <;> exact ⟨rfl, rfl⟩
theorem GuardIs.yes2 {ops : Array Oper} {o : Oper} {fr : Fr} {j : Nat} {a b : Bool} {og : Oper} {dd : Tmp} (h : o.guard = some (j, true)) (hj : ops.toList[j]? = some og) (hd : og.dst = some dd) (hv : fr.at dd = cond a (.bool b) undef) : GuardIs ops o fr (a && b) := by
  unfold GuardIs okG awanted ayield; rw [h]; dsimp only; rw [hj]; dsimp only; rw [hd]; dsimp only; rw [hv]; cases a <;> cases b <;> exact ⟨rfl, rfl⟩
theorem GuardIs.no2 {ops : Array Oper} {o : Oper} {fr : Fr} {j : Nat} {a b : Bool} {og : Oper} {dd : Tmp} (h : o.guard = some (j, false)) (hj : ops.toList[j]? = some og) (hd : og.dst = some dd) (hv : fr.at dd = cond a (.bool b) undef) : GuardIs ops o fr (a && !b) := by
  unfold GuardIs okG awanted ayield; rw [h]; dsimp only; rw [hj]; dsimp only; rw [hd]; dsimp only; rw [hv]; cases a <;> cases b <;> exact ⟨rfl, rfl⟩
theorem WO.gv {d : Nat} {op : Op} {c : Bool} {v : Value} (hg : GuardIs ops ⟨some d, op, ty, p, af, g⟩ fr c) (hd : Nat.blt d n = true) (ha : c = true → aop X h (aev fr) ⟨some d, op, ty, p, af, g⟩ = some (.val v, .none))
    (k : WO X n wm rd ops l ⟨Tr.set fr d (cond c v undef), ds, h, none⟩ Q) : WO X n wm rd ops (⟨some d, op, ty, p, af, g⟩ :: l) ⟨fr, ds, h, none⟩ Q := by
  cases c
  · exact WO.o hg hd k
  · exact WO.v hg hd (ha rfl) rfl k
theorem WO.gcf {d : Nat} {f : FuncId} {xs : Array Operand} {ts : Array TypeId} {vs : List Value} {c : Bool} {v : Value} (hg : GuardIs ops ⟨some d, .call { callee := .value (.func f), args := xs, argTypes := ts }, ty, p, af, g⟩ fr c) (hd : Nat.blt d n = true)
    (hf : (X.fns.get f).isSome = true) (hx : c = true → evs (aev fr) xs.toList = some vs) (hc : c = true → JobOK X (.call f vs.toArray wm h) (.fin (.ret v) h)) (k : WO X n wm rd ops l ⟨Tr.set fr d (cond c v undef), ds, h, none⟩ Q) :
    WO X n wm rd ops (⟨some d, .call { callee := .value (.func f), args := xs, argTypes := ts }, ty, p, af, g⟩ :: l) ⟨fr, ds, h, none⟩ Q := by
  cases c
  · exact WO.o hg hd k
  · exact WO.cf hg hd hf (hx rfl) (hc rfl) k
theorem WO.gmv {d : Nat} {c : Bool} {x : Operand} {v : Value} (hg : GuardIs ops ⟨some d, .move x, ty, p, af, g⟩ fr c) (hd : Nat.blt d n = true) (hx : c = true → aev fr x = some v)
    (k : WO X n wm rd ops l ⟨Tr.set fr d (cond c (v) undef), ds, h, none⟩ Q) : WO X n wm rd ops (⟨some d, .move x, ty, p, af, g⟩ :: l) ⟨fr, ds, h, none⟩ Q :=
  WO.gv hg hd (fun e => av_move (hx e)) k
theorem WO.gfld {d : Nat} {c : Bool} {x : Operand} {t : TypeId} {f off b o : Nat} (hg : GuardIs ops ⟨some d, .fieldAddr t x f, ty, p, af, g⟩ fr c) (hd : Nat.blt d n = true) (hf : FieldAt X.P t f off) (hx : c = true → aev fr x = some (.pointer (some ⟨b, o, none⟩)))
    (k : WO X n wm rd ops l ⟨Tr.set fr d (cond c (.pointer (some ⟨b, o + off, none⟩)) undef), ds, h, none⟩ Q) : WO X n wm rd ops (⟨some d, .fieldAddr t x f, ty, p, af, g⟩ :: l) ⟨fr, ds, h, none⟩ Q :=
  WO.gv hg hd (fun e => av_fld hf (hx e)) k
theorem WO.gnck {d : Nat} {c : Bool} {x : Operand} {a : Addr} (hg : GuardIs ops ⟨some d, .nilCheck x, ty, p, af, g⟩ fr c) (hd : Nat.blt d n = true) (hx : c = true → aev fr x = some (.pointer (some a)))
    (k : WO X n wm rd ops l ⟨Tr.set fr d (cond c (.pointer (some a)) undef), ds, h, none⟩ Q) : WO X n wm rd ops (⟨some d, .nilCheck x, ty, p, af, g⟩ :: l) ⟨fr, ds, h, none⟩ Q :=
  WO.gv hg hd (fun e => av_nck (hx e)) k
theorem WO.glen {d : Nat} {c : Bool} {x : Operand} {t e' : TypeId} {a : Option Addr} {m cc : Nat} (hg : GuardIs ops ⟨some d, .call { callee := .builtin .len, args := #[x], argTypes := #[t] }, ty, p, af, g⟩ fr c) (hd : Nat.blt d n = true) (hu : X.P.underlying t = some (.slice e')) (hx : c = true → aev fr x = some (.slice a m cc))
    (k : WO X n wm rd ops l ⟨Tr.set fr d (cond c (.int .i64 m) undef), ds, h, none⟩ Q) : WO X n wm rd ops (⟨some d, .call { callee := .builtin .len, args := #[x], argTypes := #[t] }, ty, p, af, g⟩ :: l) ⟨fr, ds, h, none⟩ Q :=
  WO.gv hg hd (fun e => av_len hu (hx e)) k
theorem WO.gnot {d : Nat} {c : Bool} {x : Operand} {t : TypeId} {b : Bool} (hg : GuardIs ops ⟨some d, .unOp .not t x, ty, p, af, g⟩ fr c) (hd : Nat.blt d n = true) (hx : c = true → aev fr x = some (.bool b))
    (k : WO X n wm rd ops l ⟨Tr.set fr d (cond c (.bool (!b)) undef), ds, h, none⟩ Q) : WO X n wm rd ops (⟨some d, .unOp .not t x, ty, p, af, g⟩ :: l) ⟨fr, ds, h, none⟩ Q :=
  WO.gv hg hd (fun e => av_not (hx e)) k
theorem WO.gbin {d : Nat} {c : Bool} {bo : BinOp} {x y : Operand} {t yt : TypeId} {a b v : Value} (hg : GuardIs ops ⟨some d, .binOp bo t x y yt, ty, p, af, g⟩ fr c) (hd : Nat.blt d n = true) (hx : c = true → aev fr x = some a) (hy : c = true → aev fr y = some b) (hv : c = true → abin X.P bo t x y a b = some (.val v, .none))
    (k : WO X n wm rd ops l ⟨Tr.set fr d (cond c (v) undef), ds, h, none⟩ Q) : WO X n wm rd ops (⟨some d, .binOp bo t x y yt, ty, p, af, g⟩ :: l) ⟨fr, ds, h, none⟩ Q :=
  WO.gv hg hd (fun e => av_bin (hx e) (hy e) (hv e)) k
theorem WO.gand {d : Nat} {c : Bool} {q x y : Operand} {b z : Bool} (hg : GuardIs ops ⟨some d, .pick q x y, ty, p, af, g⟩ fr c) (hd : Nat.blt d n = true) (hc : c = true → aev fr q = some (.bool b)) (hx : c = true → aev fr x = some (cond b (.bool z) undef)) (hy : c = true → aev fr y = some (.bool false))
    (k : WO X n wm rd ops l ⟨Tr.set fr d (cond c (.bool (b && z)) undef), ds, h, none⟩ Q) : WO X n wm rd ops (⟨some d, .pick q x y, ty, p, af, g⟩ :: l) ⟨fr, ds, h, none⟩ Q :=
  WO.gv hg hd (fun e => av_and (hc e) (hx e) (hy e)) k
theorem WO.gor {d : Nat} {c : Bool} {q x y : Operand} {b z : Bool} (hg : GuardIs ops ⟨some d, .pick q x y, ty, p, af, g⟩ fr c) (hd : Nat.blt d n = true) (hc : c = true → aev fr q = some (.bool b)) (hx : c = true → aev fr x = some (.bool true)) (hy : c = true → aev fr y = some (cond (!b) (.bool z) undef))
    (k : WO X n wm rd ops l ⟨Tr.set fr d (cond c (.bool (b || z)) undef), ds, h, none⟩ Q) : WO X n wm rd ops (⟨some d, .pick q x y, ty, p, af, g⟩ :: l) ⟨fr, ds, h, none⟩ Q :=
  WO.gv hg hd (fun e => av_or (hc e) (hx e) (hy e)) k
theorem WO.bin {d : Nat} {bo : BinOp} {x y : Operand} {t yt : TypeId} {a b v : Value} (hg : GuardOn ops ⟨some d, .binOp bo t x y yt, ty, p, af, g⟩ fr) (hd : Nat.blt d n = true) (hx : aev fr x = some a) (hy : aev fr y = some b)
    (hv : abin X.P bo t x y a b = some (.val v, .none)) (k : WO X n wm rd ops l ⟨Tr.set fr d v, ds, h, none⟩ Q) : WO X n wm rd ops (⟨some d, .binOp bo t x y yt, ty, p, af, g⟩ :: l) ⟨fr, ds, h, none⟩ Q := WO.v hg hd (av_bin hx hy hv) rfl k
theorem WO.pand {d : Nat} {q x y : Operand} {b z : Bool} (hg : GuardOn ops ⟨some d, .pick q x y, ty, p, af, g⟩ fr) (hd : Nat.blt d n = true) (hc : aev fr q = some (.bool b)) (hx : aev fr x = some (cond b (.bool z) undef)) (hy : aev fr y = some (.bool false))
    (k : WO X n wm rd ops l ⟨Tr.set fr d (.bool (b && z)), ds, h, none⟩ Q) : WO X n wm rd ops (⟨some d, .pick q x y, ty, p, af, g⟩ :: l) ⟨fr, ds, h, none⟩ Q := WO.v hg hd (av_and hc hx hy) rfl k
theorem WO.por {d : Nat} {q x y : Operand} {b z : Bool} (hg : GuardOn ops ⟨some d, .pick q x y, ty, p, af, g⟩ fr) (hd : Nat.blt d n = true) (hc : aev fr q = some (.bool b)) (hx : aev fr x = some (.bool true)) (hy : aev fr y = some (cond (!b) (.bool z) undef))
    (k : WO X n wm rd ops l ⟨Tr.set fr d (.bool (b || z)), ds, h, none⟩ Q) : WO X n wm rd ops (⟨some d, .pick q x y, ty, p, af, g⟩ :: l) ⟨fr, ds, h, none⟩ Q := WO.v hg hd (av_or hc hx hy) rfl k
end Go.Abs
end
end
section
noncomputable section
namespace Go.Abs
variable {X : Ctx} {n wm : Nat} {rd : Option Nat} {ops : Array Oper} {l : List Oper} {fr : Fr} {ds : List Deferred} {h : H} {ty : TypeId} {p : String} {af : Array Edge} {g : Option (Nat × Bool)}
structure WQ (X : Ctx) (n wm : Nat) (rd : Option Nat) (ops : Array Oper) (h : H) (l : List Oper) (fr : Fr) (Q : Fr → Prop) : Prop where
  out : ∃ (fs : Nat → Fr) (vs : Nat → Value), fs 0 = fr ∧ Q (fs l.length) ∧ ∀ k o, l[k]? = some o → StepOK X.P wm rd ops o (fun _ => False) (fs k) h (vs k) h ∧ fs (k + 1) = setd (fs k) o.dst (vs k) ∧ ∀ d, o.dst = some d → d < n
variable {Q : Fr → Prop}
theorem WQ.nil (k : Q fr) : WQ X n wm rd ops h [] fr Q := ⟨fun _ => fr, fun _ => undef, rfl, k, fun k o e => by simp at e⟩
theorem WQ.cons {o : Oper} {v : Value} (hs : StepOK X.P wm rd ops o (fun _ => False) fr h v h) (hd : ∀ d, o.dst = some d → d < n) (k : WQ X n wm rd ops h l (setd fr o.dst v) Q) : WQ X n wm rd ops h (o :: l) fr Q := by
  obtain ⟨fs, vs, e0, hq, hk⟩ := k
  refine ⟨fun k => match k with | 0 => fr | k + 1 => fs k, fun k => match k with | 0 => v | k + 1 => vs k, rfl, hq, fun k o' ho' => ?_⟩
  cases k with
  | zero =>
    simp at ho'
    subst ho'
    exact ⟨hs, e0, hd⟩
  | succ k => exact hk k o' (by simpa using ho')
theorem MOf_none (wm : Nat) : MOf false wm none = fun _ => False := by funext x; unfold MOf; simp
theorem WQ.step {ih : Job → Option Res} {pur : FuncId → Bool} (HI : ∀ j r, ih j = some r → JobOK X j r) (HK : ∀ j r, ih j = some r → JobKeep j r) {o : Oper} {v : Value} (hd : ∀ d, o.dst = some d → d < n)
    (hs : dstep X pur ih n wm none false ops.toList o fr h = some (none, v, h)) (k : WQ X n wm rd ops h l (setd fr o.dst v) Q) : WQ X n wm rd ops h (o :: l) fr Q := by
  have := dstep_real (rd := rd) HI HK hs
  rw [MOf_none] at this
  exact WQ.cons this hd k
theorem none_keep : ∀ (j : Job) (r : Res), (fun _ : Job => (none : Option Res)) j = some r → JobKeep j r := fun _ _ h => by cases h
theorem WQ.v {d : Nat} {op : Op} {v : Value} (hg : GuardOn ops ⟨some d, op, ty, p, af, g⟩ fr) (hd : Nat.blt d n = true) (ha : aop X h (aev fr) ⟨some d, op, ty, p, af, g⟩ = some (.val v, .none)) (k : WQ X n wm rd ops h l (Tr.set fr d v) Q) :
    WQ X n wm rd ops h (⟨some d, op, ty, p, af, g⟩ :: l) fr Q := by
  refine WQ.step (pur := fun _ => true) (none_ok X) none_keep (fun d' e => by cases e; rwa [Nat.blt_eq] at hd) ?_ k
  unfold dstep
  dsimp only
  have e : (Nat.blt d n && allowed none d) = true := by rw [hd]; rfl
  rw [e, hg.1, hg.2, ha]; rfl
theorem WQ.off {d : Nat} {op : Op} (hg : GuardOff ops ⟨some d, op, ty, p, af, g⟩ fr) (hd : Nat.blt d n = true) (k : WQ X n wm rd ops h l (Tr.set fr d undef) Q) : WQ X n wm rd ops h (⟨some d, op, ty, p, af, g⟩ :: l) fr Q := by
  refine WQ.step (pur := fun _ => true) (none_ok X) none_keep (fun d' e => by cases e; rwa [Nat.blt_eq] at hd) ?_ k
  unfold dstep
  dsimp only
  have e : (Nat.blt d n && allowed none d) = true := by rw [hd]; rfl
  rw [e, hg.1, hg.2]; rfl
theorem WQ.gv {d : Nat} {op : Op} {c : Bool} {v : Value} (hg : GuardIs ops ⟨some d, op, ty, p, af, g⟩ fr c) (hd : Nat.blt d n = true) (ha : c = true → aop X h (aev fr) ⟨some d, op, ty, p, af, g⟩ = some (.val v, .none))
    (k : WQ X n wm rd ops h l (Tr.set fr d (cond c v undef)) Q) : WQ X n wm rd ops h (⟨some d, op, ty, p, af, g⟩ :: l) fr Q := by
  cases c
  · exact WQ.off hg hd k
  · exact WQ.v hg hd (ha rfl) k
theorem oneJob_keep {f : FuncId} {args : Array Value} {m : Nat} {h : H} {v : Value} : ∀ j r, oneJob (.call f args m h) (.fin (.ret v) h) j = some r → JobKeep j r := by
  intro j r e
  unfold oneJob at e
  split at e
  · rename_i hj; cases e; rw [hj]; exact ⟨_, _, rfl, fun _ => KeepH.refl _ _⟩
  · cases e
theorem WQ.cf {d : Nat} {f : FuncId} {xs : Array Operand} {ts : Array TypeId} {vs : List Value} {v : Value} (hg : GuardOn ops ⟨some d, .call { callee := .value (.func f), args := xs, argTypes := ts }, ty, p, af, g⟩ fr) (hd : Nat.blt d n = true)
    (hf : (X.fns.get f).isSome = true) (hx : evs (aev fr) xs.toList = some vs) (hc : JobOK X (.call f vs.toArray h.size h) (.fin (.ret v) h)) (k : WQ X n wm rd ops h l (Tr.set fr d v) Q) :
    WQ X n wm rd ops h (⟨some d, .call { callee := .value (.func f), args := xs, argTypes := ts }, ty, p, af, g⟩ :: l) fr Q := by
  obtain ⟨fn, hf⟩ := Option.isSome_iff_exists.1 hf
  have ha : aop X h (aev fr) ⟨some d, .call { callee := .value (.func f), args := xs, argTypes := ts }, ty, p, af, g⟩ = some (.enter f vs.toArray, .none) := by
    rw [aop_value, hx]
    dsimp only
    rw [aev_func]
    dsimp only
    exact acall_fn hf
  refine WQ.step (pur := fun _ => true) (oneJob_ok hc) oneJob_keep (fun d' e => by cases e; rwa [Nat.blt_eq] at hd) ?_ k
  unfold dstep
  dsimp only
  have e : (Nat.blt d n && allowed none d) = true := by rw [hd]; rfl
  have e2 : Eff.apply wm h .none = some h := rfl
  rw [e, hg.1, hg.2, ha]
  dsimp only [Bool.not_true, cond_false, cond_true]
  rw [e2]
  have e4 : ownAt (false || true || Eff.none.tgt.isSome) wm vs.toArray h = none := rfl
  have e3 : Job.call f vs.toArray (bif false && !true then wm else h.size) h = Job.call f vs.toArray h.size h := rfl
  dsimp only at e3 e4 ⊢
  rw [e4]
  dsimp only
  rw [e3, oneJob_eq]
  dsimp only
  cases plain v <;> rfl
theorem WQ.gcf {d : Nat} {f : FuncId} {xs : Array Operand} {ts : Array TypeId} {vs : List Value} {c : Bool} {v : Value} (hg : GuardIs ops ⟨some d, .call { callee := .value (.func f), args := xs, argTypes := ts }, ty, p, af, g⟩ fr c) (hd : Nat.blt d n = true)
    (hf : (X.fns.get f).isSome = true) (hx : c = true → evs (aev fr) xs.toList = some vs) (hc : c = true → JobOK X (.call f vs.toArray h.size h) (.fin (.ret v) h)) (k : WQ X n wm rd ops h l (Tr.set fr d (cond c v undef)) Q) :
    WQ X n wm rd ops h (⟨some d, .call { callee := .value (.func f), args := xs, argTypes := ts }, ty, p, af, g⟩ :: l) fr Q := by
  cases c
  · exact WQ.off hg hd k
  · exact WQ.cf hg hd hf (hx rfl) (hc rfl) k
theorem WC.drawQ (hm : X.P.follows .mixedOrders = true) {id : Nat} {R : XX → Fs → Prop} (hp : (plan ops.toList).isSome = true) (k : WQ X n wm rd ops h ops.toList fr (fun fr' => R .normal ⟨fr', ds, h, none⟩)) : WC X n wm rd (.region id ops true) ⟨fr, ds, h, none⟩ R := by
  obtain ⟨fs, vs, e0, hq, hk⟩ := k
  obtain ⟨incs, hp⟩ := Option.isSome_iff_exists.1 hp
  refine ⟨.normal, _, hq, fun ρ a w F hwm hi hF => ?_⟩
  unfold plan planW at hp
  cases hall : (allIdx edgeOK ops.toList 0 && allIdx (lookOK ops.toList (predsF ops.toList 0 [])) ops.toList 0 && allIdx (dstOK ops.toList) ops.toList 0) <;> rw [hall] at hp <;> simp only [cond_true, cond_false] at hp
  · cases hp
  rw [Bool.and_eq_true, Bool.and_eq_true] at hall
  obtain ⟨⟨hedge, hlook⟩, hdst⟩ := hall
  have hedge := allIdx_spec _ _ hedge
  have hlook := allIdx_spec _ _ hlook
  have hdst := allIdx_spec _ _ hdst
  have hget : ∀ {k : Nat} {o : Oper}, ops[k]? = some o → ops.toList[k]? = some o := fun h => by rwa [Array.getElem?_toList]
  have hspec := (predsF_spec ops.toList 0 [] rfl).2
  let D : Data X.P n wm rd ops := {
    hs := fun _ => h, fs := fs, vs := vs, ts := fun _ => none, Xs := fun _ => [], fre := fun _ => false, soft := fun _ => none, hl := fun _ => false, Pb := fun j k => bit ((predsF ops.toList 0 []).getD j 0) k = true
    size0 := hwm
    step := fun k o ho => ⟨h, by rw [MOf_none]; exact (hk k o (hget ho)).1, by rw [MOf_none]; exact ⟨Nat.le_refl _, fun _ _ _ => rfl, fun _ _ x => x, fun _ _ x => x⟩, rfl, (hk k o (hget ho)).2.1⟩
    wmM := fun k x _ hx => by rw [MOf_none] at hx; exact hx.elim
    dst := fun k o d ho hd => (hk k o (hget ho)).2.2 d hd
    pb_elim := fun j k hb => by
      obtain ⟨o, ho, e, he, hb, hk⟩ := hspec j k (Nat.zero_le _) hb
      exact ⟨o, e, by rw [← Array.getElem?_toList]; simpa using ho, by simpa using he, hb, hk⟩
    edges := fun j o e ho he hb => by
      have := hedge j o (hget ho)
      unfold edgeOK at this
      rw [List.all_eq_true] at this
      have := this e (by simpa using he)
      rw [hb] at this
      simpa [Nat.blt_eq] using this
    inc := fun i j _ _ _ _ _ _ x hx => by rw [MOf_none] at hx; exact hx.elim
    hlOK := fun i o _ hh => by cases hh
    softOK := fun i o x j _ hh => by cases hh
    MX := fun i x _ hx => by rw [MOf_none] at hx; exact hx.elim
    looks := fun i o t ho ht k o' ho' hd => by
      have := hlook i o (hget ho)
      unfold lookOK at this
      rw [List.all_eq_true] at this
      have := allIdx_spec _ _ (this t ht) k o' (hget ho')
      rw [isT_iff.2 hd] at this
      simp only [cond_true, Bool.or_eq_true, Nat.zero_add] at this
      rcases this with z | z
      · exact .inl (Nat.eq_of_beq_eq_true z)
      · exact .inr (comp_pb z)
    dsts := fun i j o o' t ho ho' hd hd' => by
      have := hdst i o (hget ho)
      unfold dstOK at this
      rw [hd] at this
      have := allIdx_spec _ _ this j o' (hget ho')
      rw [isT_iff.2 hd'] at this
      simp only [cond_true, Nat.zero_add] at this
      exact (Nat.eq_of_beq_eq_true this).symm }
  have hi2 : Inv ρ n { fr := D.fs 0, ds := ds, h := D.hs 0 } a w := ⟨hi.rel, by show FrR ρ (fs 0) n a.tmps; rw [e0]; exact hi.fr, hi.ds⟩
  have := D.region hm hi2 hF id
  have hlen : ops.toList.length = ops.size := by simp
  rw [hlen]
  refine wpIn_mono this fun e' a' w' ⟨ρ', q1, q2, q3⟩ => ⟨ρ', q1, ⟨q2.rel, q2.fr, q2.ds⟩, q3⟩
theorem WQ.mv {d : Nat} {x : Operand} {v : Value} (hg : GuardOn ops ⟨some d, .move x, ty, p, af, g⟩ fr) (hd : Nat.blt d n = true) (hx : aev fr x = some v)
    (k : WQ X n wm rd ops h l (Tr.set fr d (v)) Q) : WQ X n wm rd ops h (⟨some d, .move x, ty, p, af, g⟩ :: l) fr Q := WQ.v hg hd (av_move hx) k
theorem WQ.gmv {d : Nat} {c : Bool} {x : Operand} {v : Value} (hg : GuardIs ops ⟨some d, .move x, ty, p, af, g⟩ fr c) (hd : Nat.blt d n = true) (hx : c = true → aev fr x = some v)
    (k : WQ X n wm rd ops h l (Tr.set fr d (cond c (v) undef)) Q) : WQ X n wm rd ops h (⟨some d, .move x, ty, p, af, g⟩ :: l) fr Q := WQ.gv hg hd (fun e => av_move (hx e)) k
theorem WQ.fld {d : Nat} {x : Operand} {t : TypeId} {f off b o : Nat} (hg : GuardOn ops ⟨some d, .fieldAddr t x f, ty, p, af, g⟩ fr) (hd : Nat.blt d n = true) (hf : FieldAt X.P t f off) (hx : aev fr x = some (.pointer (some ⟨b, o, none⟩)))
    (k : WQ X n wm rd ops h l (Tr.set fr d (.pointer (some ⟨b, o + off, none⟩))) Q) : WQ X n wm rd ops h (⟨some d, .fieldAddr t x f, ty, p, af, g⟩ :: l) fr Q := WQ.v hg hd (av_fld hf hx) k
theorem WQ.gfld {d : Nat} {c : Bool} {x : Operand} {t : TypeId} {f off b o : Nat} (hg : GuardIs ops ⟨some d, .fieldAddr t x f, ty, p, af, g⟩ fr c) (hd : Nat.blt d n = true) (hf : FieldAt X.P t f off) (hx : c = true → aev fr x = some (.pointer (some ⟨b, o, none⟩)))
    (k : WQ X n wm rd ops h l (Tr.set fr d (cond c (.pointer (some ⟨b, o + off, none⟩)) undef)) Q) : WQ X n wm rd ops h (⟨some d, .fieldAddr t x f, ty, p, af, g⟩ :: l) fr Q := WQ.gv hg hd (fun e => av_fld hf (hx e)) k
theorem WQ.not {d : Nat} {x : Operand} {t : TypeId} {b : Bool} (hg : GuardOn ops ⟨some d, .unOp .not t x, ty, p, af, g⟩ fr) (hd : Nat.blt d n = true) (hx : aev fr x = some (.bool b))
    (k : WQ X n wm rd ops h l (Tr.set fr d (.bool (!b))) Q) : WQ X n wm rd ops h (⟨some d, .unOp .not t x, ty, p, af, g⟩ :: l) fr Q := WQ.v hg hd (av_not hx) k
theorem WQ.bin {d : Nat} {bo : BinOp} {x y : Operand} {t yt : TypeId} {a b v : Value} (hg : GuardOn ops ⟨some d, .binOp bo t x y yt, ty, p, af, g⟩ fr) (hd : Nat.blt d n = true) (hx : aev fr x = some a) (hy : aev fr y = some b) (hv : abin X.P bo t x y a b = some (.val v, .none))
    (k : WQ X n wm rd ops h l (Tr.set fr d (v)) Q) : WQ X n wm rd ops h (⟨some d, .binOp bo t x y yt, ty, p, af, g⟩ :: l) fr Q := WQ.v hg hd (av_bin hx hy hv) k
theorem WQ.gbin {d : Nat} {c : Bool} {bo : BinOp} {x y : Operand} {t yt : TypeId} {a b v : Value} (hg : GuardIs ops ⟨some d, .binOp bo t x y yt, ty, p, af, g⟩ fr c) (hd : Nat.blt d n = true) (hx : c = true → aev fr x = some a) (hy : c = true → aev fr y = some b) (hv : c = true → abin X.P bo t x y a b = some (.val v, .none))
    (k : WQ X n wm rd ops h l (Tr.set fr d (cond c (v) undef)) Q) : WQ X n wm rd ops h (⟨some d, .binOp bo t x y yt, ty, p, af, g⟩ :: l) fr Q := WQ.gv hg hd (fun e => av_bin (hx e) (hy e) (hv e)) k
theorem WQ.gand {d : Nat} {c : Bool} {q x y : Operand} {b z : Bool} (hg : GuardIs ops ⟨some d, .pick q x y, ty, p, af, g⟩ fr c) (hd : Nat.blt d n = true) (hc : c = true → aev fr q = some (.bool b)) (hx : c = true → aev fr x = some (cond b (.bool z) undef)) (hy : c = true → aev fr y = some (.bool false))
    (k : WQ X n wm rd ops h l (Tr.set fr d (cond c (.bool (b && z)) undef)) Q) : WQ X n wm rd ops h (⟨some d, .pick q x y, ty, p, af, g⟩ :: l) fr Q := WQ.gv hg hd (fun e => av_and (hc e) (hx e) (hy e)) k
theorem WQ.or {d : Nat} {q x y : Operand} {b z : Bool} (hg : GuardOn ops ⟨some d, .pick q x y, ty, p, af, g⟩ fr) (hd : Nat.blt d n = true) (hc : aev fr q = some (.bool b)) (hx : aev fr x = some (.bool true)) (hy : aev fr y = some (cond (!b) (.bool z) undef))
    (k : WQ X n wm rd ops h l (Tr.set fr d (.bool (b || z))) Q) : WQ X n wm rd ops h (⟨some d, .pick q x y, ty, p, af, g⟩ :: l) fr Q := WQ.v hg hd (av_or hc hx hy) k
end Go.Abs
end
end
