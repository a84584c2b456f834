/- Names Part 8 of the proof. -/
import Derived.ProofKit
import Derived.Test.YtbnepjakjmnadaaGreatNa7
set_option linter.all false
set_option maxHeartbeats 2000000
section
noncomputable section
namespace Go.Proofs.YtbnepjakjmnadaaGreat
open Go.Abs Go.RowKit Go.WideShapes Go.ChangeShapes
def isTrue (r : Option Res) : Bool :=
  match r with
  | some (.fin (.ret (.bool true)) _) => true
  | _ => false
theorem isTrue_some {r : Option Res} (h : isTrue r = true) : ∃ h', r = some (.fin (.ret (.bool true)) h') := by
  unfold isTrue at h
  split at h
  · exact ⟨_, rfl⟩
  · cases h
theorem mixed : Tryz.prog.follows .mixedOrders = true := by kernel_rfl
def noRen : Ren := ⟨fun _ => none, fun _ => (0, 0)⟩
section
variable {H : Type} {enc : TypeId × Value → H} {P : Program}
theorem post_of_below {f : Func} {s : ChangeSpec} {apart fresh handsOn again : Bool} {W W' : World} {args : Array Value} {v : Value} {ds gs : List (DataW H)} {before pa pv : List MemPlace}
    (hW : DataW.Whole enc P f.params.toList s.vars apart W args.toList ds gs before)
    (hres : ∀ (b : Nat) (sp : Nat → Bool) (hd : Bool), DataW.TrodAll enc P W' b sp hd f.resultTypes.toList (v.resultList f.resultTypes.size) (s.fn H (ds ++ gs)).results [])
    (hargs : ∀ sp : Nat → Bool, (∀ p ∈ before, sp p.block = true) → DataW.TrodAll enc P W' 0 sp true f.params.toList args.toList (s.fn H (ds ++ gs)).args pa)
    (hvars : ∀ sp : Nat → Bool, (∀ p ∈ before, sp p.block = true) → DataW.TrodVars enc P W' sp s.vars (s.fn H (ds ++ gs)).vars pv)
    (hps : before = pa ++ pv) (hb : Below W.heap.size W W')
    (hok : ∀ (j : Nat) (t : TypeId) (r : Value), f.resultTypes[j]? = some t → (v.resultList f.resultTypes.size)[j]? = some r → Value.okWide P W' .any 0 t r) :
    s.post enc P f apart fresh handsOn again W args v W' := by
  have hlt : ∀ p ∈ before, p.block < W.heap.size := fun p hp => hW.lt p hp
  have hold : ∀ p ∈ before, (fun b => decide (b < W.heap.size)) p.block = true := fun p hp => by simpa using hlt p hp
  refine ⟨ds, gs, before, [], pa, pv, hW, hres _ _ _, hargs _ hold, hvars _ hold, World.keptBut_mono (fun p hp => ⟨hp, ?_⟩) (hb.frame (· ∈ before)), fun _ => ?_⟩
  · rw [hps, List.mem_append] at hp
    exact Or.inr hp
  · obtain ⟨_, _, _, _, _, hz, hn⟩ := hW
    refine ⟨hok, _, _, ([] ++ pa) ++ pv, ⟨[] ++ pa, pv, trodAll_append (hargs _ (fun _ _ => rfl)) (hres _ _ _), hvars _ (fun _ _ => rfl), rfl, ?_, ?_⟩, ?_⟩
    · intro b off hp
      have hin : MemPlace.cell b off ∈ before := by rw [hps]; simpa using hp
      rw [hb.frozen (hlt _ hin)]
      exact hz b off hin
    · intro ha
      have := hn ha
      rw [hps] at this
      simpa using this
    · intro p hp _
      rw [hps]
      simpa using hp
end
end Go.Proofs.YtbnepjakjmnadaaGreat
end
end
section
noncomputable section
namespace Go.Abs
variable {X : Ctx}
structure WC (X : Ctx) (n wm : Nat) (rd : Option Nat) (c : Code) (s : Fs) (Q : XX → Fs → Prop) : Prop where
  out : ∃ e s', Q e s' ∧ JobOK X (.code c n wm rd s) (.code e s')
structure WL (X : Ctx) (n wm : Nat) (rd : Option Nat) (c : Code) (s : Fs) (Q : XX → Fs → Prop) : Prop where
  out : ∃ e s', Q e s' ∧ JobOK X (.loop c n wm rd s) (.code e s')
structure WF (X : Ctx) (f : FuncId) (args : Array Value) (wm : Nat) (h : H) (Q : AEnd → H → Prop) : Prop where
  out : ∃ e h', Q e h' ∧ JobOK X (.call f args wm h) (.fin e h')
def OpsOK (X : Ctx) (n wm : Nat) (rd : Option Nat) (ops : Array Oper) (l : List Oper) (s : Fs) (e : XX) (s' : Fs) : Prop :=
  ∀ (Q : Exit → Act → World → Prop) {ρ : Ren} {F : Fence} {a : Act} {w : World}, Inv ρ n s a w → wm ≤ s.h.size → FR' ρ rd F → (∀ e' a' w', PostC wm n ρ s.h w e s' e' a' w' → Q e' a' w') → wpListIn F 0 X.P ops Q l a w
structure WO (X : Ctx) (n wm : Nat) (rd : Option Nat) (ops : Array Oper) (l : List Oper) (s : Fs) (Q : XX → Fs → Prop) : Prop where
  out : ∃ e s', Q e s' ∧ OpsOK X n wm rd ops l s e s'
variable {n wm : Nat} {rd : Option Nat} {s : Fs} {Q : XX → Fs → Prop}
theorem WF.mono {f : FuncId} {args : Array Value} {h : H} {Q Q' : AEnd → H → Prop} (h1 : WF X f args wm h Q) (k : ∀ e s', Q e s' → Q' e s') : WF X f args wm h Q' := let ⟨e, s', h1, h2⟩ := h1; ⟨e, s', k e s' h1, h2⟩
def SeqKd (X : Ctx) (n wm : Nat) (rd : Option Nat) (b : Code) (Q : XX → Fs → Prop) : XX → Fs → Prop := fun e s =>
  match e with
  | .normal => WC X n wm rd b s Q
  | e => Q e s
def LoopKd (X : Ctx) (n wm : Nat) (rd : Option Nat) (c : Code) (Q : XX → Fs → Prop) : XX → Fs → Prop := fun e s =>
  match e with
  | .normal => WL X n wm rd c s Q
  | e => Q e s
def BlkKd (id : Nat) (Q : XX → Fs → Prop) : XX → Fs → Prop := fun e s =>
  match e with
  | .exit k => if k = id then Q .normal s else Q (.exit k) s
  | e => Q e s
structure SeqK (X : Ctx) (n wm : Nat) (rd : Option Nat) (b : Code) (Q : XX → Fs → Prop) (e : XX) (s : Fs) : Prop where
  out : SeqKd X n wm rd b Q e s
structure LoopK (X : Ctx) (n wm : Nat) (rd : Option Nat) (b : Code) (Q : XX → Fs → Prop) (e : XX) (s : Fs) : Prop where
  out : LoopKd X n wm rd b Q e s
structure BlkK (id : Nat) (Q : XX → Fs → Prop) (e : XX) (s : Fs) : Prop where
  out : BlkKd id Q e s
theorem ExR.not_normal {ρ : Ren} {e : XX} {e' : Exit} (he : ExR ρ e e') (h : e ≠ .normal) {N : Act → World → Prop} {R : Exit → Act → World → Prop} {a : Act} {w : World} (hr : R e' a w) : Exit.then N R e' a w := by
  cases he with
  | normal => exact absurd rfl h
  | _ => exact hr
theorem WC.seq {a b : Code} (h : WC X n wm rd a s (SeqK X n wm rd b Q)) : WC X n wm rd (.seq a b) s Q := by
  obtain ⟨e, s1, hq, ka⟩ := h
  by_cases hn : e = .normal
  · subst hn
    obtain ⟨e2, s2, hq2, kb⟩ := hq.out
    refine ⟨e2, s2, hq2, fun ρ a w F hwm hi hF => wpIn_seq (wpIn_mono (ka ρ a w F hwm hi hF) ?_)⟩
    rintro e' a' w' ⟨ρ', he, hi', hst⟩
    cases he
    exact wpIn_mono (kb ρ' a' w' F (Nat.le_trans hwm hst.size) hi' (hF.mono hst.ext)) fun _ _ _ hp => PostC.trans hi.rel.lt hst hp
  · refine ⟨e, s1, ?_, fun ρ a w F hwm hi hF => wpIn_seq (wpIn_mono (ka ρ a w F hwm hi hF) ?_)⟩
    · cases e with
      | normal => exact absurd rfl hn
      | _ => exact hq.out
    · rintro e' a' w' ⟨ρ', he, hi', hst⟩
      exact he.not_normal hn ⟨ρ', he, hi', hst⟩
theorem WC.cond {c : Operand} {a b : Code} {t : Bool} (hc : aev s.fr c = some (.bool t)) (h1 : t = true → WC X n wm rd a s Q) (h2 : t = false → WC X n wm rd b s Q) : WC X n wm rd (.cond c a b) s Q := by
  have : ∃ e s', Q e s' ∧ ∀ ρ a' w F, wm ≤ s.h.size → Inv ρ n s a' w → FR' ρ rd F → (if t then a else b).wpIn F 0 X.P (PostC wm n ρ s.h w e s') a' w := by
    cases t with
    | true => obtain ⟨e, s', q, k⟩ := h1 rfl; exact ⟨e, s', q, k⟩
    | false => obtain ⟨e, s', q, k⟩ := h2 rfl; exact ⟨e, s', q, k⟩
  obtain ⟨e, s', hq, k⟩ := this
  refine ⟨e, s', hq, fun ρ a' w F hwm hi hF => ?_⟩
  have hv := aev_sound hi.fr _ _ hc
  generalize hx : a'.eval c = x at hv
  cases hv
  exact wpIn_cond hx (k ρ a' w F hwm hi hF)
theorem WC.block {id : Nat} {c : Code} (h : WC X n wm rd c s (BlkK id Q)) : WC X n wm rd (.block id c) s Q := by
  obtain ⟨e, s1, hq, ka⟩ := h
  have key : ∃ e2, Q e2 s1 ∧ ∀ (wm' n' : Nat) (ρ0 : Ren) (h0 : H) (w0 : World) (e' : Exit) (a' : Act) (w' : World), PostC wm' n' ρ0 h0 w0 e s1 e' a' w' → Exit.inBlock id (PostC wm' n' ρ0 h0 w0 e2 s1) e' a' w' := by
    cases e with
    | exit k =>
      by_cases hk : k = id
      · subst hk
        refine ⟨.normal, by simpa [BlkKd] using hq.out, ?_⟩
        rintro _ _ _ _ _ e' a' w' ⟨ρ', he, hi', hst⟩
        cases he
        show if _ then _ else _
        rw [if_pos rfl]
        exact ⟨ρ', .normal, hi', hst⟩
      · refine ⟨.exit k, by simpa [BlkKd, hk] using hq.out, ?_⟩
        rintro _ _ _ _ _ e' a' w' ⟨ρ', he, hi', hst⟩
        cases he
        show if _ then _ else _
        rw [if_neg hk]
        exact ⟨ρ', .exit k, hi', hst⟩
    | normal => exact ⟨.normal, hq.out, by rintro _ _ _ _ _ e' a' w' ⟨ρ', he, hi', hst⟩; cases he; exact ⟨ρ', .normal, hi', hst⟩⟩
    | goto l => exact ⟨.goto l, hq.out, by rintro _ _ _ _ _ e' a' w' ⟨ρ', he, hi', hst⟩; cases he; exact ⟨ρ', .goto l, hi', hst⟩⟩
    | ret => exact ⟨.ret, hq.out, by rintro _ _ _ _ _ e' a' w' ⟨ρ', he, hi', hst⟩; cases he; exact ⟨ρ', .ret, hi', hst⟩⟩
    | panic v => exact ⟨.panic v, hq.out, by rintro _ _ _ _ _ e' a' w' ⟨ρ', he, hi', hst⟩; cases he with | panic hv => exact ⟨ρ', .panic hv, hi', hst⟩⟩
  obtain ⟨e2, hq2, key⟩ := key
  exact ⟨e2, s1, hq2, fun ρ a w F hwm hi hF => wpIn_block (wpIn_mono (ka ρ a w F hwm hi hF) fun e' a' w' hp => key _ _ _ _ _ e' a' w' hp)⟩
theorem WC.skip (h : Q .normal s) : WC X n wm rd .skip s Q := ⟨_, _, h, fun ρ _ _ _ _ hi _ => wpIn_skip ⟨ρ, .normal, hi, Stp.refl _ _ _ _⟩⟩
theorem WC.ret (h : Q .ret s) : WC X n wm rd .ret s Q := ⟨_, _, h, fun ρ _ _ _ _ hi _ => wpIn_ret ⟨ρ, .ret, hi, Stp.refl _ _ _ _⟩⟩
theorem WC.exit {id : Nat} (h : Q (.exit id) s) : WC X n wm rd (.exit id) s Q := ⟨_, _, h, fun ρ _ _ _ _ hi _ => wpIn_exit ⟨ρ, .exit id, hi, Stp.refl _ _ _ _⟩⟩
theorem WC.loop {c : Code} (h : WL X n wm rd c s Q) : WC X n wm rd (.loop c) s Q :=
  let ⟨e, s', hq, k⟩ := h; ⟨e, s', hq, fun ρ a w F hwm hi hF => wpIn_of_loopIn (k ρ a w F hwm hi hF)⟩
theorem WC.region {id : Nat} {ops : Array Oper} (h : WO X n wm rd ops ops.toList s Q) : WC X n wm rd (.region id ops false) s Q := by
  obtain ⟨e, s', hq, k⟩ := h
  exact ⟨e, s', hq, fun ρ a w F hwm hi hF => wpIn_region_list (k _ hi hwm hF fun _ _ _ hp => hp)⟩
theorem WL.step {c : Code} (h : WC X n wm rd c s (LoopK X n wm rd c Q)) : WL X n wm rd c s Q := by
  obtain ⟨e, s1, hq, ka⟩ := h
  by_cases hn : e = .normal
  · subst hn
    obtain ⟨e2, s2, hq2, kb⟩ := hq.out
    refine ⟨e2, s2, hq2, fun ρ a w F hwm hi hF => loopIn_step (wpIn_mono (ka ρ a w F hwm hi hF) ?_)⟩
    rintro e' a' w' ⟨ρ', he, hi', hst⟩
    cases he
    have := kb ρ' a' w' F (Nat.le_trans hwm hst.size) hi' (hF.mono hst.ext)
    intro b k cs h1 h2 h3
    obtain ⟨e3, a3, w3, hp, harr⟩ := this b k cs h1 h2 h3
    exact ⟨e3, a3, w3, PostC.trans hi.rel.lt hst hp, harr⟩
  · refine ⟨e, s1, ?_, fun ρ a w F hwm hi hF => loopIn_step (wpIn_mono (ka ρ a w F hwm hi hF) ?_)⟩
    · cases e with
      | normal => exact absurd rfl hn
      | _ => exact hq.out
    · rintro e' a' w' ⟨ρ', he, hi', hst⟩
      exact he.not_normal hn ⟨ρ', he, hi', hst⟩
def RetKd (X : Ctx) (fn : Func) (Q : AEnd → H → Prop) : XX → Fs → Prop := fun e s => s.ds = [] ∧
  match e with
  | .normal => ∃ v, aresult X.P fn s.fr s.h = some v ∧ Q (.ret v) s.h
  | .ret => ∃ v, aresult X.P fn s.fr s.h = some v ∧ Q (.ret v) s.h
  | .panic v => Q (.pan v) s.h
  | _ => False
structure RetK (X : Ctx) (fn : Func) (Q : AEnd → H → Prop) (e : XX) (s : Fs) : Prop where
  out : RetKd X fn Q e s
theorem WF.enter {f : FuncId} {fn : Func} {c : Code} {args : Array Value} {h : H} {Q : AEnd → H → Prop} (hf : X.fns.get f = some fn) (hb : fn.body = some c) (hn : args.toList.length ≤ fn.ntmps)
    (k : WC X fn.ntmps wm none c { fr := frameOf args.toList 0 .nil, ds := [], h := h } (RetK X fn Q)) : WF X f args wm h Q := by
  obtain ⟨e, s', ⟨hds, hq⟩, ka⟩ := k
  have main : ∀ (E : AEnd) (pm : PM), xPM e = some pm → evLeave (cfg X fun _ => false) (fun _ => none) fn wm pm s' = some (.fin E s'.h) → JobOK X (.call f args wm h) (.fin E s'.h) := by
    intro E pm hpm hl
    have hj := evLeave_sound (C := cfg X fun _ => false) (ih := fun _ => none) (fun _ _ h => by cases h) hl
    intro ρ args' w hwm hr hv
    have hi : Inv ρ fn.ntmps { fr := frameOf args.toList 0 .nil, ds := [], h := h } { tmps := args' ++ Array.replicate (fn.ntmps - args'.size) undef, defers := [] } w :=
      ⟨hr, frameOf_sound hv hn, .nil⟩
    refine callsIn_of_wp_marks (X.ok f fn hf).1 hb trivial (wpIn_mono (ka ρ _ w Fence.wide hwm hi rfl) ?_)
    rintro e' a' w' ⟨ρ', he, hi', hst⟩
    cases he with
    | normal => cases hpm; exact hj ρ' _ a' .returning w' _ (Nat.le_trans hwm hst.size) hi' .ret (fun _ _ hp => PostF.trans hr.lt hst hp)
    | ret => cases hpm; exact hj ρ' _ a' .returning w' _ (Nat.le_trans hwm hst.size) hi' .ret (fun _ _ hp => PostF.trans hr.lt hst hp)
    | panic hv' => cases hpm; exact hj ρ' _ a' _ w' _ (Nat.le_trans hwm hst.size) hi' (.pan hv') (fun _ _ hp => PostF.trans hr.lt hst hp)
    | exit id => cases hpm
    | goto l => cases hpm
  cases e with
  | normal =>
    obtain ⟨v, hv, hq⟩ := hq
    exact ⟨_, _, hq, main _ .ret rfl (by
      have hv' : aresult (cfg X fun _ => false).X.P fn s'.fr s'.h = some v := hv
      unfold evLeave; rw [hds]; simp only [hv'])⟩
  | ret =>
    obtain ⟨v, hv, hq⟩ := hq
    exact ⟨_, _, hq, main _ .ret rfl (by
      have hv' : aresult (cfg X fun _ => false).X.P fn s'.fr s'.h = some v := hv
      unfold evLeave; rw [hds]; simp only [hv'])⟩
  | panic v => exact ⟨_, _, hq, main _ (.pan v) rfl (by unfold evLeave; rw [hds])⟩
  | exit _ => exact hq.elim
  | goto _ => exact hq.elim
abbrev Pure (X : Ctx) (f : FuncId) (args : Array Value) (h : H) (v : Value) : Prop := ∀ wm, JobOK X (.call f args wm h) (.fin (.ret v) h)
theorem WF.pure {f : FuncId} {args : Array Value} {h : H} {v : Value} (hp : plain v = true) (k : WF X f args h.size h (fun e _ => e = .ret v)) : Pure X f args h v := by
  obtain ⟨e, h', rfl, hj⟩ := k
  intro wm ρ args' w hwm hr hv
  refine (hj ρ args' w (Nat.le_refl _) hr hv).mono ?_
  rintro e' w' ⟨ρ', he, hr', hst⟩
  cases he with
  | ret hv' =>
    rw [VR.plain_eq hp hv']
    obtain ⟨q1, q2⟩ := drop_call hr hst
    exact ⟨ρ, .ret (VR.plain_refl hp), q1, q2 wm⟩
variable {ops : Array Oper} {l : List Oper} {o : Oper}
theorem WO.nil (h : Q .normal s) : WO X n wm rd ops [] s Q := ⟨_, _, h, fun _ ρ _ a w hi _ _ hq => hq .normal a w ⟨ρ, .normal, hi, Stp.refl _ _ _ _⟩⟩
theorem WO.cons {ih : Job → Option Res} (HI : ∀ j r, ih j = some r → JobOK X j r) {s1 : Fs} (h : astep X (fun _ => false) ih n wm rd ops.toList o s = some (.normal, s1)) (k : WO X n wm rd ops l s1 Q) : WO X n wm rd ops (o :: l) s Q := by
  obtain ⟨e, s', hq, hk⟩ := k
  refine ⟨e, s', hq, fun Q' ρ F a w hi hwm hF hq' => ?_⟩
  refine astep_sound HI h hi hwm hF (fun _ ρ' a' w' hi' st' => ?_) (fun v he => by cases he)
  refine hk Q' hi' (Nat.le_trans hwm st'.size) (hF.mono st'.ext) fun e' a2 w2 hp => ?_
  obtain ⟨ρ2, q1, q2, q3⟩ := hp
  exact hq' e' a2 w2 ⟨ρ2, q1, q2, st'.trans hi.rel.lt q3⟩
theorem none_ok (X : Ctx) : ∀ (j : Job) (r : Res), (fun _ : Job => (none : Option Res)) j = some r → JobOK X j r := fun _ _ h => by cases h
def GuardOn (ops : Array Oper) (o : Oper) (fr : Fr) : Prop := okG ops.toList o fr = true ∧ awanted ops.toList o fr = true
def GuardOff (ops : Array Oper) (o : Oper) (fr : Fr) : Prop := okG ops.toList o fr = true ∧ awanted ops.toList o fr = false
theorem GuardOn.none {ops : Array Oper} {o : Oper} {fr : Fr} (h : o.guard = none) : GuardOn ops o fr := by unfold GuardOn okG awanted; rw [h]; exact ⟨rfl, rfl⟩
theorem gN {ops : Array Oper} {d : Option Tmp} {op : Op} {ty : TypeId} {p : String} {af : Array Edge} {fr : Fr} : GuardOn ops ⟨d, op, ty, p, af, Option.none⟩ fr := GuardOn.none rfl
def dstOk (n : Nat) (d : Option Tmp) : Bool :=
  match d with
  | none => true
  | some d => Nat.blt d n
theorem aput_ok {fr : Fr} {ds : List Deferred} {h : H} {d : Option Tmp} {v : Value} (hd : dstOk n d = true) : aput n ⟨fr, ds, h, none⟩ d v = some ⟨setd fr d v, ds, h, none⟩ := by
  rw [aput_eq]
  cases d with
  | none => rfl
  | some d =>
    unfold dstOk at hd
    dsimp only at hd ⊢
    rw [hd]; rfl
variable {fr : Fr} {ds : List Deferred} {h h1 : H}
theorem WO.val {v : Value} {E : Eff} (hg : GuardOn ops o fr) (hd : dstOk n o.dst = true) (ha : aop X h (aev fr) o = some (.val v, E)) (hE : E.apply wm h = some h1)
    (k : WO X n wm rd ops l ⟨setd fr o.dst v, ds, h1, none⟩ Q) : WO X n wm rd ops (o :: l) ⟨fr, ds, h, none⟩ Q := by
  refine WO.cons (none_ok X) ?_ k
  unfold astep
  rw [hg.1, hg.2]
  dsimp only [Bool.not_true, cond_false, cond_true]
  rw [ha]
  dsimp only [Bool.not_true, cond_false, cond_true]
  rw [hE]
  unfold aupon
  dsimp only [withH_eq]
  rw [aput_ok hd]
  rfl
theorem WO.unit {E : Eff} (hg : GuardOn ops o fr) (hd : dstOk n o.dst = true) (ha : aop X h (aev fr) o = some (.skip, E)) (hE : E.apply wm h = some h1)
    (k : WO X n wm rd ops l ⟨setd fr o.dst undef, ds, h1, none⟩ Q) : WO X n wm rd ops (o :: l) ⟨fr, ds, h, none⟩ Q := by
  refine WO.cons (none_ok X) ?_ k
  unfold astep
  rw [hg.1, hg.2]
  dsimp only [Bool.not_true, cond_false, cond_true]
  rw [ha]
  dsimp only [Bool.not_true, cond_false, cond_true]
  rw [hE]
  unfold aupon
  dsimp only [withH_eq]
  rw [aput_ok hd]
  rfl
theorem WO.off (hg : GuardOff ops o fr) (hd : dstOk n o.dst = true) (k : WO X n wm rd ops l ⟨setd fr o.dst undef, ds, h, none⟩ Q) : WO X n wm rd ops (o :: l) ⟨fr, ds, h, none⟩ Q := by
  refine WO.cons (none_ok X) ?_ k
  unfold astep
  rw [hg.1, hg.2]
  dsimp only [Bool.not_true, cond_false, cond_true]
  rw [aput_ok hd]
  rfl
open Classical in
def oneJob (j : Job) (r : Res) : Job → Option Res := fun j' => if j' = j then some r else none
theorem oneJob_ok {j : Job} {r : Res} (h : JobOK X j r) : ∀ j' r', oneJob j r j' = some r' → JobOK X j' r' := by
  intro j' r' e
  unfold oneJob at e
  split at e
  · rename_i hj; cases e; rw [hj]; exact h
  · cases e
theorem oneJob_eq (j : Job) (r : Res) : oneJob j r j = some r := by unfold oneJob; rw [if_pos rfl]
theorem WO.call {f : FuncId} {args : Array Value} {E : Eff} {v : Value} {h2 : H} (hg : GuardOn ops o fr) (hd : dstOk n o.dst = true) (ha : aop X h (aev fr) o = some (.enter f args, E)) (hE : E.apply wm h = some h1)
    (hc : JobOK X (.call f args wm h1) (.fin (.ret v) h2)) (k : WO X n wm rd ops l ⟨setd fr o.dst v, ds, h2, none⟩ Q) : WO X n wm rd ops (o :: l) ⟨fr, ds, h, none⟩ Q := by
  refine WO.cons (oneJob_ok hc) ?_ k
  unfold astep
  rw [hg.1, hg.2]
  dsimp only [Bool.not_true, cond_false, cond_true]
  rw [ha]
  dsimp only [Bool.not_true, cond_false, cond_true]
  rw [hE]
  unfold aupon
  dsimp only [withH_eq, cond_false]
  rw [oneJob_eq]
  dsimp only
  rw [aput_ok hd]
  rfl
end Go.Abs
end
end
section
noncomputable section
namespace Go.Abs
variable {X : Ctx} {P : Program} {h : H} {fr : Fr} {ev : Operand → Option Value} {d : Option Tmp} {ty : TypeId} {p : String} {af : Array Edge} {g : Option (Nat × Bool)}
theorem at_set (fr : Fr) (d t : Nat) (v : Value) : Fr.at (Tr.set fr d v) t = if t = d then v else Fr.at fr t := by
  unfold Fr.at; rw [Tr.get_set]; by_cases h : t = d <;> simp [h]
theorem frameOf_nil (i : Nat) (fr : Fr) : frameOf [] i fr = fr := rfl
theorem frameOf_cons (v : Value) (vs : List Value) (i : Nat) (fr : Fr) : frameOf (v :: vs) i fr = frameOf vs (i + 1) (Tr.set fr i v) := rfl
theorem aev_tmp (fr : Fr) (t : Nat) : aev fr (.tmp t) = bif isAny (fr.at t) then none else some (fr.at t) := rfl
theorem aev_const (fr : Fr) (v : Value) : aev fr (.const v) = bif plain v then some v else none := rfl
theorem aev_func (fr : Fr) (f : FuncId) : aev fr (.func f) = some (.func (.func f) #[] #[]) := rfl
theorem aop_move (x : Operand) : aop X h ev ⟨d, .move x, ty, p, af, g⟩ = vN (ev x) := rfl
theorem aop_assign (x : Operand) : aop X h ev ⟨d, .assign x, ty, p, af, g⟩ = vN (ev x) := rfl
theorem aop_binOp (op : BinOp) (t : TypeId) (x y : Operand) (yt : TypeId) : aop X h ev ⟨d, .binOp op t x y yt, ty, p, af, g⟩ = match ev x, ev y with
  | some a, some b => abin X.P op t x y a b
  | _, _ => none := rfl
theorem aop_pick (c a b : Operand) : aop X h ev ⟨d, .pick c a b, ty, p, af, g⟩ = match ev c with
  | some (.bool true) => vN (ev a)
  | some (.bool false) => vN (ev b)
  | _ => none := rfl
theorem aop_unOp (op : UnOp) (t : TypeId) (x : Operand) : aop X h ev ⟨d, .unOp op t x, ty, p, af, g⟩ = match ev x with
  | some a => bif plain a then pN (pval X.P (Op.unary op a)) else none
  | none => none := rfl
theorem aop_load (t : TypeId) (x : Operand) : aop X h ev ⟨d, .load t x, ty, p, af, g⟩ = match ev x with
  | some v => vN (aload X.P h t v)
  | none => none := rfl
theorem aop_store (t : TypeId) (a x : Operand) : aop X h ev ⟨d, .store t a x, ty, p, af, g⟩ = match ev a, ev x with
  | some a, some x => sE (astore X.P h t a x)
  | _, _ => none := rfl
theorem aop_box (t : TypeId) (x : Operand) : aop X h ev ⟨d, .box t x, ty, p, af, g⟩ = match ev x with
  | some v => some (.val (freshPtr h), .new (.row v.cells.toList true 0))
  | none => none := rfl
theorem aop_alloc (t : TypeId) : aop X h ev ⟨d, .alloc t, ty, p, af, g⟩ = match zeroP X.P t with
  | some z => some (.val (freshPtr h), .new (.row z.cells.toList true 0))
  | none => none := rfl
theorem aop_indexAddr (t : TypeId) (x i : Operand) : aop X h ev ⟨d, .indexAddr t x i, ty, p, af, g⟩ = match ev x, ev i with
  | some x, some i => vN (aindex X.P t x i)
  | _, _ => none := rfl
theorem aop_builtin (b : Builtin) (xs : Array Operand) (ts : Array TypeId) : aop X h ev ⟨d, .call { callee := .builtin b, args := xs, argTypes := ts }, ty, p, af, g⟩ = match evs ev xs.toList with
  | some args => abuiltin X.P h b ts ty args
  | none => none := by
  show (match Callee.builtin b, evs ev xs.toList with
    | .builtin b, some args => abuiltin X.P h b ts ty args
    | .value f, some args => match ev f with
      | some f => acall X h f args
      | none => none
    | .invoke r name, some args => match ev r with
      | some r => ainvoke X r name args
      | none => none
    | _, _ => none) = _
  cases evs ev xs.toList <;> rfl
theorem aop_value (f : Operand) (xs : Array Operand) (ts : Array TypeId) : aop X h ev ⟨d, .call { callee := .value f, args := xs, argTypes := ts }, ty, p, af, g⟩ = match evs ev xs.toList with
  | some args => match ev f with
    | some f => acall X h f args
    | none => none
  | none => none := by
  show (match Callee.value f, evs ev xs.toList with
    | .builtin b, some args => abuiltin X.P h b ts ty args
    | .value f, some args => match ev f with
      | some f => acall X h f args
      | none => none
    | .invoke r name, some args => match ev r with
      | some r => ainvoke X r name args
      | none => none
    | _, _ => none) = _
  cases evs ev xs.toList <;> rfl
theorem evs_nil : evs ev [] = some [] := rfl
theorem evs_cons {x : Operand} {xs : List Operand} {v : Value} {vs : List Value} (h1 : ev x = some v) (h2 : evs ev xs = some vs) : evs ev (x :: xs) = some (v :: vs) := by
  show (match ev x, evs ev xs with | some v, some vs => some (v :: vs) | _, _ => none) = _
  rw [h1, h2]
theorem abin_cmp {op : BinOp} {t : TypeId} {x y : Operand} {k : IntKind} {a b : Int} {c : Bool} (ho : Op.intCmp op a b = pure (.bool c)) (h1 : op = .eql ∨ op = .neq ∨ op = .lss ∨ op = .leq ∨ op = .gtr ∨ op = .geq) : abin P op t x y (.int k a) (.int k b) = some (.val (.bool c), .none) := by
  have hp : (plain (.int k a) && plain (.int k b)) = true := rfl
  unfold abin
  rw [hp, cond_true]
  have hb : binOp op t (.int k a) (.int k b) = pure (.bool c) := by
    rcases h1 with rfl | rfl | rfl | rfl | rfl | rfl <;> simp [binOp, ho]
  have hg : (do eqGuard op t x y (.int k a) (.int k b); binOp op t (.int k a) (.int k b) : Sem Value) = pure (.bool c) := by
    rw [hb]
    rcases h1 with rfl | rfl | rfl | rfl | rfl | rfl <;> rfl
  rw [hg]; rfl
theorem abin_lss {t : TypeId} {x y : Operand} {k : IntKind} {a b : Int} : abin P .lss t x y (.int k a) (.int k b) = some (.val (.bool (decide (a < b))), .none) := abin_cmp rfl (by simp)
theorem abin_leq {t : TypeId} {x y : Operand} {k : IntKind} {a b : Int} : abin P .leq t x y (.int k a) (.int k b) = some (.val (.bool (decide (a ≤ b))), .none) := abin_cmp rfl (by simp)
theorem abin_gtr {t : TypeId} {x y : Operand} {k : IntKind} {a b : Int} : abin P .gtr t x y (.int k a) (.int k b) = some (.val (.bool (decide (a > b))), .none) := abin_cmp rfl (by simp)
theorem abin_arith {op : BinOp} {t : TypeId} {x y : Operand} {k : IntKind} {a b c : Int} (h1 : op = .add ∧ c = a + b ∨ op = .sub ∧ c = a - b ∨ op = .mul ∧ c = a * b) : abin P op t x y (.int k a) (.int k b) = some (.val (.int k (k.wrap c)), .none) := by
  have hp : (plain (.int k a) && plain (.int k b)) = true := rfl
  unfold abin
  rw [hp, cond_true]
  have hb : binOp op t (.int k a) (.int k b) = pure (.int k (k.wrap c)) := by
    rcases h1 with ⟨rfl, rfl⟩ | ⟨rfl, rfl⟩ | ⟨rfl, rfl⟩ <;> simp [binOp, Op.intArith]
  have hg : (do eqGuard op t x y (.int k a) (.int k b); binOp op t (.int k a) (.int k b) : Sem Value) = pure (.int k (k.wrap c)) := by
    rw [hb]
    rcases h1 with ⟨rfl, rfl⟩ | ⟨rfl, rfl⟩ | ⟨rfl, rfl⟩ <;> rfl
  rw [hg]; rfl
end Go.Abs
end
end
section
noncomputable section
namespace Go.Abs
variable {X : Ctx} {n wm : Nat} {rd : Option Nat} {s : Fs} {Q : XX → Fs → Prop}
theorem SeqK.nrm {b : Code} (h : WC X n wm rd b s Q) : SeqK X n wm rd b Q .normal s := ⟨h⟩
theorem SeqK.ret {b : Code} (h : Q .ret s) : SeqK X n wm rd b Q .ret s := ⟨h⟩
theorem SeqK.exit {b : Code} {id : Nat} (h : Q (.exit id) s) : SeqK X n wm rd b Q (.exit id) s := ⟨h⟩
theorem LoopK.nrm {b : Code} (h : WL X n wm rd b s Q) : LoopK X n wm rd b Q .normal s := ⟨h⟩
theorem LoopK.ret {b : Code} (h : Q .ret s) : LoopK X n wm rd b Q .ret s := ⟨h⟩
theorem LoopK.exit {b : Code} {id : Nat} (h : Q (.exit id) s) : LoopK X n wm rd b Q (.exit id) s := ⟨h⟩
theorem BlkK.nrm {id : Nat} (h : Q .normal s) : BlkK id Q .normal s := ⟨h⟩
theorem BlkK.ret {id : Nat} (h : Q .ret s) : BlkK id Q .ret s := ⟨h⟩
theorem BlkK.here {id : Nat} (h : Q .normal s) : BlkK id Q (.exit id) s := ⟨by show if _ then _ else _; rw [if_pos rfl]; exact h⟩
theorem WF.begin {f : FuncId} {fn : Func} {c : Code} {args : List Value} {h : H} {n : Nat} {R : AEnd → H → Prop} (hf : X.fns.get f = some fn) (hb : fn.body = some c) (hnt : fn.ntmps = n) (hn : args.length ≤ n)
    (k : WC X n wm none c ⟨frameOf args 0 .nil, [], h, none⟩ (RetK X fn R)) : WF X f args.toArray wm h R := by
  subst hnt
  exact WF.enter hf hb hn k
variable {ops : Array Oper} {l : List Oper} {fr : Fr} {ds : List Deferred} {h h1 : H} {d : Nat} {op : Op} {ty : TypeId} {p : String} {af : Array Edge} {g : Option (Nat × Bool)}
theorem WO.v {v : Value} {E : Eff} (hg : GuardOn ops ⟨some d, op, ty, p, af, g⟩ fr) (hd : Nat.blt d n = true) (ha : aop X h (aev fr) ⟨some d, op, ty, p, af, g⟩ = some (.val v, E)) (hE : E.apply wm h = some h1)
    (k : WO X n wm rd ops l ⟨Tr.set fr d v, ds, h1, none⟩ Q) : WO X n wm rd ops (⟨some d, op, ty, p, af, g⟩ :: l) ⟨fr, ds, h, none⟩ Q := WO.val hg hd ha hE k
theorem WO.u {E : Eff} (hg : GuardOn ops ⟨none, op, ty, p, af, g⟩ fr) (ha : aop X h (aev fr) ⟨none, op, ty, p, af, g⟩ = some (.skip, E)) (hE : E.apply wm h = some h1)
    (k : WO X n wm rd ops l ⟨fr, ds, h1, none⟩ Q) : WO X n wm rd ops (⟨none, op, ty, p, af, g⟩ :: l) ⟨fr, ds, h, none⟩ Q := WO.unit hg rfl ha hE k
theorem WO.o (hg : GuardOff ops ⟨some d, op, ty, p, af, g⟩ fr) (hd : Nat.blt d n = true) (k : WO X n wm rd ops l ⟨Tr.set fr d undef, ds, h, none⟩ Q) : WO X n wm rd ops (⟨some d, op, ty, p, af, g⟩ :: l) ⟨fr, ds, h, none⟩ Q := WO.off hg hd k
theorem acall_fn {f : FuncId} {fn : Func} {vs : List Value} (hf : X.fns.get f = some fn) : acall X h (.func (.func f) #[] #[]) vs = some (.enter f vs.toArray, .none) := by
  unfold acall
  simp [hf]
structure Slc (h : H) (a : Option Addr) (len sz : Nat) (cells : List Value) : Prop where
  clen : cells.length = len * sz
  mem : len = 0 ∨ ∃ i o cs own z, a = some ⟨i, o, none⟩ ∧ h.at i = .row cs own z ∧ o + len * sz ≤ cs.length ∧ (cs.drop o).take (len * sz) = cells
structure Grow (h h' : H) : Prop where
  size : h.size ≤ h'.size
  keep : ∀ i, i < h.size → h'.at i = h.at i
theorem Grow.refl (h : H) : Grow h h := ⟨Nat.le_refl _, fun _ _ => rfl⟩
theorem Grow.trans {a b c : H} (x : Grow a b) (y : Grow b c) : Grow a c := ⟨Nat.le_trans x.size y.size, fun i hi => (y.keep i (Nat.lt_of_lt_of_le hi x.size)).trans (x.keep i hi)⟩
theorem Grow.push {a b : H} (x : Grow a b) (A : AObj) : Grow a (b.push A) := ⟨Nat.le_succ_of_le x.size, fun i hi => by rw [H.at_push, if_neg (by have := x.size; omega)]; exact x.keep i hi⟩
theorem live_lt {h : H} {i : Nat} {A : AObj} (e : h.at i = A) (hl : A.live = true) : i < h.size := by
  rcases Nat.lt_or_ge i h.size with z | z
  · exact z
  · rw [H.at_ge z] at e; subst e; cases hl
theorem Slc.load {P : Program} {h : H} {i o : Nat} {cs : List Value} {own : Bool} {z : Nat} {t : TypeId} {v : Value} (hr : h.at i = .row cs own z) (ht : isAggP P t = some false) (hc : cs[o]? = some v) : aload P h t (.pointer (some ⟨i, o, none⟩)) = some v := by
  unfold aload
  dsimp only
  rw [hr]
  dsimp only
  rw [ht]
  dsimp only
  exact hc
theorem Slc.addr {P : Program} {i o len cap k sz : Nat} {t e : TypeId} (hu : P.underlying t = some (.slice e)) (hs : sizeP P e = some sz) (hk : k < len) : aindex P t (.slice (some ⟨i, o, none⟩) len cap) (.int .i64 (k : Int)) = some (.pointer (some ⟨i, o + k * sz, none⟩)) := by
  have : aindex P t (.slice (some ⟨i, o, none⟩) len cap) (.int .i64 (Int.ofNat k)) = some (.pointer (some ⟨i, o + k * sz, none⟩)) := by
    unfold aindex
    rw [hu]
    dsimp only
    rw [hs]
    dsimp only
    have : Nat.blt k len = true := by rw [Nat.blt_eq]; exact hk
    rw [this]; rfl
  exact this
section
variable {ops : Array Oper} {l : List Oper} {fr : Fr} {ds : List Deferred} {h : H} {d : Nat} {ty : TypeId} {p : String} {af : Array Edge} {g : Option (Nat × Bool)}
end
end Go.Abs
end
end
section
noncomputable section
namespace Go.Abs
variable {X : Ctx} {n wm : Nat} {rd : Option Nat} {Q : XX → Fs → Prop} {ops : Array Oper} {l : List Oper} {fr : Fr} {ds : List Deferred} {h : H} {d : Nat} {ty : TypeId} {p : String} {af : Array Edge} {g : Option (Nat × Bool)}
theorem at_push_new (h : H) (A : AObj) : (h.push A).at h.size = A := by rw [H.at_push, if_pos rfl]
theorem at_push_old {h : H} {i : Nat} (hi : i < h.size) (A : AObj) : (h.push A).at i = h.at i := by rw [H.at_push, if_neg (by omega)]
theorem at_put_same {h : H} {i : Nat} (hi : i < h.size) (A : AObj) : (h.put i A).at i = A := by rw [H.at_put, if_pos ⟨rfl, hi⟩]
theorem at_put_other {h : H} {i j : Nat} (hj : j ≠ i) (A : AObj) : (h.put i A).at j = h.at j := by rw [H.at_put, if_neg fun z => hj z.1]
end Go.Abs
end
end
section
noncomputable section
namespace Go.Abs
variable {X : Ctx} {n wm : Nat} {rd : Option Nat} {Q : XX → Fs → Prop} {ops : Array Oper} {l : List Oper} {fr : Fr} {ds : List Deferred} {h : H} {d : Nat} {ty : TypeId} {p : String} {af : Array Edge} {g : Option (Nat × Bool)}
def fillOK (place : Nat → Option (Nat × Nat)) (len : Nat) : List (Nat × Value) → Bool
  | [] => true
  | (i, v) :: rest => (match place i with
    | some (off, size) => Nat.beq v.cells.toList.length size && Nat.ble (off + v.cells.toList.length) len
    | none => false) && fillOK place len rest
def fillR (off : Nat → Nat) : List Value → List (Nat × Value) → List Value
  | cs, [] => cs
  | cs, (i, v) :: rest => fillR off (splice cs (off i) v.cells.toList) rest
theorem afill_eq {place : Nat → Option (Nat × Nat)} {off : Nat → Nat} (ho : ∀ i p, place i = some p → off i = p.1) : ∀ (ps : List (Nat × Value)) (cs : List Value), fillOK place cs.length ps = true → afill place cs ps = some (fillR off cs ps) := by
  intro ps
  induction ps with
  | nil => intro cs _; rfl
  | cons q ps ih =>
    obtain ⟨i, v⟩ := q
    intro cs h
    simp only [fillOK, Bool.and_eq_true] at h
    obtain ⟨h1, h2⟩ := h
    unfold afill fillR
    cases e : place i with
    | none => rw [e] at h1; cases h1
    | some q =>
      obtain ⟨of, sz⟩ := q
      rw [e] at h1
      dsimp only at h1 ⊢
      rw [h1, cond_true, ho i _ e]
      have hl : (splice cs of v.cells.toList).length = cs.length := by
        rw [Bool.and_eq_true] at h1
        have := Nat.le_of_ble_eq_true h1.2
        simp only [splice, List.length_append, List.length_take, List.length_drop]; omega
      exact ih _ (by rw [hl]; exact h2)
theorem evp_nil {ev : Operand → Option Value} : evp ev [] = some [] := rfl
theorem evp_cons {ev : Operand → Option Value} {i : Nat} {x : Operand} {xs : List (Nat × Operand)} {v : Value} {vs : List (Nat × Value)} (h1 : ev x = some v) (h2 : evp ev xs = some vs) : evp ev ((i, x) :: xs) = some ((i, v) :: vs) := by
  show (match ev x, evp ev xs with | some v, some vs => some ((i, v) :: vs) | _, _ => none) = _
  rw [h1, h2]
end Go.Abs
end
end
section
noncomputable section
namespace Go.Abs
variable {X : Ctx} {n wm : Nat} {rd : Option Nat} {Q : XX → Fs → Prop} {ops : Array Oper} {l : List Oper} {fr : Fr} {ds : List Deferred} {h : H} {d : Option Tmp} {ty : TypeId} {p : String} {af : Array Edge} {g : Option (Nat × Bool)} {ev : Operand → Option Value}
theorem av_move {x : Operand} {v : Value} (hx : ev x = some v) : aop X h ev ⟨d, .move x, ty, p, af, g⟩ = some (.val v, .none) := by rw [aop_move, hx]; rfl
theorem av_assign {x : Operand} {v : Value} (hx : ev x = some v) : aop X h ev ⟨d, .assign x, ty, p, af, g⟩ = some (.val v, .none) := by rw [aop_assign, hx]; rfl
theorem av_load1 {x : Operand} {t : TypeId} {b o z : Nat} {cs : List Value} {own : Bool} {v : Value} (ht : isAggP X.P t = some false) (hx : ev x = some (.pointer (some ⟨b, o, none⟩))) (hr : h.at b = .row cs own z) (hc : cs[o]? = some v) :
    aop X h ev ⟨d, .load t x, ty, p, af, g⟩ = some (.val v, .none) := by rw [aop_load, hx]; dsimp only; rw [Slc.load hr ht hc]; rfl
theorem av_len {x : Operand} {t e : TypeId} {a : Option Addr} {m c : Nat} (hu : X.P.underlying t = some (.slice e)) (hx : ev x = some (.slice a m c)) :
    aop X h ev ⟨d, .call { callee := .builtin .len, args := #[x], argTypes := #[t] }, ty, p, af, g⟩ = some (.val (.int .i64 m), .none) := by
  have he : evs ev [x] = some [.slice a m c] := evs_cons hx evs_nil
  rw [aop_builtin]
  show (match evs ev [x] with
    | some args => abuiltin X.P h .len #[t] ty args
    | none => none) = _
  rw [he]
  show vN (alen X.P h t (.slice a m c)) = _
  unfold alen; rw [hu]; rfl
theorem av_idx {x y : Operand} {t e : TypeId} {sz b o m c k : Nat} {iv : Int} (hu : X.P.underlying t = some (.slice e)) (hs : sizeP X.P e = some sz) (hx : ev x = some (.slice (some ⟨b, o, none⟩) m c)) (hy : ev y = some (.int .i64 iv)) (hi : iv = (k : Int)) (hk : k < m) :
    aop X h ev ⟨d, .indexAddr t x y, ty, p, af, g⟩ = some (.val (.pointer (some ⟨b, o + k * sz, none⟩)), .none) := by
  subst hi
  rw [aop_indexAddr, hx, hy]
  dsimp only
  rw [Slc.addr hu hs hk]; rfl
theorem av_not {x : Operand} {t : TypeId} {b : Bool} (hx : ev x = some (.bool b)) : aop X h ev ⟨d, .unOp .not t x, ty, p, af, g⟩ = some (.val (.bool (!b)), .none) := by rw [aop_unOp, hx]; rfl
theorem av_bin {op : BinOp} {x y : Operand} {t yt : TypeId} {a b v : Value} (hx : ev x = some a) (hy : ev y = some b) (hv : abin X.P op t x y a b = some (.val v, .none)) : aop X h ev ⟨d, .binOp op t x y yt, ty, p, af, g⟩ = some (.val v, .none) := by
  rw [aop_binOp, hx, hy]; exact hv
theorem av_and {c x y : Operand} {b z : Bool} (hc : ev c = some (.bool b)) (hx : ev x = some (cond b (.bool z) undef)) (hy : ev y = some (.bool false)) : aop X h ev ⟨d, .pick c x y, ty, p, af, g⟩ = some (.val (.bool (b && z)), .none) := by
  rw [aop_pick, hc, hx, hy]; cases b <;> rfl
theorem av_or {c x y : Operand} {b z : Bool} (hc : ev c = some (.bool b)) (hx : ev x = some (.bool true)) (hy : ev y = some (cond (!b) (.bool z) undef)) : aop X h ev ⟨d, .pick c x y, ty, p, af, g⟩ = some (.val (.bool (b || z)), .none) := by
  rw [aop_pick, hc, hx, hy]; cases b <;> rfl
def GuardIs (ops : Array Oper) (o : Oper) (fr : Fr) (c : Bool) : Prop := okG ops.toList o fr = true ∧ awanted ops.toList o fr = c
theorem GuardIs.yes {ops : Array Oper} {o : Oper} {fr : Fr} {j : Nat} {b : Bool} {og : Oper} {dd : Tmp} (h : o.guard = some (j, true)) (hj : ops.toList[j]? = some og) (hd : og.dst = some dd) (hv : fr.at dd = .bool b) : GuardIs ops o fr b := by
  unfold GuardIs okG awanted ayield; rw [h]; dsimp only; rw [hj]; dsimp only; rw [hd]; dsimp only; rw [hv]; cases b <;> exact ⟨rfl, rfl⟩
theorem GuardIs.no {ops : Array Oper} {o : Oper} {fr : Fr} {j : Nat} {b : Bool} {og : Oper} {dd : Tmp} (h : o.guard = some (j, false)) (hj : ops.toList[j]? = some og) (hd : og.dst = some dd) (hv : fr.at dd = .bool b) : GuardIs ops o fr (!b) := by
  unfold GuardIs okG awanted ayield; rw [h]; dsimp only; rw [hj]; dsimp only; rw [hd]; dsimp only; rw [hv]; cases b <;> exact ⟨rfl, rfl⟩
theorem WO.gv {d : Nat} {op : Op} {c : Bool} {v : Value} (hg : GuardIs ops ⟨some d, op, ty, p, af, g⟩ fr c) (hd : Nat.blt d n = true) (ha : c = true → aop X h (aev fr) ⟨some d, op, ty, p, af, g⟩ = some (.val v, .none))
    (k : WO X n wm rd ops l ⟨Tr.set fr d (cond c v undef), ds, h, none⟩ Q) : WO X n wm rd ops (⟨some d, op, ty, p, af, g⟩ :: l) ⟨fr, ds, h, none⟩ Q := by
  cases c
  · exact WO.o hg hd k
  · exact WO.v hg hd (ha rfl) rfl k
end Go.Abs
end
end
section
noncomputable section
namespace Go.Abs
variable {X : Ctx} {n wm : Nat} {rd : Option Nat} {ops : Array Oper} {l : List Oper} {fr : Fr} {ds : List Deferred} {h : H} {ty : TypeId} {p : String} {af : Array Edge} {g : Option (Nat × Bool)}
variable {Q : Fr → Prop}
end Go.Abs
end
end
