/- The abstract interpreter, 23: the plan of a region that draws its order, and its run. -/
import Derived.Test.YtcnahmgekicbdaaGreatAbs22
noncomputable section
namespace Go.Abs

/-! ### Who must come before whom -/
theorem bit_lor (a b n : Nat) : bit (Nat.lor a b) n = (bit a n || bit b n) := by
  rw [bit_eq, bit_eq, bit_eq]; exact Nat.testBit_or a b n
theorem bit_pow (a n : Nat) : bit (Nat.pow 2 a) n = true ↔ a = n := by
  rw [bit_eq]
  have : Nat.pow 2 a = 2 ^ a := rfl
  rw [this, Nat.testBit_two_pow]; simp
theorem bit_zero (n : Nat) : bit 0 n = false := by rw [bit_eq]; simp

def predOf (ps : List Nat) (i : Nat) : List Edge → Nat
  | [] => 0
  | e :: es => bif Region.binds .any e && Nat.blt e.on i then Nat.lor (Nat.lor (Nat.pow 2 e.on) (ps.getD e.on 0)) (predOf ps i es) else predOf ps i es
def predsF : List Oper → Nat → List Nat → List Nat
  | [], _, ps => ps
  | o :: l, i, ps => predsF l (i + 1) (ps ++ [predOf ps i o.after.toList])

theorem predOf_spec {ps : List Nat} {i k : Nat} : ∀ (es : List Edge), bit (predOf ps i es) k = true → ∃ e ∈ es, Region.binds .any e = true ∧ e.on < i ∧ (k = e.on ∨ bit (ps.getD e.on 0) k = true) := by
  intro es
  induction es with
  | nil => intro h; simp [predOf, bit_zero] at h
  | cons e es ih =>
    intro h
    simp only [predOf] at h
    cases hb : (Region.binds .any e && Nat.blt e.on i) <;> rw [hb] at h <;> simp only [cond_true, cond_false] at h
    · obtain ⟨e', h1, h2⟩ := ih h; exact ⟨e', List.mem_cons_of_mem _ h1, h2⟩
    · rw [Bool.and_eq_true, Nat.blt_eq] at hb
      rw [bit_lor, bit_lor, Bool.or_eq_true, Bool.or_eq_true] at h
      rcases h with (h | h) | h
      · exact ⟨e, by simp, hb.1, hb.2, .inl ((bit_pow _ _).1 h).symm⟩
      · exact ⟨e, by simp, hb.1, hb.2, .inr h⟩
      · obtain ⟨e', h1, h2⟩ := ih h; exact ⟨e', List.mem_cons_of_mem _ h1, h2⟩

theorem predsF_spec : ∀ (l : List Oper) (i : Nat) (ps : List Nat), ps.length = i → (∀ k, k < i → (predsF l i ps).getD k 0 = ps.getD k 0) ∧
    ∀ (j : Nat) (k : Nat), i ≤ j → bit ((predsF l i ps).getD j 0) k = true → ∃ o, l[j - i]? = some o ∧ ∃ e ∈ o.after.toList, Region.binds .any e = true ∧ (k = e.on ∨ bit ((predsF l i ps).getD e.on 0) k = true) := by
  intro l
  induction l with
  | nil =>
    intro i ps hl
    refine ⟨fun _ _ => rfl, fun j k hj h => ?_⟩
    simp only [predsF] at h
    rw [List.getD_eq_getElem?_getD, List.getElem?_eq_none (by omega)] at h
    simp [bit_zero] at h
  | cons o l ih =>
    intro i ps hl
    obtain ⟨h1, h2⟩ := ih (i + 1) (ps ++ [predOf ps i o.after.toList]) (by simp [hl])
    have hlow : ∀ k, k < i → (predsF (o :: l) i ps).getD k 0 = ps.getD k 0 := by
      intro k hk
      simp only [predsF]
      rw [h1 k (by omega), List.getD_eq_getElem?_getD, List.getElem?_append_left (by omega), ← List.getD_eq_getElem?_getD]
    refine ⟨hlow, fun j k hj h => ?_⟩
    by_cases hji : j = i
    · subst hji
      refine ⟨o, by simp, ?_⟩
      have e : (predsF (o :: l) j ps).getD j 0 = predOf ps j o.after.toList := by
        simp only [predsF]
        rw [h1 j (by omega), List.getD_eq_getElem?_getD, List.getElem?_append_right (by omega)]
        simp [hl]
      rw [e] at h
      obtain ⟨e, he, hb, hlt, hk⟩ := predOf_spec _ h
      refine ⟨e, he, hb, hk.imp id fun hk => ?_⟩
      rw [hlow e.on hlt]; exact hk
    · simp only [predsF] at h ⊢
      obtain ⟨o', ho', e, he⟩ := h2 j k (by omega) h
      exact ⟨o', by rw [show j - i = (j - (i + 1)) + 1 by omega]; exact ho', e, he⟩

def allIdx (p : Nat → Oper → Bool) : List Oper → Nat → Bool
  | [], _ => true
  | o :: l, i => p i o && allIdx p l (i + 1)
theorem allIdx_spec {p : Nat → Oper → Bool} : ∀ (l : List Oper) (i : Nat), allIdx p l i = true → ∀ k o, l[k]? = some o → p (i + k) o = true := by
  intro l
  induction l with
  | nil => intro i _ k o h; simp at h
  | cons o l ih =>
    intro i h k o' hk
    simp only [allIdx, Bool.and_eq_true] at h
    cases k with
    | zero => simp at hk; subst hk; exact h.1
    | succ k =>
      have := ih (i + 1) h.2 k o' (by simpa using hk)
      rwa [show i + 1 + k = i + (k + 1) by omega] at this

def isT (d : Option Tmp) (t : Tmp) : Bool :=
  match d with
  | some d => Nat.beq d t
  | none => false
theorem isT_iff {d : Option Tmp} {t : Tmp} : isT d t = true ↔ d = some t := by
  cases d with
  | none => simp [isT]
  | some d => simp [isT, Nat.beq_eq]

def comp (ps : List Nat) (i j : Nat) : Bool := bif Nat.blt i j then bit (ps.getD j 0) i else bit (ps.getD i 0) j

def edgeOK (i : Nat) (o : Oper) : Bool := o.after.toList.all fun e => bif Region.binds .any e then Nat.blt e.on i else true
def lookOK (ops : List Oper) (ps : List Nat) (i : Nat) (o : Oper) : Bool :=
  (looks ops o).all fun t => allIdx (fun k o' => bif isT o'.dst t then Nat.beq k i || comp ps i k else true) ops 0
def dstOK (ops : List Oper) (i : Nat) (o : Oper) : Bool :=
  match o.dst with
  | none => true
  | some t => allIdx (fun k o' => bif isT o'.dst t then Nat.beq k i else true) ops 0

def incOf (ps : List Nat) (m i : Nat) : List Nat := (List.range m).filter fun j => bif Nat.beq i j then false else !comp ps i j
def planW (ops : List Oper) (ps : List Nat) : Option (List (List Nat)) :=
  bif allIdx edgeOK ops 0 && allIdx (lookOK ops ps) ops 0 && allIdx (dstOK ops) ops 0 then some ((List.range ops.length).map (incOf ps ops.length)) else none
def plan (ops : List Oper) : Option (List (List Nat)) := planW ops (predsF ops 0 [])

/-! ### Operations that do not look at the heap -/
def heapless (o : Oper) : Bool :=
  match o.op with
  | .move _ | .assign _ | .pick .. | .build .. | .nilCheck _ | .binOp .. | .unOp .. | .convert .. | .makeInterface .. | .makeFunc .. | .fieldAddr .. | .field .. | .indexAddr .. | .typeAssert .. | .extract .. => true
  | _ => false
def hlAt (ops : List Oper) (j : Nat) : Bool :=
  match ops[j]? with
  | some o => heapless o
  | none => false
def freOf (ops : List Oper) (o : Oper) (inc : List Nat) : Bool := !heapless o && inc.all (hlAt ops)

def quietAN : AN → Bool
  | .val _ | .panic _ => true
  | _ => false
def Quiet (nx : AN) (E : Eff) : Prop := E = .none ∧ quietAN nx = true
theorem vN_quiet {v : Option Value} {nx : AN} {E : Eff} (h : vN v = some (nx, E)) : Quiet nx E := by
  unfold vN at h
  split at h
  · cases h; exact ⟨rfl, rfl⟩
  · cases h
theorem pval_quiet {P : Program} {s : Sem Value} {nx : AN} {E : Eff} (h : pN (pval P s) = some (nx, E)) : Quiet nx E := by
  unfold pN at h
  split at h
  · rename_i nx' e
    cases h
    unfold pval at e
    split at e
    · rename_i v _
      cases hp : plain v <;> rw [hp] at e <;> simp only [cond_true, cond_false] at e
      · cases e
      · cases e; exact ⟨rfl, rfl⟩
    · rename_i v _
      cases hp : plain v <;> rw [hp] at e <;> simp only [cond_true, cond_false] at e
      · cases e
      · cases e; exact ⟨rfl, rfl⟩
    · cases e
  · cases h
theorem abin_quiet {P : Program} {op : BinOp} {t : TypeId} {x y : Operand} {a b : Value} {nx : AN} {E : Eff} (h : abin P op t x y a b = some (nx, E)) : Quiet nx E := by
  unfold abin at h
  cases hp : (plain a && plain b) <;> rw [hp] at h <;> simp only [cond_true, cond_false] at h
  · split at h
    · split at h
      · cases h; exact ⟨rfl, rfl⟩
      · cases h
    · split at h
      · cases h; exact ⟨rfl, rfl⟩
      · cases h
    · cases h
  · exact pval_quiet h
theorem aop_heapless {X : Ctx} (h g : H) {ev : Operand → Option Value} {o : Oper} (ho : heapless o = true) : aop X g ev o = aop X h ev o := by
  unfold heapless at ho
  unfold aop
  split at ho <;> first | (cases ho; done) | (rename_i e; rw [e])
set_option maxHeartbeats 1000000 in
theorem aop_quiet {X : Ctx} {h : H} {ev : Operand → Option Value} {o : Oper} {nx : AN} {E : Eff} (ho : heapless o = true) (ha : aop X h ev o = some (nx, E)) : Quiet nx E := by
  unfold heapless at ho
  unfold aop at ha
  split at ho
  case h_16 => cases ho
  all_goals
    rename_i e
    rw [e] at ha
    dsimp only at ha
    repeat' split at ha
    all_goals first
      | exact vN_quiet ha
      | exact abin_quiet ha
      | (cases ha; done)
      | (cases ha; exact ⟨rfl, rfl⟩)
      | (rw [Bool.cond_eq_ite] at ha; split at ha <;> first | exact pval_quiet ha | exact vN_quiet ha | (cases ha; done) | (cases ha; exact ⟨rfl, rfl⟩) | (split at ha <;> first | (cases ha; done) | (cases ha; exact ⟨rfl, rfl⟩)))
def dstepI (X : Ctx) (pur : FuncId → Bool) (ih : Job → Option Res) (wm : Nat) (free : Bool) (ops : List Oper) (o : Oper) (fr : Fr) (h : H) : Option (Option Nat × Value × H) :=
  bif !okG ops o fr then none else bif awanted ops o fr then
    match aop X h (aev fr) o with
    | some (nx, E) => match E.apply wm h with
      | some h1 => match nx with
        | .val v => some (E.tgt, v, h1)
        | .skip => some (E.tgt, undef, h1)
        | .enter f args => match ownAt (free || pur f || E.tgt.isSome) wm args h1 with
          | some x => match ih (.call f args x h1) with
            | some (.fin (.ret v) h2) => some (some x, v, h2)
            | _ => none
          | none => match ih (.call f args (bif free && !pur f then wm else h1.size) h1) with
            | some (.fin (.ret v) h2) => bif pur f && plain v then some (E.tgt, v, h1) else some (E.tgt, v, h2)
            | _ => none
        | .round l args => bif free then match ih (.round l args wm h1) with
            | some (.fin (.ret v) h2) => some (E.tgt, v, h2)
            | _ => none
          else none
        | _ => none
      | none => none
    | none => none
  else some (none, undef, h)
theorem dstep_inner {X : Ctx} {pur : FuncId → Bool} {ih : Job → Option Res} {n wm : Nat} {wr : Option Nat} {free : Bool} {ops : List Oper} {o : Oper} {fr : Fr} {h : H} {r : Option Nat × Value × H}
    (hs : dstep X pur ih n wm wr free ops o fr h = some r) (g : H) : dstep X pur ih n wm wr free ops o fr g = dstepI X pur ih wm free ops o fr g := by
  unfold dstep at hs ⊢
  cases e : o.dst with
  | none => rfl
  | some d =>
    rw [e] at hs
    dsimp only at hs ⊢
    cases hb : (Nat.blt d n && allowed wr d) <;> rw [hb] at hs
    · cases hs
    · rfl
theorem dstep_heapless {X : Ctx} {pur : FuncId → Bool} {ih : Job → Option Res} {n wm : Nat} {wr : Option Nat} {free : Bool} {ops : List Oper} {o : Oper} {fr : Fr} {h h1 : H} {t : Option Nat} {v : Value} (ho : heapless o = true)
    (hs : dstep X pur ih n wm wr free ops o fr h = some (t, v, h1)) : t = none ∧ h1 = h ∧ ∀ g, dstep X pur ih n wm wr free ops o fr g = some (none, v, g) := by
  have hin := dstep_inner hs
  simp only [hin] at hs ⊢
  clear hin
  unfold dstepI at hs ⊢
  cases hok : okG ops o fr <;> rw [hok] at hs <;> simp only [Bool.not_false, Bool.not_true, cond_true, cond_false] at hs ⊢
  · cases hs
  cases hwt : awanted ops o fr <;> rw [hwt] at hs <;> simp only [cond_true, cond_false] at hs ⊢
  · cases hs
    exact ⟨rfl, rfl, fun g => rfl⟩
  · have hap : ∀ g, Eff.apply wm g .none = some g := fun _ => rfl
    split at hs
    · rename_i nx E ha
      obtain ⟨rfl, hq⟩ := aop_quiet ho ha
      rw [hap] at hs
      dsimp only at hs
      cases nx with
      | val v' =>
        cases hs
        refine ⟨rfl, rfl, fun g => ?_⟩
        rw [aop_heapless h g ho, ha]
        dsimp only
        rw [hap]; rfl
      | panic v' => cases hs
      | skip => cases hq
      | enter f as => cases hq
      | round l as => cases hq
      | dfr d => cases hq
      | recov => cases hq
    · cases hs

/-! ### The run -/
def drun (X : Ctx) (pur : FuncId → Bool) (ih : Job → Option Res) (n wm : Nat) (wr : Option Nat) (ops : List Oper) : List Oper → List (List Nat) → List (List Nat) → Fr → H → Option (List (Option Nat × Nat) × List (Fr × H × Value) × Fr × H)
  | [], _, _, fr, h => some ([], [], fr, h)
  | o :: l, inc :: incs, X' :: Xs, fr, h =>
    match dstep X pur ih n wm wr (freOf ops o inc) ops o fr (mask X' h) with
    | some (t, v, h1) => match drun X pur ih n wm wr ops l incs Xs (setd fr o.dst v) (unmask X' h h1) with
      | some (tl, st, fr2, h2) => some ((t, h.size) :: tl, (fr, h, v) :: st, fr2, h2)
      | none => none
    | none => none
  | _ :: _, _, _, _, _ => none

def tOut (t : Option Nat) (X : List Nat) : Bool :=
  match t with
  | none => true
  | some x => !X.contains x
def tIn (soft : Bool) (tl : List (Option Nat × Nat)) (n n1 : Nat) (X : List Nat) (j : Nat) : Bool :=
  match (tl.getD j (none, 0)).1 with
  | none => true
  | some x => (Nat.blt x n && (soft || X.contains x)) || Nat.ble n1 x
def nextN (rest : List (Option Nat × Nat)) (nm : Nat) : Nat :=
  match rest with
  | (_, n) :: _ => n
  | [] => nm
def ckF (soft : Bool) (ops : List Oper) (tl : List (Option Nat × Nat)) (nm : Nat) : List Oper → List (Option Nat × Nat) → List (List Nat) → List (List Nat) → Bool
  | o :: os, (t, n) :: rest, inc :: incs, X :: Xs => (bif heapless o then true else bif inc.all (hlAt ops) then X.isEmpty else tOut t X && inc.all (tIn soft tl n (nextN rest nm) X)) && ckF soft ops tl nm os rest incs Xs
  | [], _, _, _ => true
  | _, _, _, _ => false

/-! ### Operations that look at an object which another one, not compared with them, turns -/
def sameS (a b : Value) : Bool :=
  match a, b with
  | .int k n, .int k' m => decide (k = k') && decide (n = m)
  | .bool x, .bool y => x == y
  | .string s, .string s' => decide (s.data.toList = s'.data.toList)
  | .pointer none, .pointer none => true
  | .slice none 0 0, .slice none 0 0 => true
  | .map none, .map none => true
  | .nilIface, .nilIface => true
  | _, _ => false
theorem sameS_eq {a b : Value} (h : sameS a b = true) : b = a := by
  unfold sameS at h
  split at h
  · rw [Bool.and_eq_true, decide_eq_true_iff, decide_eq_true_iff] at h; rw [h.1, h.2]
  · rw [eq_of_beq h]
  · rw [decide_eq_true_iff] at h
    rename_i s s'
    congr 1
    cases s; cases s'
    congr 1
    exact (Array.toList_inj.1 h).symm
  all_goals first | rfl | cases h
def sameL : List Value → List Value → Bool
  | [], [] => true
  | a :: as, b :: bs => sameS a b && sameL as bs
  | _, _ => false
theorem sameL_eq : ∀ {as bs : List Value}, sameL as bs = true → bs = as
  | [], [], _ => rfl
  | a :: as, b :: bs, h => by
    simp only [sameL, Bool.and_eq_true] at h
    rw [sameS_eq h.1, sameL_eq h.2]
  | [], _ :: _, h => by simp [sameL] at h
  | _ :: _, [], h => by simp [sameL] at h
def sameV (a b : Value) : Bool :=
  match a, b with
  | .agg xs, .agg ys => sameL xs.toList ys.toList
  | .tuple xs, .tuple ys => sameL xs.toList ys.toList
  | a, b => sameS a b
theorem sameV_eq {a b : Value} (h : sameV a b = true) : b = a := by
  unfold sameV at h
  split at h
  · congr 1; exact Array.toList_inj.1 (sameL_eq h)
  · congr 1; exact Array.toList_inj.1 (sameL_eq h)
  · exact sameS_eq h

def plainObj : AObj → Bool
  | .row cs _ _ => cs.all plain
  | .map es _ => es.all fun e => plain e.val
  | _ => false
theorem ObjR.ofPlain {ρ ρ' : Ren} {w : World} {b d : Nat} {l : Nat × Nat} {A : AObj} (hp : plainObj A = true) (h : ObjR ρ w b d l A) : ObjR ρ' w b d l A := by
  cases A with
  | row cs own sz =>
    obtain ⟨cc, el, fz, a, b, c, e⟩ := h
    refine ⟨cc, el, fz, a, b, c, fun k v v' x y => ?_⟩
    unfold plainObj at hp
    rw [List.all_eq_true] at hp
    have hv := hp v (List.mem_of_getElem? x)
    rw [VR.plain_eq hv (e k v v' x y)]
    exact VR.plain_refl hv
  | map es clock =>
    obtain ⟨a, es', b, c⟩ := h
    refine ⟨a, es', b, ?_⟩
    unfold plainObj at hp
    rw [List.all_eq_true] at hp
    unfold EsR at c ⊢
    generalize es'.toList = l at c ⊢
    clear b
    induction c with
    | nil => exact .nil
    | cons hk hq hb hv _ ih =>
      have h1 := hp _ (List.mem_cons_self ..)
      refine .cons hk hq hb ?_ (ih fun x hx => hp x (List.mem_cons_of_mem _ hx))
      rw [VR.plain_eq h1 hv]
      exact VR.plain_refl h1
  | _ => simp [plainObj] at hp

def softJ1 (tl : List (Option Nat × Nat)) (n : Nat) (X : List Nat) (j : Nat) : Option (Nat × Nat) :=
  match (tl.getD j (none, 0)).1 with
  | some x => bif Nat.blt x n && !X.contains x then some (x, j) else none
  | none => none
def softJ (tl : List (Option Nat × Nat)) (n : Nat) (X inc : List Nat) : List (Nat × Nat) := inc.filterMap (softJ1 tl n X)
def hAt (st : List (Fr × H × Value)) (hf : H) (k : Nat) : H :=
  match st[k]? with
  | some (_, h, _) => h
  | none => hf
def softV (X : Ctx) (pur : FuncId → Bool) (ih : Job → Option Res) (n wm : Nat) (wr : Option Nat) (ops : List Oper) (o : Oper) (fr : Fr) (g : H) (v : Value) : Bool :=
  match dstep X pur ih n wm wr false ops o fr g with
  | some (none, v', h1) => Nat.beq h1.size g.size && sameV v v'
  | _ => false
def softOne (X : Ctx) (pur : FuncId → Bool) (ih : Job → Option Res) (n wm : Nat) (wr : Option Nat) (ops : List Oper) (Xs : List (List Nat)) (tl : List (Option Nat × Nat)) (st : List (Fr × H × Value)) (hf : H) (i x j : Nat) : Bool :=
  match ops[i]?, st[i]? with
  | some o, some (fr, h, v) => Nat.blt i j && (tl.getD i (none, 0)).1.isNone && Nat.beq (hAt st hf (i + 1)).size h.size && plainObj (h.at x) && plainObj ((hAt st hf (j + 1)).at x) &&
      softV X pur ih n wm wr ops o fr ((mask (Xs.getD i []) h).put x ((hAt st hf (j + 1)).at x)) v
  | _, _ => false
def softOf (tl : List (Option Nat × Nat)) (Xs incs : List (List Nat)) (i : Nat) : Option (Nat × Nat) :=
  bif (incs.getD i []).isEmpty then none else (softJ tl (tl.getD i (none, 0)).2 (Xs.getD i []) (incs.getD i [])).head?
def softCk (X : Ctx) (pur : FuncId → Bool) (ih : Job → Option Res) (n wm : Nat) (wr : Option Nat) (ops : List Oper) (incs Xs : List (List Nat)) (tl : List (Option Nat × Nat)) (st : List (Fr × H × Value)) (hf : H) (i : Nat) : Bool :=
  bif (incs.getD i []).isEmpty then true else
  match softJ tl (tl.getD i (none, 0)).2 (Xs.getD i []) (incs.getD i []) with
  | [] => true
  | p :: q => bif q.isEmpty then softOne X pur ih n wm wr ops Xs tl st hf i p.1 p.2 else false

def drawOnce (X : Ctx) (pur : FuncId → Bool) (ih : Job → Option Res) (n wm : Nat) (soft : Bool) (ops : List Oper) (incs Xs : List (List Nat)) (s : Fs) : Option (List (Option Nat × Nat) × Bool × Fs) :=
  match drun X pur ih n wm s.wr ops ops incs Xs s.fr s.h with
  | some (tl, st, fr, h) => some (tl, ckF soft ops tl h.size ops tl incs Xs && (bif soft then (List.range ops.length).all (softCk X pur ih n wm s.wr ops incs Xs tl st h) else true), { s with fr := fr, h := h })
  | none => none
def masksOf (tl : List (Option Nat × Nat)) (inc : List Nat) : List Nat := inc.filterMap fun j => (tl.getD j (none, 0)).1
def isLook (o : Oper) : Bool :=
  match o.op with
  | .lookup .. => true
  | _ => false
def softXs (tl : List (Option Nat × Nat)) : List Oper → List (List Nat) → List (List Nat)
  | o :: ops, inc :: incs => (bif isLook o then [] else masksOf tl inc) :: softXs tl ops incs
  | _, _ => []
def okOf (r : Option (List (Option Nat × Nat) × Bool × Fs)) (k : Option Fs) : Option Fs :=
  match r with
  | some (_, true, s) => some s
  | _ => k
/-- Not to be trusted: which object each operation turns, where the run sees no way without it. -/
def callSlot (fr : Fr) (o : Oper) : Option Nat :=
  o.op.operands.toList.findSome? fun x => match aev fr x with
    | some (.slice (some a) _ _) => some a.block
    | _ => none
def scout (X : Ctx) (pur : FuncId → Bool) (ih : Job → Option Res) (n wm : Nat) (wr : Option Nat) (ops : List Oper) : List Oper → List (List Nat) → Fr → H → Option (List (Option Nat × Nat × Bool))
  | o :: l, inc :: incs, fr, h =>
    match dstep X pur ih n wm wr (freOf ops o inc) ops o fr h with
    | some (t, v, h1) => match scout X pur ih n wm wr ops l incs (setd fr o.dst v) h1 with
      | some tl => some ((t, h.size, false) :: tl)
      | none => none
    | none => match dstep X pur ih n wm wr true ops o fr h with
      | some (_, v, h1) => match scout X pur ih n wm wr ops l incs (setd fr o.dst v) h1 with
        | some tl => some ((callSlot fr o, h.size, true) :: tl)
        | none => none
      | none => none
  | _, _, _, _ => some []
def upTo : Nat → Nat → List Nat
  | 0, _ => []
  | k + 1, y => y :: upTo k (y + 1)
def scoutXs (tl : List (Option Nat × Nat)) : List (Option Nat × Nat × Bool) → List (List Nat) → List (List Nat)
  | (some x, n, true) :: l, inc :: incs => (masksOf tl (inc.filter fun j => match (tl.getD j (none, 0)).1 with | some y => Nat.blt y x | none => false) ++ upTo (n - (x + 1)) (x + 1)) :: scoutXs tl l incs
  | _ :: l, inc :: incs => masksOf tl inc :: scoutXs tl l incs
  | _, _ => []
def adraw (X : Ctx) (pur : FuncId → Bool) (ih : Job → Option Res) (n wm : Nat) (ops : List Oper) (s : Fs) : Option Fs :=
  match plan ops with
  | some incs => match drawOnce X pur ih n wm false ops incs (incs.map fun _ => []) s with
    | some (tl, ok, s') => bif ok then some s' else okOf (drawOnce X pur ih n wm false ops incs (incs.map (masksOf tl)) s) (okOf (drawOnce X pur ih n wm true ops incs (softXs tl ops incs) s) none)
    | none => match scout X pur ih n wm s.wr ops ops incs s.fr s.h with
      | some tl => okOf (drawOnce X pur ih n wm false ops incs (scoutXs (tl.map fun p => (p.1, p.2.1)) tl incs) s) none
      | none => none
  | none => none

theorem okOf_some {r : Option (List (Option Nat × Nat) × Bool × Fs)} {k : Option Fs} {s : Fs} (h : okOf r k = some s) : (∃ tl, r = some (tl, true, s)) ∨ k = some s := by
  unfold okOf at h
  split at h
  · cases h; exact .inl ⟨_, rfl⟩
  · exact .inr h
theorem adraw_some {X : Ctx} {pur : FuncId → Bool} {ih : Job → Option Res} {n wm : Nat} {ops : List Oper} {s s' : Fs} (h : adraw X pur ih n wm ops s = some s') :
    ∃ soft incs Xs tl, plan ops = some incs ∧ drawOnce X pur ih n wm soft ops incs Xs s = some (tl, true, s') := by
  unfold adraw at h
  split at h
  · rename_i incs hp
    split at h
    · rename_i tl ok s1 h1
      cases ok with
      | true => cases h; exact ⟨_, _, _, _, hp, h1⟩
      | false =>
        rcases okOf_some h with ⟨tl, h⟩ | h
        · exact ⟨_, _, _, _, hp, h⟩
        · rcases okOf_some h with ⟨tl, h⟩ | h
          · exact ⟨_, _, _, _, hp, h⟩
          · cases h
    · split at h
      · rcases okOf_some h with ⟨tl, h⟩ | h
        · exact ⟨_, _, _, _, hp, h⟩
        · cases h
      · cases h
  · cases h

/-! ### It is sound -/
variable {X : Ctx} {pur : FuncId → Bool} {ih : Job → Option Res}

theorem drun_data {n wm : Nat} {wr : Option Nat} {ops : List Oper} : ∀ (l : List Oper) (incs Xs : List (List Nat)) (fr fr' : Fr) (h h' : H) (tl : List (Option Nat × Nat)) (st : List (Fr × H × Value)), drun X pur ih n wm wr ops l incs Xs fr h = some (tl, st, fr', h') →
    ∃ (hs : Nat → H) (fs : Nat → Fr) (vs : Nat → Value), hs 0 = h ∧ fs 0 = fr ∧ hs l.length = h' ∧ fs l.length = fr' ∧ tl.length = l.length ∧ st.length = l.length ∧ (∀ k, k < l.length → st[k]? = some (fs k, hs k, vs k)) ∧
      ∀ k o, l[k]? = some o → ∃ t h1, tl[k]? = some (t, (hs k).size) ∧ dstep X pur ih n wm wr (freOf ops o (incs.getD k [])) ops o (fs k) (mask (Xs.getD k []) (hs k)) = some (t, vs k, h1) ∧
        hs (k + 1) = unmask (Xs.getD k []) (hs k) h1 ∧ fs (k + 1) = setd (fs k) o.dst (vs k) := by
  intro l
  induction l with
  | nil =>
    intro incs Xs fr fr' h h' tl st hr
    simp only [drun, Option.some.injEq, Prod.mk.injEq] at hr
    obtain ⟨rfl, rfl, rfl, rfl⟩ := hr
    exact ⟨fun _ => h, fun _ => fr, fun _ => undef, rfl, rfl, rfl, rfl, rfl, rfl, fun k hk => by simp at hk, fun k o e => by simp at e⟩
  | cons o l ih' =>
    intro incs Xs fr fr' h h' tl st hr
    match incs, Xs, hr with
    | inc :: incs, X' :: Xs, hr =>
      simp only [drun] at hr
      split at hr
      · rename_i t v h1 hd
        split at hr
        · rename_i tl2 st2 fr2 h2 hr2
          cases hr
          obtain ⟨hs, fs, vs, e1, e2, e3, e4, e5, e7, e8, e6⟩ := ih' incs Xs _ _ _ _ _ _ hr2
          refine ⟨fun k => match k with | 0 => h | k + 1 => hs k, fun k => match k with | 0 => fr | k + 1 => fs k, fun k => match k with | 0 => v | k + 1 => vs k, rfl, rfl, e3, e4, by simp [e5], by simp [e7], ?_, ?_⟩
          · intro k hk
            cases k with
            | zero => rfl
            | succ k => exact e8 k (by simpa using hk)
          intro k o' ho'
          cases k with
          | zero =>
            simp at ho'
            subst ho'
            exact ⟨t, h1, rfl, hd, e1, e2⟩
          | succ k =>
            obtain ⟨t', h1', q1, q2, q3, q4⟩ := e6 k o' (by simpa using ho')
            exact ⟨t', h1', q1, q2, q3, q4⟩
        · cases hr
      · cases hr
    | [], _, hr => simp [drun] at hr
    | _ :: _, [], hr => simp [drun] at hr

theorem ckF_spec {soft : Bool} {ops : List Oper} {tl : List (Option Nat × Nat)} {nm : Nat} : ∀ (os : List Oper) (rest : List (Option Nat × Nat)) (incs Xs : List (List Nat)), ckF soft ops tl nm os rest incs Xs = true → ∀ k t n o, rest[k]? = some (t, n) → os[k]? = some o →
    heapless o = true ∨ (freOf ops o (incs.getD k []) = true ∧ (Xs.getD k []) = []) ∨ (heapless o = false ∧ freOf ops o (incs.getD k []) = false ∧ tOut t (Xs.getD k []) = true ∧ ∀ j ∈ incs.getD k [], tIn soft tl n (nextN (rest.drop (k + 1)) nm) (Xs.getD k []) j = true) := by
  intro os
  induction os with
  | nil => intro rest incs Xs _ k t n o _ h; simp at h
  | cons o0 os ih' =>
    intro rest incs Xs hc k t n o hk ho
    match rest, incs, Xs, hc with
    | (t0, n0) :: rest, inc :: incs, X' :: Xs, hc =>
      simp only [ckF, Bool.and_eq_true] at hc
      cases k with
      | zero =>
        simp at hk ho
        obtain ⟨rfl, rfl⟩ := hk
        subst ho
        simp only [List.getD_cons_zero, Nat.zero_add, List.drop_succ_cons, List.drop_zero]
        cases hh : heapless o0 with
        | true => exact .inl rfl
        | false =>
          right
          rw [hh] at hc
          simp only [cond_false] at hc
          unfold freOf
          rw [hh]
          cases he : inc.all (hlAt ops) with
          | true => left; rw [he] at hc; exact ⟨rfl, by simpa using hc.1⟩
          | false =>
            right
            rw [he] at hc
            simp only [cond_false, Bool.and_eq_true, List.all_eq_true] at hc
            exact ⟨rfl, rfl, hc.1.1, hc.1.2⟩
      | succ k =>
        simpa using ih' rest incs Xs hc.2 k t n o (by simpa using hk) (by simpa using ho)
    | [], _, _, hc => simp [ckF] at hc
    | _ :: _, [], _, hc => simp [ckF] at hc
    | _ :: _, _ :: _, [], hc => simp [ckF] at hc

theorem comp_pb {ps : List Nat} {i k : Nat} (h : comp ps i k = true) : bit (ps.getD i 0) k = true ∨ bit (ps.getD k 0) i = true := by
  unfold comp at h
  cases hb : Nat.blt i k <;> rw [hb] at h
  · exact .inl h
  · exact .inr h

theorem StepOK.same {P : Program} {wm : Nat} {rd : Option Nat} {ops : Array Oper} {o : Oper} {fr : Fr} {h h' : H} {v : Value} (hst : StepOK P wm rd ops o (fun _ => False) fr h v h') (hs : h'.size = h.size) (km : KeepM (fun _ => False) h h') :
    StepOK P wm rd ops o (fun _ => False) fr h v h := by
  intro ρ a w F K Q r hwm hf hF hK
  have hat : ∀ i, h'.at i = h.at i := by
    intro i
    by_cases hi : i < h.size
    · exact km.keep i hi fun z => z
    · rw [H.at_ge (by omega), H.at_ge (by omega)]
  refine hst ρ a w F K Q r hwm hf hF fun ρ' v' w' hv hr st => hK ρ' v' w' hv ⟨fun i b d e => ?_, fun i b d e => ?_, fun i j b d d' e e' h1 h2 => ?_⟩ st
  · rw [← hs]; exact hr.dom i b d e
  · rw [← hat]; exact hr.obj i b d e
  · rw [← hat] at h1 h2; exact hr.inj i j b d d' e e' h1 h2

theorem adraw_data (HI : ∀ j r, ih j = some r → JobOK X j r) (HK : ∀ j r, ih j = some r → JobKeep j r) {n wm : Nat} {rd : Option Nat} {soft : Bool} {ops : Array Oper} {incs Xs : List (List Nat)} {s s' : Fs} {tl : List (Option Nat × Nat)}
    (hp : plan ops.toList = some incs) (hr : drawOnce X pur ih n wm soft ops.toList incs Xs s = some (tl, true, s')) (hwm : wm ≤ s.h.size) :
    ∃ D : Data X.P n wm rd ops, D.hs 0 = s.h ∧ D.fs 0 = s.fr ∧ D.hs ops.size = s'.h ∧ D.fs ops.size = s'.fr ∧ s'.ds = s.ds := by
  unfold drawOnce at hr
  split at hr
  · rename_i tl' st' fr' h' hd
    simp only [Option.some.injEq, Prod.mk.injEq] at hr
    obtain ⟨rfl, hck, rfl⟩ := hr
    rw [Bool.and_eq_true] at hck
    obtain ⟨hck, hsck⟩ := hck
    obtain ⟨hs, fs, vs, e1, e2, e3, e4, e5, e7, e8, e6⟩ := drun_data _ _ _ _ _ _ _ _ _ hd
    unfold plan planW at hp
    cases hall : (allIdx edgeOK ops.toList 0 && allIdx (lookOK ops.toList (predsF ops.toList 0 [])) ops.toList 0 && allIdx (dstOK ops.toList) ops.toList 0) <;> rw [hall] at hp <;> simp only [cond_true, cond_false] at hp
    · cases hp
    simp only [Option.some.injEq] at hp
    rw [Bool.and_eq_true, Bool.and_eq_true] at hall
    obtain ⟨⟨hedge, hlook⟩, hdst⟩ := hall
    have hedge := allIdx_spec _ _ hedge
    have hlook := allIdx_spec _ _ hlook
    have hdst := allIdx_spec _ _ hdst
    have hget : ∀ {k : Nat} {o : Oper}, ops[k]? = some o → ops.toList[k]? = some o := fun h => by rwa [Array.getElem?_toList]
    have hlt : ∀ {k : Nat} {o : Oper}, ops[k]? = some o → k < ops.size := fun h => (Array.getElem?_eq_some_iff.1 h).1
    have hpos : ∀ {k : Nat}, k < ops.size → ∃ o, ops[k]? = some o := fun {k} h => ⟨ops[k], by simp [h]⟩
    have hinc : ∀ i, i < ops.size → incs.getD i [] = incOf (predsF ops.toList 0 []) ops.toList.length i := by
      intro i hi
      rw [← hp, List.getD_eq_getElem?_getD]
      simp [hi]
    have hspec := (predsF_spec ops.toList 0 [] rfl).2
    have hsz : ∀ k, k ≤ ops.size → wm ≤ (hs k).size ∧ s.h.size ≤ (hs k).size := by
      intro k
      induction k with
      | zero => intro _; rw [e1]; exact ⟨hwm, Nat.le_refl _⟩
      | succ k ihk =>
        intro hk
        obtain ⟨o, ho⟩ := hpos (show k < ops.size by omega)
        obtain ⟨t, h1, q1, q2, q3, q4⟩ := e6 k o (hget ho)
        obtain ⟨km, _, _⟩ := dstep_keep HK q2 (by rw [mask_size]; exact (ihk (by omega)).1)
        have := km.size
        rw [mask_size] at this
        rw [q3, unmask_size]
        have := ihk (by omega)
        omega
    have htl : ∀ {k : Nat} {t : Option Nat} {m : Nat}, tl'[k]? = some (t, m) → (tl'.getD k (none, 0)).1 = t := by
      intro k t m h; rw [List.getD_eq_getElem?_getD, h]; rfl
    have htn : ∀ {k : Nat} {t : Option Nat} {m : Nat}, tl'[k]? = some (t, m) → (tl'.getD k (none, 0)).2 = m := by
      intro k t m h; rw [List.getD_eq_getElem?_getD, h]; rfl
    have hhAt : ∀ k, k ≤ ops.size → hAt st' h' k = hs k := by
      intro k hk
      unfold hAt
      by_cases hk' : k < ops.size
      · rw [e8 k (by simpa using hk')]
      · have : k = ops.toList.length := by simp; omega
        rw [List.getElem?_eq_none (by rw [e7]; omega), this, e3]
    have hsoft : soft = true → ∀ i, i < ops.size → (incs.getD i []).isEmpty = false → softJ tl' (tl'.getD i (none, 0)).2 (Xs.getD i []) (incs.getD i []) = [] ∨
        ∃ p, softJ tl' (tl'.getD i (none, 0)).2 (Xs.getD i []) (incs.getD i []) = [p] ∧ softOne X pur ih n wm s.wr ops.toList Xs tl' st' h' i p.1 p.2 = true := by
      intro hs1 i hi hne
      rw [hs1] at hsck
      simp only [cond_true, List.all_eq_true] at hsck
      have := hsck i (by simpa using hi)
      unfold softCk at this
      rw [hne] at this
      simp only [cond_false] at this
      split at this
      · rename_i e; exact .inl e
      · rename_i p q e
        cases q with
        | nil => exact .inr ⟨p, e, this⟩
        | cons _ _ => cases this
    refine ⟨{ hs := hs, fs := fs, vs := vs, ts := fun k => (tl'.getD k (none, 0)).1, Xs := fun k => Xs.getD k [], fre := fun k => match ops[k]? with | some o => freOf ops.toList o (incs.getD k []) | none => true, hl := hlAt ops.toList, soft := fun k => bif soft then softOf tl' Xs incs k else none, Pb := fun j k => bit ((predsF ops.toList 0 []).getD j 0) k = true,
              size0 := by rw [e1]; exact hwm, step := ?_, wmM := ?_, dst := ?_, pb_elim := ?_, edges := ?_, inc := ?_, hlOK := ?_, softOK := ?_, MX := ?_, looks := ?_, dsts := ?_ }, e1, e2, by rw [← e3]; simp, by rw [← e4]; simp, rfl⟩
    · intro k o ho
      obtain ⟨t, h1, q1, q2, q3, q4⟩ := e6 k o (hget ho)
      have hw := (hsz k (Nat.le_of_lt (hlt ho))).1
      obtain ⟨km, _, _⟩ := dstep_keep HK q2 (by rw [mask_size]; exact hw)
      rw [htl q1, ho]
      exact ⟨h1, dstep_real HI HK q2, km, q3, q4⟩
    · intro k x hk hx
      obtain ⟨o, ho⟩ := hpos hk
      obtain ⟨t, h1, q1, q2, q3, q4⟩ := e6 k o (hget ho)
      have hw := (hsz k (Nat.le_of_lt hk)).1
      obtain ⟨_, hm, _⟩ := dstep_keep HK q2 (by rw [mask_size]; exact hw)
      rw [htl q1, ho] at hx
      exact hm x hx
    · intro k o d ho hd
      obtain ⟨t, h1, q1, q2, q3, q4⟩ := e6 k o (hget ho)
      have hw := (hsz k (Nat.le_of_lt (hlt ho))).1
      obtain ⟨_, _, h3⟩ := dstep_keep HK q2 (by rw [mask_size]; exact hw)
      exact (h3 d hd).1
    · intro j k h
      obtain ⟨o, ho, e, he, hb, hk⟩ := hspec j k (Nat.zero_le _) h
      exact ⟨o, e, by rw [← Array.getElem?_toList]; simpa using ho, by simpa using he, hb, hk⟩
    · intro j o e ho he hb
      have := hedge j o (hget ho)
      unfold edgeOK at this
      rw [List.all_eq_true] at this
      have := this e (by simpa using he)
      rw [hb] at this
      simpa [Nat.blt_eq] using this
    · intro i j hi hj hne h1 h2 hhl x hx hxj
      obtain ⟨o, ho⟩ := hpos hi
      obtain ⟨t, h3, q1, q2, q3, q4⟩ := e6 i o (hget ho)
      have hnc : comp (predsF ops.toList 0 []) i j = false := by
        rw [Bool.eq_false_iff]; intro hc
        rcases comp_pb hc with z | z
        · exact h1 z
        · exact h2 z
      have hnc' : comp (predsF ops.toList 0 []) j i = false := by
        rw [Bool.eq_false_iff]; intro hc
        rcases comp_pb hc with z | z
        · exact h2 z
        · exact h1 z
      have hmem : j ∈ incs.getD i [] := by
        rw [hinc i hi]
        unfold incOf
        rw [List.mem_filter]
        have hb : Nat.beq i j = false := by rw [beq_decide]; simpa using hne
        exact ⟨by simpa using hj, by rw [hb, hnc]; rfl⟩
      have hmem' : i ∈ incs.getD j [] := by
        rw [hinc j hj]
        unfold incOf
        rw [List.mem_filter]
        have hb : Nat.beq j i = false := by rw [beq_decide]; simpa using Ne.symm hne
        exact ⟨by simpa using hi, by rw [hb, hnc']; rfl⟩
      have hhi : heapless o = false := by
        unfold hlAt at hhl
        rwa [hget ho] at hhl
      obtain ⟨oj, hoj⟩ := hpos hj
      have hjf : freOf ops.toList oj (incs.getD j []) = false := by
        unfold freOf
        rw [Bool.and_eq_false_iff]
        right
        rw [Bool.eq_false_iff]
        intro hall
        rw [List.all_eq_true] at hall
        rw [hall i hmem'] at hhl
        cases hhl
      rw [hoj] at hx
      dsimp only at hx
      unfold MOf at hx
      rw [if_neg (by rw [hjf]; simp)] at hx
      rcases ckF_spec _ _ _ _ hck i t _ o q1 (hget ho) with z | ⟨z, _⟩ | ⟨_, _, _, z⟩
      · rw [hhi] at z; cases z
      · unfold freOf at z
        rw [Bool.and_eq_true, List.all_eq_true] at z
        have zj := z.2 j hmem
        unfold hlAt at zj
        rw [hget hoj] at zj
        -- an operation that does not look at the heap touches nothing
        obtain ⟨tj, hj1, r1, r2, r3, r4⟩ := e6 j oj (hget hoj)
        have := (dstep_heapless zj r2).1
        rw [htl r1, this] at hx
        cases hx
      · have := z j hmem
        unfold tIn at this
        rw [hx] at this
        simp only [Bool.or_eq_true, Bool.and_eq_true, Nat.blt_eq, List.contains_iff_mem] at this
        refine this.imp (fun h4 => ⟨h4.1, ?_⟩) fun h4 => ?_
        · by_cases hXx : x ∈ Xs.getD i []
          · exact .inl hXx
          refine .inr ?_
          have hs1 : soft = true := h4.2.resolve_right hXx
          have hif : (incs.getD i []).isEmpty = false := by
            cases hh : incs.getD i [] with
            | nil => rw [hh] at hmem; cases hmem
            | cons _ _ => rfl
          have hin : (x, j) ∈ softJ tl' (tl'.getD i (none, 0)).2 (Xs.getD i []) (incs.getD i []) := by
            unfold softJ
            rw [List.mem_filterMap]
            refine ⟨j, hmem, ?_⟩
            unfold softJ1
            rw [hx, htn q1]
            have : (Nat.blt x (hs i).size && !(Xs.getD i []).contains x) = true := by
              rw [Bool.and_eq_true, Nat.blt_eq, Bool.not_eq_true']
              exact ⟨h4.1, by rw [Bool.eq_false_iff]; intro z; rw [List.contains_iff_mem] at z; exact hXx z⟩
            simp only [this, cond_true]
          simp only [hs1, cond_true]
          unfold softOf
          rw [hif]
          simp only [cond_false]
          rcases hsoft hs1 i hi hif with z | ⟨p, z, _⟩
          · rw [z] at hin; cases hin
          · rw [z] at hin ⊢
            rw [List.mem_singleton] at hin
            rw [← hin]; rfl
        have h5 := Nat.le_of_ble_eq_true h4
        have hn : nextN (tl'.drop (i + 1)) h'.size = (hs (i + 1)).size := by
          by_cases hi1 : i + 1 < ops.size
          · obtain ⟨o', ho'⟩ := hpos hi1
            obtain ⟨t', _, r1, _⟩ := e6 (i + 1) o' (hget ho')
            have : tl'.drop (i + 1) = (t', (hs (i + 1)).size) :: tl'.drop (i + 2) := by
              obtain ⟨hl, he⟩ := List.getElem?_eq_some_iff.1 r1
              rw [List.drop_eq_getElem_cons hl, he]
            rw [this]; rfl
          · have hlen : i + 1 = ops.toList.length := by simp; omega
            have : tl'.drop (i + 1) = [] := by rw [List.drop_eq_nil_iff, e5]; omega
            rw [this, hlen, e3]; rfl
        rw [hn] at h5; exact h5
    · intro i o ho hh
      have hi := hlt ho
      obtain ⟨t, h3, q1, q2, q3, q4⟩ := e6 i o (hget ho)
      have hho : heapless o = true := by unfold hlAt at hh; rwa [hget ho] at hh
      obtain ⟨rfl, rfl, hg⟩ := dstep_heapless hho q2
      have hfr : freOf ops.toList o (incs.getD i []) = false := by unfold freOf; rw [hho]; rfl
      have hM : MOf false wm none = fun _ => False := by
        funext x; unfold MOf; rw [if_neg (by simp)]; simp
      refine ⟨fun y hy => ?_, ?_, fun g => ?_⟩
      · rw [htl q1, ho] at hy
        dsimp only at hy
        rw [hfr, hM] at hy
        exact hy
      · rw [q3, unmask_size, mask_size]
      · have hst := dstep_real (rd := rd) HI HK (hg g)
        rw [hfr, hM] at hst
        exact hst
    · intro i o x j ho hso
      have hi := hlt ho
      obtain ⟨t, h3, q1, q2, q3, q4⟩ := e6 i o (hget ho)
      have hs1 : soft = true := by cases soft with | true => rfl | false => cases hso
      simp only [hs1, cond_true] at hso
      unfold softOf at hso
      cases hif : (incs.getD i []).isEmpty <;> rw [hif] at hso <;> simp only [cond_true, cond_false] at hso
      case true => cases hso
      rcases hsoft hs1 i hi hif with z | ⟨p, z, hone⟩
      · rw [z] at hso; cases hso
      rw [z] at hso
      cases hso
      have hmem : (x, j) ∈ softJ tl' (tl'.getD i (none, 0)).2 (Xs.getD i []) (incs.getD i []) := by rw [z]; simp
      unfold softJ at hmem
      rw [List.mem_filterMap] at hmem
      obtain ⟨j', hj', hm⟩ := hmem
      unfold softJ1 at hm
      split at hm
      case h_2 => cases hm
      rename_i x' hx'
      cases hbb : (Nat.blt x' (tl'.getD i (none, 0)).2 && !(Xs.getD i []).contains x') <;> rw [hbb] at hm <;> simp only [cond_true, cond_false] at hm
      · cases hm
      cases hm
      rw [Bool.and_eq_true, Nat.blt_eq, htn q1] at hbb
      have hjm : j < ops.size := by
        rcases Nat.lt_or_ge j ops.size with z | z
        · exact z
        · rw [List.getD_eq_getElem?_getD, List.getElem?_eq_none (by rw [e5]; simpa using z)] at hx'; cases hx'
      unfold softOne at hone
      rw [hget ho, e8 i (by simpa using hi)] at hone
      simp only [Bool.and_eq_true, Nat.blt_eq, hhAt (i + 1) (by omega), hhAt (j + 1) (by omega)] at hone
      obtain ⟨⟨⟨⟨⟨o1, o2⟩, o3⟩, o4⟩, o5⟩, o6⟩ := hone
      have ht : t = none := by rw [htl q1] at o2; simpa using o2
      subst ht
      have hff : freOf ops.toList o (incs.getD i []) = false := by
        rw [Bool.eq_false_iff]
        intro hf
        unfold freOf at hf
        rw [Bool.and_eq_true, List.all_eq_true] at hf
        have zj := hf.2 j hj'
        obtain ⟨oj, hoj⟩ := hpos hjm
        unfold hlAt at zj
        rw [hget hoj] at zj
        obtain ⟨tj, hj1, r1, r2, r3, r4⟩ := e6 j oj (hget hoj)
        rw [htl r1, (dstep_heapless zj r2).1] at hx'
        cases hx'
      rw [hff] at q2
      have hM : MOf false wm none = fun _ => False := by
        funext x; unfold MOf; rw [if_neg (by simp)]; simp
      have hw := (hsz i (Nat.le_of_lt hi)).1
      refine ⟨o1, hjm, hbb.1, fun y hy => ?_, Nat.eq_of_beq_eq_true o3, fun _ _ _ _ _ _ h => h.ofPlain o4, fun _ _ _ _ _ _ h => h.ofPlain o5, ?_, ?_⟩
      · rw [htl q1, ho] at hy
        dsimp only at hy
        rw [hff, hM] at hy; exact hy
      · have km := (dstep_keep HK q2 (by rw [mask_size]; exact hw)).1
        have hst := dstep_real (rd := rd) HI HK q2
        rw [hM] at km hst
        have hsz1 : h3.size = (mask (Xs.getD i []) (hs i)).size := by
          have := Nat.eq_of_beq_eq_true o3
          rw [q3, unmask_size] at this
          rw [mask_size]; exact this
        exact hst.same hsz1 km
      · unfold softV at o6
        split at o6
        case h_2 => cases o6
        rename_i v' h4 hd4
        rw [Bool.and_eq_true] at o6
        obtain ⟨p1, p2⟩ := o6
        rw [sameV_eq p2] at hd4
        have km := (dstep_keep HK hd4 (by rw [H.size_put, mask_size]; exact hw)).1
        have hst := dstep_real (rd := rd) HI HK hd4
        rw [hM] at km hst
        exact hst.same (Nat.eq_of_beq_eq_true p1) km
    · intro i x hi hx hxi
      obtain ⟨o, ho⟩ := hpos hi
      obtain ⟨t, h3, q1, q2, q3, q4⟩ := e6 i o (hget ho)
      rw [ho] at hx
      dsimp only at hx
      rcases ckF_spec _ _ _ _ hck i t _ o q1 (hget ho) with z | ⟨z1, z2⟩ | ⟨_, z1, z2, _⟩
      · have hfr : freOf ops.toList o (incs.getD i []) = false := by unfold freOf; rw [z]; rfl
        rw [hfr] at hx
        unfold MOf at hx
        rw [if_neg (by simp), htl q1, (dstep_heapless z q2).1] at hx
        cases hx
      · rw [z2]; simp
      · unfold MOf at hx
        rw [if_neg (by rw [z1]; simp), htl q1] at hx
        subst hx
        unfold tOut at z2
        simpa using z2
    · intro i o t ho ht k o' ho' hd
      have := hlook i o (hget ho)
      unfold lookOK at this
      rw [List.all_eq_true] at this
      have := allIdx_spec _ _ (this t ht) k o' (hget ho')
      rw [isT_iff.2 hd] at this
      simp only [cond_true, Bool.or_eq_true, Nat.zero_add] at this
      rcases this with z | z
      · exact .inl (Nat.eq_of_beq_eq_true z)
      · exact .inr (comp_pb z)
    · intro i j o o' t ho ho' hd hd'
      have := hdst i o (hget ho)
      unfold dstOK at this
      rw [hd] at this
      have := allIdx_spec _ _ this j o' (hget ho')
      rw [isT_iff.2 hd'] at this
      simp only [cond_true, Nat.zero_add] at this
      exact (Nat.eq_of_beq_eq_true this).symm
  · cases hr

theorem drawOnce_keep (HK : ∀ j r, ih j = some r → JobKeep j r) {n wm : Nat} {soft : Bool} {ops : List Oper} {incs Xs : List (List Nat)} {s s' : Fs} {tl : List (Option Nat × Nat)} {ok : Bool}
    (hr : drawOnce X pur ih n wm soft ops incs Xs s = some (tl, ok, s')) (hwm : wm ≤ s.h.size) : KeepH wm s.h s'.h := by
  have main : ∀ (wr : Option Nat) (l : List Oper) (incs Xs : List (List Nat)) (fr fr' : Fr) (h h' : H) (tl : List (Option Nat × Nat)) (st : List (Fr × H × Value)), drun X pur ih n wm wr ops l incs Xs fr h = some (tl, st, fr', h') → wm ≤ h.size → KeepH wm h h' := by
    intro wr l
    induction l with
    | nil => intro incs Xs fr fr' h h' tl st hr _; simp only [drun, Option.some.injEq, Prod.mk.injEq] at hr; obtain ⟨_, _, _, rfl⟩ := hr; exact KeepH.refl _ _
    | cons o l ihl =>
      intro incs Xs fr fr' h h' tl st hr hw
      match incs, Xs, hr with
      | inc :: incs, X' :: Xs, hr =>
        simp only [drun] at hr
        split at hr
        · rename_i t v h1 hd
          split at hr
          · rename_i tl2 st2 fr2 h2 hr2
            cases hr
            obtain ⟨km, hm, _⟩ := dstep_keep HK hd (by rw [mask_size]; exact hw)
            have hsz := km.size
            rw [mask_size] at hsz
            have k1 : KeepH wm h (unmask X' h h1) := by
              refine ⟨by rw [unmask_size]; exact hsz, fun i hi => ?_, fun i hi ho => ?_, fun i hi ho => ?_⟩
              · rw [unmask_at _ _ _ hsz]
                by_cases hX : i ∈ X' ∧ i < h.size
                · rw [if_pos hX]
                · rw [if_neg hX, km.keep i (by rw [mask_size]; omega) (fun z => by have := hm i z; omega), mask_at, if_neg fun z => hX ⟨z, by omega⟩]
              · rw [unmask_at _ _ _ hsz] at ho
                by_cases hX : i ∈ X' ∧ i < h.size
                · rwa [if_pos hX] at ho
                · rw [if_neg hX] at ho
                  have := km.own i (by rw [mask_size]; exact hi) ho
                  rw [mask_at, if_neg fun z => hX ⟨z, hi⟩] at this
                  exact this
              · rw [unmask_at _ _ _ hsz] at ho
                by_cases hX : i ∈ X' ∧ i < h.size
                · rwa [if_pos hX] at ho
                · rw [if_neg hX] at ho
                  have := km.live i (by rw [mask_size]; exact hi) ho
                  rw [mask_at, if_neg fun z => hX ⟨z, hi⟩] at this
                  exact this
            exact k1.next hw (ihl _ _ _ _ _ _ _ _ hr2)
          · cases hr
        · cases hr
      | [], _, hr => simp [drun] at hr
      | _ :: _, [], hr => simp [drun] at hr
  unfold drawOnce at hr
  split at hr
  · rename_i tl' st' fr' h' hd
    simp only [Option.some.injEq, Prod.mk.injEq] at hr
    obtain ⟨_, _, rfl⟩ := hr
    exact main _ _ _ _ _ _ _ _ _ _ hd hwm
  · cases hr

/-- The interpreter's setup. -/
def cfg (X : Ctx) (pur : FuncId → Bool) : Cfg := ⟨X, pur, fun ih n wm _ ops s => adraw X pur ih n wm ops s⟩

theorem cfg_keep : DrawKeep (cfg X pur) := by
  intro ih HK n wm rd ops s s' hr hwm
  obtain ⟨_, _, _, _, _, h1⟩ := adraw_some (X := X) (pur := pur) hr
  exact drawOnce_keep HK h1 hwm

end Go.Abs
