/- The abstract interpreter, 10: all operations under one name. -/
import Derived.Test.YtcnahmgekicbdaaGreatAbs9
noncomputable section
namespace Go.Abs
variable {ρ : Ren} {h : H} {w : World}

def vN (v : Option Value) : Option (AN × Eff) :=
  match v with
  | some v => some (.val v, .none)
  | none => none
def vE (v : Option (Value × Eff)) : Option (AN × Eff) :=
  match v with
  | some (v, E) => some (.val v, E)
  | none => none
def sE (v : Option Eff) : Option (AN × Eff) :=
  match v with
  | some E => some (.skip, E)
  | none => none
def pN (v : Option AN) : Option (AN × Eff) :=
  match v with
  | some v => some (v, .none)
  | none => none

theorem vN_sound {P : Program} {v : Option Value} {nx : AN} {E : Eff} {s : Sem Value} (ha : vN v = some (nx, E)) (hs : ∀ x, v = some x → ∃ x', VR ρ x x' ∧ s.run P w = .ok x' w) :
    OpOK P ρ h w (do pure (.value (← s))) nx E := by
  unfold vN at ha
  split at ha
  · cases ha; obtain ⟨x', h1, h2⟩ := hs _ rfl; exact OpOK.val_bind h1 h2
  · cases ha

def isEq : BinOp → Bool
  | .eql | .neq => true
  | _ => false

def abin (P : Program) (op : BinOp) (t : TypeId) (x y : Operand) (a b : Value) : Option (AN × Eff) :=
  bif plain a && plain b then pN (pval P (do eqGuard op t x y a b; binOp op t a b))
  else match op with
  | .eql => match nilEq P t a b with
    | some r => some (.val (.bool r), .none)
    | none => none
  | .neq => match nilEq P t a b with
    | some r => some (.val (.bool (!r)), .none)
    | none => none
  | _ => none

theorem nilEq_guard {P : Program} {t : TypeId} {a a' b b' : Value} {r : Bool} (ha : VR ρ a a') (hb : VR ρ b b') (hn : nilEq P t a b = some r) (op : BinOp) (x y : Operand) (hp : (plain a && plain b) = false) :
    (eqGuard op t x y a' b').run P w = .ok () w ∧ (op = .eql → binOp op t a' b' = do pure (.bool (← Op.equal t a' b'))) ∧ (op = .neq → binOp op t a' b' = do pure (.bool (!(← Op.equal t a' b')))) := by
  unfold nilEq at hn
  split at hn
  all_goals first
    | (cases hn; done)
    | (cases ha <;> cases hb <;> first
        | (exfalso; simp [plain, scalar] at hp; done)
        | (refine ⟨?_, fun e => ?_, fun e => ?_⟩
           · unfold eqGuard; cases op <;> rfl
           · subst e; rfl
           · subst e; rfl))

theorem bin_sound {P : Program} {op : BinOp} {t : TypeId} {x y : Operand} {a a' b b' : Value} {nx : AN} {E : Eff} (ha : VR ρ a a') (hb : VR ρ b b') (hr : abin P op t x y a b = some (nx, E)) :
    OpOK P ρ h w (do pure (.value (← (do eqGuard op t x y a' b'; binOp op t a' b' : Sem Value)))) nx E := by
  unfold abin at hr
  cases hp : (plain a && plain b) <;> rw [hp] at hr
  · simp only [cond_false] at hr
    split at hr
    · split at hr
      · rename_i r hn
        cases hr
        obtain ⟨g1, g2, _⟩ := nilEq_guard (w := w) ha hb hn .eql x y hp
        have he := nilEq_sound (w := w) ha hb hn
        exact OpOK.val_bind (.bool r) (by simp only [Sem.run_bind, g1, Result.andThen_ok, g2 rfl, he]; rfl)
      · cases hr
    · split at hr
      · rename_i r hn
        cases hr
        obtain ⟨g1, _, g2⟩ := nilEq_guard (w := w) ha hb hn .neq x y hp
        have he := nilEq_sound (w := w) ha hb hn
        exact OpOK.val_bind (.bool (!r)) (by simp only [Sem.run_bind, g1, Result.andThen_ok, g2 rfl, he]; rfl)
      · cases hr
    · cases hr
  · simp only [cond_true] at hr
    rw [Bool.and_eq_true] at hp
    rw [VR.plain_eq hp.1 ha, VR.plain_eq hp.2 hb]
    unfold pN at hr
    split at hr
    · rename_i v e; cases hr; exact pval_sound e
    · cases hr

def allPlain (vs : List Value) : Bool := vs.all plain
theorem LR.plain_eq {xs ys : List Value} (hv : LR ρ xs ys) (h : allPlain xs = true) : ys = xs := by
  apply List.ext_getElem hv.1.symm
  intro i h1 h2
  unfold allPlain at h
  rw [List.all_eq_true] at h
  exact VR.plain_eq (h _ (List.getElem_mem h2)) (hv.2 i _ _ (List.getElem?_eq_getElem h2) (List.getElem?_eq_getElem h1))

def abuiltin (P : Program) (h : H) (b : Builtin) (ts : Array TypeId) (ty : TypeId) (args : List Value) : Option (AN × Eff) :=
  match b, args with
  | .append, [s, x] => vE (aappend P h ts s x)
  | .len, [x] => match ts.toList with
    | t :: _ => vN (alen P h t x)
    | [] => none
  | .copy, [d, s] => match ts.toList with
    | t :: _ => vE (acopy P h t d s)
    | [] => none
  | .clear, [x] => match ts.toList with
    | t :: _ => match aclear P h t x with
      | some E => some (.val (.tuple #[]), E)
      | none => none
    | [] => none
  | .delete, [m, k] => match ts.toList with
    | t :: _ => match adelete P h t m k with
      | some E => some (.val (.tuple #[]), E)
      | none => none
    | [] => none
  | .min, vs => bif allPlain vs then pN (pval P (Builtin.min_ ts ty vs.toArray)) else none
  | .max, vs => bif allPlain vs then pN (pval P (Builtin.max_ ts ty vs.toArray)) else none
  | .recover, [] => some (.recov, .none)
  | _, _ => none

theorem vE_sound {P : Program} {v : Option (Value × Eff)} {nx : AN} {E : Eff} {s : Sem Next} (ha : vE v = some (nx, E)) (hs : ∀ x E, v = some (x, E) → OpOK P ρ h w s (.val x) E) : OpOK P ρ h w s nx E := by
  unfold vE at ha
  split at ha
  · cases ha; exact hs _ _ rfl
  · cases ha
theorem sE_sound {P : Program} {v : Option Eff} {nx : AN} {E : Eff} {s : Sem Next} (ha : sE v = some (nx, E)) (hs : ∀ E, v = some E → OpOK P ρ h w s .skip E) : OpOK P ρ h w s nx E := by
  unfold sE at ha
  split at ha
  · cases ha; exact hs _ rfl
  · cases ha
theorem pN_sound {P : Program} {v : Option AN} {nx : AN} {E : Eff} {s : Sem Next} (ha : pN v = some (nx, E)) (hs : ∀ x, v = some x → OpOK P ρ h w s x .none) : OpOK P ρ h w s nx E := by
  unfold pN at ha
  split at ha
  · cases ha; exact hs _ rfl
  · cases ha

theorem LR.one {x : Value} {ys : List Value} (h : LR ρ [x] ys) : ∃ y, ys = [y] ∧ VR ρ x y := by
  match ys, h with
  | [y], h => exact ⟨y, rfl, h.2 0 x y rfl rfl⟩
  | [], h => exact absurd h.1 (by simp)
  | _ :: _ :: _, h => exact absurd h.1 (by simp)
theorem LR.two {x x2 : Value} {ys : List Value} (h : LR ρ [x, x2] ys) : ∃ y y2, ys = [y, y2] ∧ VR ρ x y ∧ VR ρ x2 y2 := by
  match ys, h with
  | [y, y2], h => exact ⟨y, y2, rfl, h.2 0 x y rfl rfl, h.2 1 x2 y2 rfl rfl⟩
  | [], h => exact absurd h.1 (by simp)
  | [_], h => exact absurd h.1 (by simp)
  | _ :: _ :: _ :: _, h => exact absurd h.1 (by simp)

theorem builtin_sound {P : Program} {b : Builtin} {ts : Array TypeId} {ty : TypeId} {cs : Array Bool} {args args' : List Value} {nx : AN} {E : Eff} (r : Rel ρ h w) (hargs : LR ρ args args')
    (ha : abuiltin P h b ts ty args = some (nx, E)) : OpOK P ρ h w (builtin b ts ty cs args'.toArray) nx E := by
  unfold abuiltin at ha
  split at ha
  · obtain ⟨s', x', rfl, h1, h2⟩ := LR.two hargs
    exact vE_sound ha fun _ _ e => append_sound r h1 h2 e
  · obtain ⟨x', rfl, h1⟩ := LR.one hargs
    split at ha
    · rename_i t rest e
      have ht : ts[0]? = some t := by rw [← Array.getElem?_toList, e]; rfl
      exact vN_sound ha fun _ e => len_sound ht r h1 e
    · cases ha
  · obtain ⟨s', x', rfl, h1, h2⟩ := LR.two hargs
    split at ha
    · rename_i t rest e
      have ht : ts[0]? = some t := by rw [← Array.getElem?_toList, e]; rfl
      exact vE_sound ha fun _ _ e => copy_sound ht r h1 h2 e
    · cases ha
  · obtain ⟨x', rfl, h1⟩ := LR.one hargs
    split at ha
    · rename_i t rest e
      have ht : ts[0]? = some t := by rw [← Array.getElem?_toList, e]; rfl
      split at ha
      · rename_i E e; cases ha; exact clear_sound ht r h1 e
      · cases ha
    · cases ha
  · obtain ⟨s', x', rfl, h1, h2⟩ := LR.two hargs
    split at ha
    · rename_i t rest e
      have ht : ts[0]? = some t := by rw [← Array.getElem?_toList, e]; rfl
      split at ha
      · rename_i E e; cases ha; exact delete_sound ht r h1 h2 e
      · cases ha
    · cases ha
  · cases hp : allPlain args <;> rw [hp] at ha <;> simp at ha
    rw [hargs.plain_eq hp]
    exact pN_sound ha fun _ e => pval_sound e
  · cases hp : allPlain args <;> rw [hp] at ha <;> simp at ha
    rw [hargs.plain_eq hp]
    exact pN_sound ha fun _ e => pval_sound e
  · cases ha
    exact ⟨ρ, w, Same.refl w, ⟨rfl, rfl⟩, rfl⟩
  · cases ha

def isYield : Fn → Bool
  | .yield _ => true
  | _ => false
def isFunc : Fn → Bool
  | .func _ => true
  | _ => false

def aop (X : Ctx) (h : H) (ev : Operand → Option Value) (o : Oper) : Option (AN × Eff) :=
  match o.op with
  | .move x | .assign x => vN (ev x)
  | .pick c a b => match ev c with
    | some (.bool true) => vN (ev a)
    | some (.bool false) => vN (ev b)
    | _ => none
  | .alloc t => match zeroP X.P t with
    | some z => some (.val (freshPtr h), .new (.row z.cells.toList true 0))
    | none => none
  | .box _ x => match ev x with
    | some v => some (.val (freshPtr h), .new (.row v.cells.toList true 0))
    | none => none
  | .build t ps => match evp ev ps.toList with
    | some ps => vN (abuild X.P t ps)
    | none => none
  | .buildSlice t n ps => match evp ev ps.toList with
    | some ps => vE (aslit X.P h t n ps)
    | none => none
  | .load t x => match ev x with
    | some v => vN (aload X.P h t v)
    | none => none
  | .store t a x => match ev a, ev x with
    | some a, some x => sE (astore X.P h t a x)
    | _, _ => none
  | .nilCheck x => match ev x with
    | some (.pointer (some a)) => some (.val (.pointer (some a)), .none)
    | _ => none
  | .binOp op t x y _ => match ev x, ev y with
    | some a, some b => abin X.P op t x y a b
    | _, _ => none
  | .unOp op _ x => match ev x with
    | some a => bif plain a then pN (pval X.P (Op.unary op a)) else none
    | none => none
  | .convert s d x => match ev x with
    | some a => bif plain a then pN (pval X.P (convert s d a)) else none
    | none => none
  | .makeInterface t x => match ev x, X.P.underlying t with
    | some _, some (.interface _) => none
    | some v, some _ => some (.val (.iface t v), .none)
    | _, _ => none
  | .makeFunc fn first cap => bif isYield fn then none else match evs ev first.toList, evs ev cap.toList with
    | some vs, some us => some (.val (.func fn vs.toArray us.toArray), .none)
    | _, _ => none
  | .makeMap _ none => some (.val (.map (some h.size)), .new (.map [] 0))
  | .makeSlice t l c => match ev l, ev c with
    | some l, some c => vE (amake X.P h t l c)
    | _, _ => none
  | .slice t x lo hi mx => match ev x, evo ev lo, evo ev hi, evo ev mx with
    | some x, some lo, some hi, some mx => bif plain x && not (isSl x) then (match lo, hi, mx with
        | lo, hi, mx => bif allPlain (lo.toList ++ hi.toList ++ mx.toList) then pN (pval X.P (Instr.sliceAt t x lo hi mx)) else none)
      else vN (aslice X.P h t x lo hi mx)
    | _, _, _, _ => none
  | .fieldAddr s x f => match ev x with
    | some v => vN (afield X.P s v f)
    | none => none
  | .field t x f => match ev x with
    | some v => vN (afieldV X.P t v f)
    | none => none
  | .indexAddr t x i => match ev x, ev i with
    | some x, some i => vN (aindex X.P t x i)
    | _, _ => none
  | .index t x i => match ev x, ev i with
    | some x, some i => bif plain x && plain i then pN (pval X.P (Instr.index t x i)) else vN (aindexV X.P t x i)
    | _, _ => none
  | .lookup t m k ok => match ev m, ev k with
    | some m, some k => vN (alookup X.P h t m k ok)
    | _, _ => none
  | .mapUpdate t m k x | .insert t m k x => match ev m, ev k, ev x with
    | some m, some k, some x => sE (amapUpdate X.P h t m k x)
    | _, _, _ => none
  | .mapEntry t m k => match ev m, ev k with
    | some m, some k => vE (amapEntry X.P h t m k)
    | _, _ => none
  | .entryStore _ m s x => match ev m, ev s, ev x with
    | some m, some s, some x => sE (aentryStore h m s x)
    | _, _, _ => none
  | .typeAssert x _ t ok => match ev x with
    | some x => vN (aassert X.P x t ok)
    | none => none
  | .extract x k => match ev x with
    | some x => vN (aextract x k)
    | none => none
  | .call c => match c.callee, evs ev c.args.toList with
    | .builtin b, some args => abuiltin X.P h b c.argTypes o.type args
    | .value f, some args => match ev f with
      | some f => acall X h f args
      | none => none
    | _, _ => none
  | .defer c => match c.callee, evs ev c.args.toList with
    | .value f, some args => match ev f with
      | some (.func (.func g) first cap) => some (.dfr { target := .fn (.func g) cap, args := first ++ args.toArray }, .none)
      | _ => none
    | _, _ => none
  | .panic x => match ev x with
    | some (.iface t v) => some (.panic (.iface t v), .none)
    | _ => none
  | .range t x => match ev x with
    | some x => vE (arange X.P h t x)
    | none => none
  | .next it b => match ev it with
    | some it => vE (anext h it b)
    | none => none
  | .entry it => match ev it with
    | some it => vN (aentry h it)
    | none => none
  | _ => none

theorem map_arr {α β : Type} (f : α → β) (xs : Array α) : (xs.toList.map f).toArray = xs.map f := by cases xs; simp

theorem opt_toList {α : Type} (x : Option α) : x.toList = match x with | some a => [a] | none => [] := by cases x <;> rfl

theorem OptR.plain_eq {v v' : Option Value} (h : OptR ρ v v') (hp : allPlain v.toList = true) : v' = v := by
  cases v <;> cases v' <;> simp [OptR, allPlain] at h hp ⊢
  exact VR.plain_eq hp h

set_option maxHeartbeats 1000000 in
theorem aop_sound {X : Ctx} {ev : Operand → Option Value} {ev' : Operand → Value} {o : Oper} {nx : AN} {E : Eff} (r : Rel ρ h w) (he : EvR ρ ev ev') (ha : aop X h ev o = some (nx, E)) :
    OpOK X.P ρ h w (execOp ev' o) nx E := by
  unfold aop at ha
  split at ha
  · rename_i x ho
    unfold vN at ha
    split at ha
    · rename_i v e; cases ha; exact OpOK.val (he x v e) (by simp [execOp, ho])
    · cases ha
  · rename_i x ho
    unfold vN at ha
    split at ha
    · rename_i v e; cases ha; exact OpOK.val (he x v e) (by simp [execOp, ho])
    · cases ha
  · rename_i c a b ho
    split at ha
    · rename_i e
      have hc := he c _ e
      generalize hcc : ev' c = cv at hc
      cases hc
      unfold vN at ha
      split at ha
      · rename_i v e; cases ha; exact OpOK.val (he a v e) (by simp [execOp, ho, hcc, asBool])
      · cases ha
    · rename_i e
      have hc := he c _ e
      generalize hcc : ev' c = cv at hc
      cases hc
      unfold vN at ha
      split at ha
      · rename_i v e; cases ha; exact OpOK.val (he b v e) (by simp [execOp, ho, hcc, asBool])
      · cases ha
    · cases ha
  · -- alloc
    rename_i t ho
    split at ha
    · rename_i z hz; cases ha; unfold execOp; rw [ho]; exact alloc_sound r hz
    · cases ha
  · rename_i t x ho
    split at ha
    · rename_i v e; cases ha; unfold execOp; rw [ho]; exact box_sound r t (he x v e)
    · cases ha
  · rename_i t ps ho
    split at ha
    · rename_i vs e
      obtain ⟨q1, q2⟩ := evp_sound he _ _ e
      unfold execOp; rw [ho]
      refine vN_sound ha fun x hx => ?_
      obtain ⟨x', h1, h2⟩ := build_sound (w := w) q1 q2 hx
      have e3 : (ps.toList.map fun p : Nat × Operand => (p.1, ev' p.2)).toArray = ps.map fun p : Nat × Operand => (p.1, ev' p.2) := map_arr _ _
      rw [e3] at h2
      exact ⟨x', h1, h2⟩
    · cases ha
  · rename_i t n ps ho
    split at ha
    · rename_i vs e
      obtain ⟨q1, q2⟩ := evp_sound he _ _ e
      unfold execOp; rw [ho]
      refine vE_sound ha fun x E hx => ?_
      have := slit_sound r q1 q2 hx
      have e3 : (ps.toList.map fun p : Nat × Operand => (p.1, ev' p.2)).toArray = ps.map fun p : Nat × Operand => (p.1, ev' p.2) := map_arr _ _
      rw [e3] at this
      exact this
    · cases ha
  · rename_i t x ho
    split at ha
    · rename_i v e; unfold execOp; rw [ho]; exact vN_sound ha fun _ hx => load_sound r (he x v e) hx
    · cases ha
  · rename_i t a x ho
    split at ha
    · rename_i u v e1 e2; unfold execOp; rw [ho]; exact sE_sound ha fun _ hx => store_sound r (he a u e1) (he x v e2) hx
    · cases ha
  · rename_i x ho
    split at ha
    · rename_i a e
      cases ha
      have hx := he x _ e
      generalize hxx : ev' x = xv at hx
      cases hx with
      | ptr o hi => exact OpOK.val (.ptr o hi) (by simp [execOp, ho, hxx])
    · cases ha
  · rename_i op t x y yt ho
    split at ha
    · rename_i a b e1 e2; unfold execOp; rw [ho]; exact bin_sound (he x a e1) (he y b e2) ha
    · cases ha
  · rename_i op t x ho
    split at ha
    · rename_i a e
      cases hp : plain a <;> rw [hp] at ha <;> simp at ha
      unfold execOp; rw [ho]; dsimp only; rw [VR.plain_eq hp (he x a e)]
      exact pN_sound ha fun _ hx => pval_sound hx
    · cases ha
  · rename_i s d x ho
    split at ha
    · rename_i a e
      cases hp : plain a <;> rw [hp] at ha <;> simp at ha
      unfold execOp; rw [ho]; dsimp only; rw [VR.plain_eq hp (he x a e)]
      exact pN_sound ha fun _ hx => pval_sound hx
    · cases ha
  · rename_i t x ho
    split at ha
    · cases ha
    · rename_i v d hni e1 e2
      cases ha
      refine OpOK.val (.iface t _ _ (he x v e1)) ?_
      cases d <;> simp [execOp, ho, Instr.makeInterface, run_underlying e2] at hni ⊢
    · cases ha
  · rename_i fn first cap ho
    cases hy : isYield fn <;> rw [hy] at ha <;> simp at ha
    split at ha
    · rename_i vs us e1 e2
      cases ha
      have q1 := (evs_sound he _ _ e1).arr
      have q2 := (evs_sound he _ _ e2).arr
      refine OpOK.val (.func fn _ _ (first.map ev') (cap.map ev') (fun l hl => by subst hl; cases hy) (by simpa using q1.1) (by simpa using q2.1)
        (fun i v v' a b => q1.2 i v v' a (by simpa using b)) (fun i v v' a b => q2.2 i v v' a (by simpa using b))) (by simp [execOp, ho, Instr.makeFunc])
    · cases ha
  · rename_i t ho
    cases ha
    refine ⟨ρ.add h.size (w.heap.size, 0) (0, 0), World.push w (.map #[] 0), same_push _, ⟨_, rfl, ⟨_, rfl⟩, rfl, #[], push_at _, .nil⟩, .map (some w.heap.size), .map (Ren.add_same ρ h.size _ _), ?_⟩
    simp [execOp, ho, Instr.makeMap]; rfl
  · rename_i t l c ho
    split at ha
    · rename_i u v e1 e2; unfold execOp; rw [ho]; exact vE_sound ha fun _ _ hx => make_sound r (he l u e1) (he c v e2) hx
    · cases ha
  · rename_i t x lo hi mx ho
    split at ha
    · rename_i v lo' hi' mx' e1 e2 e3 e4
      have q1 := he x v e1
      have q2 := evo_sound he e2
      have q3 := evo_sound he e3
      have q4 := evo_sound he e4
      unfold execOp; rw [ho]
      cases hp : (plain v && not (isSl v)) <;> rw [hp] at ha
      · simp only [cond_false] at ha
        exact vN_sound ha fun _ hx => slice_sound r q1 q2 q3 q4 hx
      · simp only [cond_true] at ha
        rw [Bool.and_eq_true] at hp
        cases hq : allPlain (lo'.toList ++ hi'.toList ++ mx'.toList) <;> rw [hq] at ha <;> simp only [cond_false, cond_true] at ha
        · cases ha
        · simp only [allPlain, List.all_append, Bool.and_eq_true] at hq
          dsimp only
          rw [VR.plain_eq hp.1 q1, OptR.plain_eq q2 hq.1.1, OptR.plain_eq q3 hq.1.2, OptR.plain_eq q4 hq.2]
          exact pN_sound ha fun _ hx => pval_sound hx
    · cases ha
  · rename_i s x f ho
    split at ha
    · rename_i v e; unfold execOp; rw [ho]; exact vN_sound ha fun _ hx => field_sound (he x v e) hx
    · cases ha
  · rename_i t x f ho
    split at ha
    · rename_i v e; unfold execOp; rw [ho]; exact vN_sound ha fun _ hx => fieldV_sound (he x v e) hx
    · cases ha
  · rename_i t x i ho
    split at ha
    · rename_i u v e1 e2; unfold execOp; rw [ho]; exact vN_sound ha fun _ hx => index_sound (he x u e1) (he i v e2) hx
    · cases ha
  · rename_i t x i ho
    split at ha
    · rename_i u v e1 e2
      unfold execOp; rw [ho]
      cases hp : (plain u && plain v) <;> rw [hp] at ha <;> simp only [cond_false, cond_true] at ha
      · exact vN_sound ha fun _ hx => indexV_sound (he x u e1) (he i v e2) hx
      · rw [Bool.and_eq_true] at hp
        dsimp only
        rw [VR.plain_eq hp.1 (he x u e1), VR.plain_eq hp.2 (he i v e2)]
        exact pN_sound ha fun _ hx => pval_sound hx
    · cases ha
  · rename_i t m k ok ho
    split at ha
    · rename_i u v e1 e2; unfold execOp; rw [ho]; exact vN_sound ha fun _ hx => lookup_sound r (he m u e1) (he k v e2) hx
    · cases ha
  · rename_i t m k x ho
    split at ha
    · rename_i u v y e1 e2 e3; unfold execOp; rw [ho]; exact sE_sound ha fun _ hx => mapUpdate_sound r (he m u e1) (he k v e2) (he x y e3) hx
    · cases ha
  · rename_i t m k x ho
    split at ha
    · rename_i u v y e1 e2 e3; unfold execOp; rw [ho]; exact sE_sound ha fun _ hx => mapUpdate_sound r (he m u e1) (he k v e2) (he x y e3) hx
    · cases ha
  · rename_i t m k ho
    split at ha
    · rename_i u v e1 e2; unfold execOp; rw [ho]; exact vE_sound ha fun _ _ hx => mapEntry_sound r (he m u e1) (he k v e2) hx
    · cases ha
  · rename_i t m s x ho
    split at ha
    · rename_i u v y e1 e2 e3; unfold execOp; rw [ho]; exact sE_sound ha fun _ hx => entryStore_sound r (he m u e1) (he s v e2) (he x y e3) hx
    · cases ha
  · rename_i x xt t ok ho
    split at ha
    · rename_i v e; unfold execOp; rw [ho]; exact vN_sound ha fun _ hx => assert_sound (he x v e) hx
    · cases ha
  · rename_i x k ho
    split at ha
    · rename_i v e; unfold execOp; rw [ho]; exact vN_sound ha fun _ hx => extract_sound (he x v e) hx
    · cases ha
  · rename_i c ho
    split at ha
    · rename_i b args e1 e2
      have q := evs_sound he _ _ e2
      have := builtin_sound (ts := c.argTypes) (ty := o.type) (cs := c.args.map fun | .const _ => true | _ => false) r q ha
      unfold execOp; rw [ho]
      have e3 : (c.args.toList.map ev').toArray = c.args.map ev' := map_arr _ _
      rw [e3] at this
      show OpOK X.P ρ h w (do let d ← resolve ev' c o.type; invoke d.target d.args) nx E
      unfold resolve
      rw [e1]
      exact this
    · rename_i f args e1 e2
      have q := evs_sound he _ _ e2
      split at ha
      · rename_i fv e4
        have := call_sound r (he f fv e4) q ha
        unfold execOp; rw [ho]
        have e3 : (c.args.toList.map ev').toArray = c.args.map ev' := map_arr _ _
        rw [e3] at this
        show OpOK X.P ρ h w (do let d ← resolve ev' c o.type; invoke d.target d.args) nx E
        unfold resolve
        rw [e1]
        exact this
      · cases ha
    · cases ha
  · rename_i c ho
    split at ha
    · rename_i f args e1 e2
      have q := evs_sound he _ _ e2
      split at ha
      · rename_i g first cap e4
        cases ha
        have hf := he f _ e4
        generalize hff : ev' f = fv at hf
        cases hf with
        | func _ _ _ first' cap' hy hx1 hx2 h1 h2 =>
          refine ⟨ρ, w, Same.refl w, ⟨rfl, rfl⟩, { target := .fn (.func g) cap', args := first' ++ c.args.map ev' }, ⟨⟨g, cap, cap', rfl, rfl, hx2, h2⟩, ?_⟩, ?_⟩
          · have e5 : LR ρ first.toList first'.toList := VRs.list ⟨hx1, h1⟩
            have := (e5.append q).arr
            have e6 : (first.toList ++ args).toArray = first ++ args.toArray := by apply Array.toList_inj.1; simp
            have e7 : (first'.toList ++ c.args.toList.map ev').toArray = first' ++ c.args.map ev' := by apply Array.toList_inj.1; simp
            rwa [e6, e7] at this
          · simp [execOp, ho, resolve, e1, hff, Deferred.ofValue]
      · cases ha
    · cases ha
  · rename_i x ho
    split at ha
    · rename_i t v e
      cases ha
      have hx := he x _ e
      generalize hxx : ev' x = xv at hx
      cases hx with
      | iface _ _ v' hv => exact ⟨ρ, w, Same.refl w, ⟨rfl, rfl⟩, .iface t v', .iface t v v' hv, by simp [execOp, ho, hxx, Instr.panic]⟩
    · cases ha
  · rename_i t x ho
    split at ha
    · rename_i v e; unfold execOp; rw [ho]; exact vE_sound ha fun _ _ hx => range_sound r (he x v e) hx
    · cases ha
  · rename_i it b ho
    split at ha
    · rename_i v e; unfold execOp; rw [ho]; exact vE_sound ha fun _ _ hx => next_sound r o.type (he it v e) hx
    · cases ha
  · rename_i it ho
    split at ha
    · rename_i v e; unfold execOp; rw [ho]; exact vN_sound ha fun _ hx => entry_sound r (he it v e) hx
    · cases ha
  · cases ha

end Go.Abs
