/- The abstract interpreter, 14: code, loops, calls, rounds. -/
import Derived.Test.YtcnahmgekicbdaaGreatAbs13
noncomputable section
namespace Go.Abs

/-- The results of a function, off its frame. -/
def ares1 (P : Program) (fr : Fr) (h : H) : ResultVar → Option Value
  | .tmp t => bif isAny (fr.at t) then none else some (fr.at t)
  | .cell a t => aload P h t (fr.at a)
def ares (P : Program) (fr : Fr) (h : H) : List ResultVar → Option (List Value)
  | [] => some []
  | r :: rs => match ares1 P fr h r, ares P fr h rs with
    | some v, some vs => some (v :: vs)
    | _, _ => none
def aresult (P : Program) (fn : Func) (fr : Fr) (h : H) : Option Value :=
  match ares P fr h fn.results.toList with
  | some [v] => some v
  | some vs => some (.tuple vs.toArray)
  | none => none

def frameOf : List Value → Nat → Fr → Fr
  | [], _, fr => fr
  | v :: vs, i, fr => frameOf vs (i + 1) (Tr.set fr i v)

def setParams : List (Tmp × Value) → Nat → Fr → Option Fr
  | [], _, fr => some fr
  | (t, v) :: r, n, fr => bif Nat.blt t n then setParams r n (Tr.set fr t v) else none

structure Cfg where
  X : Ctx
  pur : FuncId → Bool
  draw : (Job → Option Res) → Nat → Nat → Option Nat → List Oper → Fs → Option Fs

def cRes (k : XX → Fs → Option Res) (r : Option Res) : Option Res :=
  match r with
  | some (.code e s) => k e s
  | _ => none

def evSeq (ih : Job → Option Res) (a b : Code) (n wm : Nat) (rd : Option Nat) (s : Fs) : Option Res :=
  cRes (fun e s => match e with
    | .normal => ih (.code b n wm rd s)
    | e => some (.code e s)) (ih (.code a n wm rd s))
def evCond (ih : Job → Option Res) (c : Operand) (a b : Code) (n wm : Nat) (rd : Option Nat) (s : Fs) : Option Res :=
  match aev s.fr c with
  | some (.bool t) => bif t then ih (.code a n wm rd s) else ih (.code b n wm rd s)
  | _ => none
def evBlock (ih : Job → Option Res) (id : Nat) (c : Code) (n wm : Nat) (rd : Option Nat) (s : Fs) : Option Res :=
  cRes (fun e s => match e with
    | .exit k => bif Nat.beq k id then some (.code .normal s) else some (.code (.exit k) s)
    | e => some (.code e s)) (ih (.code c n wm rd s))
def evScope (ih : Job → Option Res) (c : Code) (n wm : Nat) (rd : Option Nat) (s : Fs) : Option Res :=
  cRes (fun e s => match e with
    | .goto _ => none
    | e => some (.code e s)) (ih (.code c n wm rd s))
def evLoop (ih : Job → Option Res) (c : Code) (n wm : Nat) (rd : Option Nat) (s : Fs) : Option Res :=
  cRes (fun e s => match e with
    | .normal => ih (.loop c n wm rd s)
    | e => some (.code e s)) (ih (.code c n wm rd s))
/-- A loop over a map: its iterator, fresh, and the map. -/
structure MI where
  id : Nat
  o : Oper
  l : List Oper
  ops : Array Oper
  rest : Code
  t : Tmp
  it : Nat
  m : Nat
  since : Nat
  clk : Nat
  es : List MapEntry
  clock : Nat

def mapIt3 (id : Nat) (o : Oper) (l : List Oper) (ops : Array Oper) (rest : Code) (t : Tmp) (s : Fs) : Option MI :=
  match s.fr.at t with
  | .pointer (some ⟨it, 0, none⟩) => match s.h.at it with
    | .iter m since clk none => match s.h.at m with
      | .map es clock => some ⟨id, o, l, ops, rest, t, it, m, since, clk, es, clock⟩
      | _ => none
    | _ => none
  | _ => none
def mapIt2 (id : Nat) (ops : Array Oper) (rest : Code) (s : Fs) : Option MI :=
  match ops.toList with
  | o :: l => match o.op, o.guard with
    | .next (.tmp t) false, none => mapIt3 id o l ops rest t s
    | _, _ => none
  | [] => none
def mapIt (c : Code) (s : Fs) : Option MI :=
  match c with
  | .seq (.region id ops false) rest => mapIt2 id ops rest s
  | _ => none

/-- The temporaries that code writes. -/
def dstL : Code → List Nat
  | .seq a b => dstL a ++ dstL b
  | .cond _ a b => dstL a ++ dstL b
  | .block _ c => dstL c
  | .scope c => dstL c
  | .loop c => dstL c
  | .region _ ops _ => ops.toList.filterMap (·.dst)
  | _ => []
def maskL : List Nat → Nat
  | [] => 0
  | t :: ts => Nat.lor (Nat.pow 2 t) (maskL ts)
def anyAll : List Nat → Fr → Fr
  | [], fr => fr
  | t :: ts, fr => anyAll ts (Tr.set fr t anyV)
def noneOf (b : Nat) : List MapEntry → Bool
  | [] => true
  | e :: es => bif Nat.beq e.born b then false else noneOf b es
def bornsOK (clock : Nat) : List MapEntry → Bool
  | [] => true
  | e :: es => Nat.blt e.born clock && noneOf e.born es && bornsOK clock es

def setd (fr : Fr) (d : Option Tmp) (v : Value) : Fr :=
  match d with
  | none => fr
  | some d => Tr.set fr d v

/-- The rest of the loop's body, behind the step. -/
def evBody (C : Cfg) (ih : Job → Option Res) (mi : MI) (n wm : Nat) (rd : Option Nat) (s : Fs) : Option Res :=
  match aops C.X C.pur ih n wm rd mi.ops.toList mi.l s with
  | some (.normal, s1) => ih (.code mi.rest n wm rd s1)
  | some (e, s1) => some (.code e s1)
  | none => none
def mapEach (C : Cfg) (ih : Job → Option Res) (mi : MI) (n : Nat) (rd : Option Nat) (wr : Nat) (fr : Fr) (s : Fs) : List MapEntry → Bool
  | [] => true
  | e :: es => (match evBody C ih mi n s.h.size rd { fr := setd fr mi.o.dst (.tuple #[.bool true, e.key, e.val]), ds := s.ds, h := s.h.put mi.it (.iter mi.m mi.since mi.clock (some e.born)), wr := some wr } with
      | some (.code .normal s2) => Nat.beq s2.ds.length s.ds.length
      | _ => false) && mapEach C ih mi n rd wr fr s es
def mapCk (mi : MI) (n wm : Nat) (T : List Nat) : Bool :=
  Nat.beq mi.since mi.clock && Nat.ble mi.clock mi.clk && bornsOK mi.clock mi.es && Nat.ble wm mi.it && !T.contains mi.t && (match mi.o.dst with | some d => Nat.blt d n && T.contains d | none => false)
theorem mapCk_spec {mi : MI} {n wm : Nat} {T : List Nat} (h : mapCk mi n wm T = true) : mi.since = mi.clock ∧ mi.clock ≤ mi.clk ∧ bornsOK mi.clock mi.es = true ∧ wm ≤ mi.it ∧ mi.t ∉ T ∧ ∃ d, mi.o.dst = some d ∧ d < n ∧ d ∈ T := by
  unfold mapCk at h
  simp only [Bool.and_eq_true, Bool.not_eq_true'] at h
  obtain ⟨⟨⟨⟨⟨h1, h2⟩, h3⟩, h4⟩, h5⟩, h6⟩ := h
  refine ⟨Nat.eq_of_beq_eq_true h1, Nat.le_of_ble_eq_true h2, h3, Nat.le_of_ble_eq_true h4, fun z => ?_, ?_⟩
  · rw [← List.contains_iff_mem] at z; rw [z] at h5; cases h5
  · cases hd : mi.o.dst with
    | none => rw [hd] at h6; cases h6
    | some d =>
      rw [hd] at h6
      simp only [Bool.and_eq_true, Nat.blt_eq, List.contains_iff_mem] at h6
      exact ⟨d, rfl, h6⟩
def evMap2 (C : Cfg) (ih : Job → Option Res) (mi : MI) (n wm : Nat) (rd : Option Nat) (s : Fs) (T : List Nat) : Option Res :=
  bif mapCk mi n wm T then
    bif mapEach C ih mi n rd (maskL T) (anyAll T s.fr) s mi.es then
      match evBody C ih mi n wm rd { s with fr := setd (anyAll T s.fr) mi.o.dst overV, h := s.h.put mi.it .dead } with
      | some (.code e s2) => match e with
        | .normal => none
        | e => some (.code e s2)
      | _ => none
    else none
  else none
def evMap (C : Cfg) (ih : Job → Option Res) (mi : MI) (c : Code) (n wm : Nat) (rd : Option Nat) (s : Fs) : Option Res :=
  evMap2 C ih mi n wm rd s ((dstL c).filter (allowed s.wr))
def evLoopM (C : Cfg) (ih : Job → Option Res) (c : Code) (n wm : Nat) (rd : Option Nat) (s : Fs) : Option Res :=
  match mapIt c s with
  | some mi => evMap C ih mi c n wm rd s
  | none => evLoop ih c n wm rd s

def evRegion (C : Cfg) (ih : Job → Option Res) (ops : Array Oper) (n wm : Nat) (rd : Option Nat) (s : Fs) : Option Res :=
  match aops C.X C.pur ih n wm rd ops.toList ops.toList s with
  | some (e, s) => some (.code e s)
  | none => none
def evDraw (C : Cfg) (ih : Job → Option Res) (ops : Array Oper) (n wm : Nat) (rd : Option Nat) (s : Fs) : Option Res :=
  match C.draw ih n wm rd ops.toList s with
  | some s => some (.code .normal s)
  | none => none

/-- Behind the function that was ranged over. -/
def evRanged (ih : Job → Option Res) (n wm : Nat) (rd : Option Nat) (l : Nat) (s : Fs) (r : Option Res) : Option Res :=
  match r with
  | some (.fin (.ret _) h2) => match h2.at l with
    | .loop st pd fr n' ps as bd df =>
      bif st == .busy then none else
      match pd with
      | none => some (.code .normal { s with h := h2.put l (.loop .exhausted pd fr n' ps as bd df) })
      | some c => ih (.code c n wm rd { s with h := h2.put l (.loop .exhausted pd fr n' ps as bd df) })
    | _ => none
  | some (.fin (.pan v) h2) => some (.code (.panic v) { s with h := h2 })
  | _ => none
def evRange1 (C : Cfg) (ih : Job → Option Res) (g : Operand) (n wm : Nat) (rd : Option Nat) (l : Nat) (s : Fs) : Option Res :=
  match aev s.fr g with
  | some gv => match acall C.X s.h gv [.func (.yield l) #[] #[]] with
    | some (.enter f args, .none) => evRanged ih n wm rd l s (ih (.call f args wm s.h))
    | _ => none
  | none => none
def evRange (C : Cfg) (ih : Job → Option Res) (g : Operand) (ps : Array Tmp) (as bd : Code) (n wm : Nat) (rd : Option Nat) (s : Fs) : Option Res :=
  match rd with
  | none => evRange1 C ih g n wm rd (s.h.size + 1) { s with ds := { target := .collected s.h.size, args := #[] } :: s.ds, h := (s.h.push .deferred).push (.loop .ready none s.fr n ps as bd s.h.size) }
  | some l => match s.h.at l with
    | .loop _ _ _ _ _ _ _ df => evRange1 C ih g n wm rd s.h.size { s with h := s.h.push (.loop .ready none s.fr n ps as bd df) }
    | _ => none

def evCode (C : Cfg) (ih : Job → Option Res) (c : Code) (n wm : Nat) (rd : Option Nat) (s : Fs) : Option Res :=
  match c with
  | .skip => some (.code .normal s)
  | .label _ => some (.code .normal s)
  | .ret => some (.code .ret s)
  | .exit id => some (.code (.exit id) s)
  | .goto l => some (.code (.goto l) s)
  | .seq a b => evSeq ih a b n wm rd s
  | .cond c a b => evCond ih c a b n wm rd s
  | .block id c => evBlock ih id c n wm rd s
  | .loop c => ih (.loop c n wm rd s)
  | .scope c => evScope ih c n wm rd s
  | .region _ ops d => bif d then evDraw C ih ops n wm rd s else evRegion C ih ops n wm rd s
  | .rangeFunc g ps as bd => evRange C ih g ps as bd n wm rd s
  | .refuse _ => none

def xPM (e : XX) : Option PM :=
  match e with
  | .normal | .ret => some .ret
  | .panic v => some (.pan v)
  | _ => none

def evCall (C : Cfg) (ih : Job → Option Res) (f : FuncId) (args : Array Value) (wm : Nat) (h : H) : Option Res :=
  match C.X.fns.get f with
  | some fn => match fn.body with
    | some c => bif Nat.ble args.toList.length fn.ntmps then
        cRes (fun e s => match xPM e with
          | some pm => ih (.leave fn wm pm s)
          | none => none) (ih (.code c fn.ntmps wm none { fr := frameOf args.toList 0 .nil, ds := [], h := h }))
      else none
    | none => none
  | none => none

def evCallO (C : Cfg) (ih : Job → Option Res) (f : FuncId) (args : Array Value) (wm : Nat) (h : H) : Option Res :=
  match C.X.orc f with
  | some v => match args.toList with
    | [] => some (.fin (.ret v) h)
    | _ :: _ => none
  | none => evCall C ih f args wm h

def settleA (pm : PM) : PM :=
  match pm with
  | .rcv _ => .ret
  | pm => pm

def evLeave (C : Cfg) (ih : Job → Option Res) (fn : Func) (wm : Nat) (pm : PM) (s : Fs) : Option Res :=
  match s.ds with
  | [] => match pm with
    | .ret => match aresult C.X.P fn s.fr s.h with
      | some v => some (.fin (.ret v) s.h)
      | none => none
    | .pan v => some (.fin (.pan v) s.h)
    | .rcv _ => none
  | d :: ds => match d.target with
    | .collected r => match s.h.at r with
      | .deferred => bif Nat.ble wm r then ih (.leave fn wm pm { s with ds := ds, h := s.h.put r .dead }) else none
      | _ => none
    | .fn (.func f) cap => match C.X.fns.get f with
      | some _ => match ih (.dcall f (d.args.toList ++ cap.toList).toArray pm wm s.h) with
        | some (.dfin pm' h') => ih (.leave fn wm (settleA pm') { s with ds := ds, h := h' })
        | _ => none
      | none => none
    | _ => none

def isRecover (o : Oper) : Bool :=
  match o.op with
  | .call { callee := .builtin .recover, .. } => true
  | _ => false

/-- The operations of a function that was deferred. -/
def dop (X : Ctx) (n wm : Nat) (ops : List Oper) (o : Oper) (pm : PM) (s : Fs) : Option (PM × Fs) :=
  let fin (pm : PM) (s : Fs) (v : Value) : Option (PM × Fs) := match aput n s o.dst v with
    | some s => some (pm, s)
    | none => none
  bif !okG ops o s.fr then none else bif awanted ops o s.fr then
    match aop X s.h (aev s.fr) o with
    | some (nx, E) => match E.apply wm s.h with
      | some h' => match nx with
        | .val v => fin pm { s with h := h' } v
        | .skip => fin pm { s with h := h' } undef
        | .recov => match pm with
          | .pan v => fin (.rcv v) { s with h := h' } v
          | pm => fin pm { s with h := h' } .nilIface
        | _ => none
      | none => none
    | none => none
  else fin pm s undef
def dops (X : Ctx) (n wm : Nat) (ops : List Oper) : List Oper → PM → Fs → Option (PM × Fs)
  | [], pm, s => some (pm, s)
  | o :: rest, pm, s => match dop X n wm ops o pm s with
    | some (pm, s) => dops X n wm ops rest pm s
    | none => none

def dRes (k : XX → PM → Fs → Option Res) (r : Option Res) : Option Res :=
  match r with
  | some (.dcode e pm s) => k e pm s
  | _ => none
def evDplain (ih : Job → Option Res) (c : Code) (n wm : Nat) (pm : PM) (s : Fs) : Option Res :=
  cRes (fun e s => some (.dcode e pm s)) (ih (.code c n wm none s))
def evDcode (C : Cfg) (ih : Job → Option Res) (c : Code) (n wm : Nat) (pm : PM) (s : Fs) : Option Res :=
  match c with
  | .seq a b => dRes (fun e pm s => match e with
    | .normal => ih (.dcode b n wm pm s)
    | e => some (.dcode e pm s)) (ih (.dcode a n wm pm s))
  | .cond c a b => match aev s.fr c with
    | some (.bool t) => bif t then ih (.dcode a n wm pm s) else ih (.dcode b n wm pm s)
    | _ => none
  | .region id ops d => bif !d && ops.toList.any isRecover then match dops C.X n wm ops.toList ops.toList pm s with
      | some (pm, s) => some (.dcode .normal pm s)
      | none => none
    else evDplain ih (.region id ops d) n wm pm s
  | c => evDplain ih c n wm pm s
def evDcall (C : Cfg) (ih : Job → Option Res) (f : FuncId) (args : Array Value) (pm : PM) (wm : Nat) (h : H) : Option Res :=
  match C.X.fns.get f with
  | some fn => match fn.body with
    | some c => bif Nat.ble args.toList.length fn.ntmps then
        dRes (fun e pm s => match s.ds, e, aresult C.X.P fn s.fr s.h with
          | [], .normal, some _ => some (.dfin pm s.h)
          | [], .ret, some _ => some (.dfin pm s.h)
          | _, _, _ => none) (ih (.dcode c fn.ntmps wm pm { fr := frameOf args.toList 0 .nil, ds := [], h := h }))
      else none
    | none => none
  | none => none

def evRound3 (l : Nat) (e : XX) (s : Fs) : Option Res :=
  match s.h.at l with
  | .loop _ _ fr n ps as bd df => match e with
    | .normal => some (.fin (.ret (.bool true)) (s.h.put l (.loop .ready none fr n ps as bd df)))
    | .ret => some (.fin (.ret (.bool false)) (s.h.put l (.loop .done (some .ret) fr n ps as bd df)))
    | .exit id => some (.fin (.ret (.bool false)) (s.h.put l (.loop .done (some (.exit id)) fr n ps as bd df)))
    | .goto t => some (.fin (.ret (.bool false)) (s.h.put l (.loop .done (some (.goto t)) fr n ps as bd df)))
    | .panic _ => none
  | _ => none
def evRound2 (ih : Job → Option Res) (l : Nat) (bd : Code) (n wm : Nat) (e : XX) (s : Fs) : Option Res :=
  match e with
  | .normal => match s.h.at l with
    | .loop .ready pd fr n' ps as bd' df => cRes (fun e s => evRound3 l e s) (ih (.code bd n wm (some l) { s with h := s.h.put l (.loop .busy pd fr n' ps as bd' df) }))
    | _ => none
  | _ => none
def evRound (ih : Job → Option Res) (l : Nat) (args : Array Value) (wm : Nat) (h : H) : Option Res :=
  match h.at l with
  | .loop _ _ fr n ps as bd _ =>
    bif Nat.ble wm l && Nat.beq args.toList.length ps.toList.length then
      match setParams (ps.toList.zip args.toList) n fr with
      | some fr1 => cRes (fun e s => evRound2 ih l bd n wm e s) (ih (.code as n wm (some l) { fr := fr1, ds := [], h := h }))
      | none => none
    else none
  | _ => none

def evF (C : Cfg) (ih : Job → Option Res) (j : Job) : Option Res :=
  match j with
  | .code c n wm rd s => evCode C ih c n wm rd s
  | .loop c n wm rd s => evLoopM C ih c n wm rd s
  | .call f args wm h => evCallO C ih f args wm h
  | .round l args wm h => evRound ih l args wm h
  | .dcall f args pm wm h => evDcall C ih f args pm wm h
  | .dcode c n wm pm s => evDcode C ih c n wm pm s
  | .leave fn wm pm s => evLeave C ih fn wm pm s

def ev (C : Cfg) (n : Nat) : Job → Option Res := Nat.rec (fun _ => none) (fun _ ih => evF C ih) n

end Go.Abs
