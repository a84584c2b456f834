/- Part 5. -/
import Derived.RangeFuncRecord
import Derived.Test.YtbnepjakjmnadaaGreatCa4
set_option linter.all false
set_option maxHeartbeats 2000000
theorem Go.Oi0{α:Type _}{a b:α}(h:some a=some b):a=b:=Option.some.inj h
section
noncomputable section
namespace Go.Yj
variable {ρ:Ren} {w:World} {X:Ctx} {ih:Qg ->Option YF}
theorem Xu.trans {wm n:Nat} {ρ ρ1:Ren} {h h1:H} {w w1:World} (hd:∀ i p,ρ i=some p ->i < h.size) (st:Stp wm ρ h w ρ1 h1 w1) {e:XX} {s':Fs} {e':Exit} {a':Act} {w':World}
 (hp:Xu wm n ρ1 h1 w1 e s' e' a' w'):Xu wm n ρ h w e s' e' a' w':=by
 obtain⟨ρ',h1,h2,h3⟩:=hp;exact⟨ρ',h1,h2,st.trans hd h3⟩
theorem Uk.trans {wm:Nat} {ρ ρ1:Ren} {h h1:H} {w w1:World} (hd:∀ i p,ρ i=some p ->i < h.size) (st:Stp wm ρ h w ρ1 h1 w1) {e:Uo} {h':H} {e':Ending} {w':World}
 (hp:Uk wm ρ1 h1 w1 e h' e' w'):Uk wm ρ h w e h' e' w':=by
 obtain⟨ρ',h1,h2,h3⟩:=hp;exact⟨ρ',h1,h2,st.trans hd h3⟩
theorem QJ {k:XX ->Fs ->Option YF} {r:Option YF} {x:YF} (h:Zd1 k r=some x):∃ e s,r=some (.code e s)∧k e s=some x:=by
 unfold Zd1 at h;split at h
 ·exact⟨_,_,rfl,h⟩
 ·cases h
theorem ZfR {k:XX ->PM ->Fs ->Option YF} {r:Option YF} {x:YF} (h:ZtP k r=some x):∃ e pm s,r=some (.Xf e pm s)∧k e pm s=some x:=by
 unfold ZtP at h;split at h
 ·exact⟨_,_,_,rfl,h⟩
 ·cases h
def ZbF (X:Ctx) (c:Code) (n wm:Nat) (rd:Option Nat) (s:Fs) (r:YF):Prop:=
 ∃ e s',r= .code e s'∧∀ ρ a w F,wm <=s.h.size ->Inv ρ n s a w ->Kl ρ rd F ->c.wpIn F 0 X.P (Xu wm n ρ s.h w e s') a w
theorem Y4 {c:Code} {n wm:Nat} {rd:Option Nat} {s:Fs} {r:YF}:Yu X (.code c n wm rd s) r↔ZbF X c n wm rd s r:=by
 cases r with
 | code e s'=>exact⟨fun h=>⟨e,s',rfl,h⟩,fun⟨_,_,e1,h⟩=>by cases e1;exact h⟩
 | fin e h=>exact⟨fun h=>h.elim,fun⟨_,_,e1,_⟩=>by cases e1⟩
 | Zcc e h=>exact⟨fun h=>h.elim,fun⟨_,_,e1,_⟩=>by cases e1⟩
 | Xf e h s=>exact⟨fun h=>h.elim,fun⟨_,_,e1,_⟩=>by cases e1⟩
def Zot (X:Ctx) (c:Code) (n wm:Nat) (rd:Option Nat) (s:Fs) (r:YF):Prop:=
 ∃ e s',r= .code e s'∧∀ ρ a w F,wm <=s.h.size ->Inv ρ n s a w ->Kl ρ rd F ->LoopIn F 0 X.P c (Xu wm n ρ s.h w e s') a w
theorem KI {c:Code} {n wm:Nat} {rd:Option Nat} {s:Fs} {r:YF}:Yu X (.loop c n wm rd s) r↔Zot X c n wm rd s r:=by
 cases r with
 | code e s'=>exact⟨fun h=>⟨e,s',rfl,h⟩,fun⟨_,_,e1,h⟩=>by cases e1;exact h⟩
 | fin e h=>exact⟨fun h=>h.elim,fun⟨_,_,e1,_⟩=>by cases e1⟩
 | Zcc e h=>exact⟨fun h=>h.elim,fun⟨_,_,e1,_⟩=>by cases e1⟩
 | Xf e h s=>exact⟨fun h=>h.elim,fun⟨_,_,e1,_⟩=>by cases e1⟩
def ZfX (X:Ctx) (c:Code) (n wm:Nat) (pm:PM) (s:Fs) (r:YF):Prop:=
 ∃ e U9 s',r= .Xf e U9 s'∧∀ ρ a c0 cs w,wm <=s.h.size ->Inv ρ n s a w ->PmR ρ pm c0.mode ->
     c.wpSIn base 0 X.P (fun e' a' cs' w'=>∃ ρ' u',cs'= {c0 with mode:=u'}::cs∧PmR ρ' U9 u'∧ExR ρ' e e'∧Inv ρ' n s' a' w'∧Stp wm ρ s.h w ρ' s'.h w') a (c0::cs) w
theorem XD {c:Code} {n wm:Nat} {pm:PM} {s:Fs} {r:YF}:Yu X (.Xf c n wm pm s) r↔ZfX X c n wm pm s r:=by
 cases r with
 | Xf e U9 s'=>exact⟨fun h=>⟨e,U9,s',rfl,h⟩,fun⟨_,_,_,e1,h⟩=>by cases e1;exact h⟩
 | fin e h=>exact⟨fun h=>h.elim,fun⟨_,_,_,e1,_⟩=>by cases e1⟩
 | Zcc e h=>exact⟨fun h=>h.elim,fun⟨_,_,_,e1,_⟩=>by cases e1⟩
 | code e s=>exact⟨fun h=>h.elim,fun⟨_,_,_,e1,_⟩=>by cases e1⟩
section
variable (HI:∀ j r,ih j=some r ->Yu X j r)
include HI
theorem Zl4 {a b:Code} {n wm:Nat} {rd:Option Nat} {s:Fs} {r:YF} (h:ZxR ih a b n wm rd s=some r):ZbF X (.seq a b) n wm rd s r:=by
 obtain⟨e,s1,ha,hk⟩:=QJ h;have ka:=Y4.1 (HI _ _ ha);obtain⟨_,_,e0,ka⟩:=ka;cases e0;cases e with
 | normal=>
   obtain⟨e2,s2,rfl,kb⟩:=Y4.1 (HI _ _ hk);refine⟨e2,s2,rfl,fun ρ a w F ZQ hi hF=>wpIn_seq (wpIn_mono (ka ρ a w F ZQ hi hF) ?_)⟩;rintro e' a' w' ⟨ρ',he,hi',hst⟩;cases he;exact wpIn_mono (kb ρ' a' w' F (Nat.le_trans ZQ hst.size) hi' (hF.mono hst.ext)) fun _ _ _ hp=>Xu.trans hi.rel.lt hst hp
 | exit id=>
   cases hk;refine⟨_,_,rfl,fun ρ a w F ZQ hi hF=>wpIn_seq (wpIn_mono (ka ρ a w F ZQ hi hF) ?_)⟩;rintro e' a' w' ⟨ρ',he,hi',hst⟩;cases he;exact⟨ρ',.exit id,hi',hst⟩
 | goto id=>
   cases hk;refine⟨_,_,rfl,fun ρ a w F ZQ hi hF=>wpIn_seq (wpIn_mono (ka ρ a w F ZQ hi hF) ?_)⟩;rintro e' a' w' ⟨ρ',he,hi',hst⟩;cases he;exact⟨ρ',.goto id,hi',hst⟩
 | ret=>
   cases hk;refine⟨_,_,rfl,fun ρ a w F ZQ hi hF=>wpIn_seq (wpIn_mono (ka ρ a w F ZQ hi hF) ?_)⟩;rintro e' a' w' ⟨ρ',he,hi',hst⟩;cases he;exact⟨ρ',.ret,hi',hst⟩
 | panic v=>
   cases hk;refine⟨_,_,rfl,fun ρ a w F ZQ hi hF=>wpIn_seq (wpIn_mono (ka ρ a w F ZQ hi hF) ?_)⟩;rintro e' a' w' ⟨ρ',he,hi',hst⟩;cases he with
   | panic hv=>exact⟨ρ',.panic hv,hi',hst⟩
theorem Zj3 {c:Operand} {a b:Code} {n wm:Nat} {rd:Option Nat} {s:Fs} {r:YF} (h:Zhf ih c a b n wm rd s=some r):ZbF X (.cond c a b) n wm rd s r:=by
 unfold Zhf at h;split at h
 ·rename_i t hc
  have:∃ e s',r= .code e s'∧∀ ρ a' w F,wm <=s.h.size ->Inv ρ n s a' w ->Kl ρ rd F ->(if t then a else b).wpIn F 0 X.P (Xu wm n ρ s.h w e s') a' w:=by
   cases t with
   | true=>exact Y4.1 (HI _ _ h)
   | false=>exact Y4.1 (HI _ _ h)
  obtain⟨e,s',rfl,k⟩:=this;refine⟨e,s',rfl,fun ρ a' w F ZQ hi hF=>?_⟩;have hv:=UE hi.fr _ _ hc;generalize hx:a'.eval c=x at hv;cases hv;exact wpIn_cond hx (k ρ a' w F ZQ hi hF)
 ·cases h
theorem Zh0 {id:Nat} {c:Code} {n wm:Nat} {rd:Option Nat} {s:Fs} {r:YF} (h:Zpt ih id c n wm rd s=some r):ZbF X (.block id c) n wm rd s r:=by
 obtain⟨e,s1,ha,hk⟩:=QJ h;obtain⟨_,_,e0,ka⟩:=Y4.1 (HI _ _ ha);cases e0;cases e with
 | exit k=>
   by_cases hkk:k=id
   ·subst hkk;simp only [show Nat.beq k k=true from Nat.beq_refl k,Cq1,Option.some.injEq] at hk;subst hk;refine⟨_,_,rfl,fun ρ a w F ZQ hi hF=>wpIn_block (wpIn_mono (ka ρ a w F ZQ hi hF) ?_)⟩;rintro e' a' w' ⟨ρ',he,hi',hst⟩;cases he;show if _ then _ else _
    rw [if_pos rfl];exact⟨ρ',.normal,hi',hst⟩
   ·have hb:Nat.beq k id=false:=by rw [Qp];simpa using hkk
    simp only [hb,Cq0,Option.some.injEq] at hk;subst hk;refine⟨_,_,rfl,fun ρ a w F ZQ hi hF=>wpIn_block (wpIn_mono (ka ρ a w F ZQ hi hF) ?_)⟩;rintro e' a' w' ⟨ρ',he,hi',hst⟩;cases he;show if _ then _ else _
    rw [if_neg hkk];exact⟨ρ',.exit k,hi',hst⟩
 | normal=>
   cases hk;refine⟨_,_,rfl,fun ρ a w F ZQ hi hF=>wpIn_block (wpIn_mono (ka ρ a w F ZQ hi hF) ?_)⟩;rintro e' a' w' ⟨ρ',he,hi',hst⟩;cases he;exact⟨ρ',.normal,hi',hst⟩
 | goto k=>
   cases hk;refine⟨_,_,rfl,fun ρ a w F ZQ hi hF=>wpIn_block (wpIn_mono (ka ρ a w F ZQ hi hF) ?_)⟩;rintro e' a' w' ⟨ρ',he,hi',hst⟩;cases he;exact⟨ρ',.goto k,hi',hst⟩
 | ret=>
   cases hk;refine⟨_,_,rfl,fun ρ a w F ZQ hi hF=>wpIn_block (wpIn_mono (ka ρ a w F ZQ hi hF) ?_)⟩;rintro e' a' w' ⟨ρ',he,hi',hst⟩;cases he;exact⟨ρ',.ret,hi',hst⟩
 | panic v=>
   cases hk;refine⟨_,_,rfl,fun ρ a w F ZQ hi hF=>wpIn_block (wpIn_mono (ka ρ a w F ZQ hi hF) ?_)⟩;rintro e' a' w' ⟨ρ',he,hi',hst⟩;cases he with
   | panic hv=>exact⟨ρ',.panic hv,hi',hst⟩
theorem ZhX {c:Code} {n wm:Nat} {rd:Option Nat} {s:Fs} {r:YF} (h:Zpr ih c n wm rd s=some r):ZbF X (.scope c) n wm rd s r:=by
 obtain⟨e,s1,ha,hk⟩:=QJ h;obtain⟨_,_,e0,ka⟩:=Y4.1 (HI _ _ ha);cases e0;cases e with
 | goto l=>cases hk
 | exit k=>
   cases hk;refine⟨_,_,rfl,fun ρ a w F ZQ hi hF=>K5 (wpIn_mono (ka ρ a w F ZQ hi hF) ?_)⟩;rintro e' a' w' ⟨ρ',he,hi',hst⟩;cases he;exact⟨ρ',.exit k,hi',hst⟩
 | normal=>
   cases hk;refine⟨_,_,rfl,fun ρ a w F ZQ hi hF=>K5 (wpIn_mono (ka ρ a w F ZQ hi hF) ?_)⟩;rintro e' a' w' ⟨ρ',he,hi',hst⟩;cases he;exact⟨ρ',.normal,hi',hst⟩
 | ret=>
   cases hk;refine⟨_,_,rfl,fun ρ a w F ZQ hi hF=>K5 (wpIn_mono (ka ρ a w F ZQ hi hF) ?_)⟩;rintro e' a' w' ⟨ρ',he,hi',hst⟩;cases he;exact⟨ρ',.ret,hi',hst⟩
 | panic v=>
   cases hk;refine⟨_,_,rfl,fun ρ a w F ZQ hi hF=>K5 (wpIn_mono (ka ρ a w F ZQ hi hF) ?_)⟩;rintro e' a' w' ⟨ρ',he,hi',hst⟩;cases he with
   | panic hv=>exact⟨ρ',.panic hv,hi',hst⟩
theorem ZdV {c:Code} {n wm:Nat} {rd:Option Nat} {s:Fs} {r:YF} (h:Zhe ih c n wm rd s=some r):Zot X c n wm rd s r:=by
 obtain⟨e,s1,ha,hk⟩:=QJ h;obtain⟨_,_,e0,ka⟩:=Y4.1 (HI _ _ ha);cases e0;cases e with
 | normal=>
   obtain⟨e2,s2,rfl,kb⟩:=KI.1 (HI _ _ hk);refine⟨e2,s2,rfl,fun ρ a w F ZQ hi hF=>Xz (wpIn_mono (ka ρ a w F ZQ hi hF) ?_)⟩;rintro e' a' w' ⟨ρ',he,hi',hst⟩;cases he;have:=kb ρ' a' w' F (Nat.le_trans ZQ hst.size) hi' (hF.mono hst.ext);intro b k cs h1 h2 h3;obtain⟨e3,a3,w3,hp,harr⟩:=this b k cs h1 h2 h3;exact⟨e3,a3,w3,Xu.trans hi.rel.lt hst hp,harr⟩
 | exit id=>
   cases hk;refine⟨_,_,rfl,fun ρ a w F ZQ hi hF=>Xz (wpIn_mono (ka ρ a w F ZQ hi hF) ?_)⟩;rintro e' a' w' ⟨ρ',he,hi',hst⟩;cases he;exact⟨ρ',.exit id,hi',hst⟩
 | goto id=>
   cases hk;refine⟨_,_,rfl,fun ρ a w F ZQ hi hF=>Xz (wpIn_mono (ka ρ a w F ZQ hi hF) ?_)⟩;rintro e' a' w' ⟨ρ',he,hi',hst⟩;cases he;exact⟨ρ',.goto id,hi',hst⟩
 | ret=>
   cases hk;refine⟨_,_,rfl,fun ρ a w F ZQ hi hF=>Xz (wpIn_mono (ka ρ a w F ZQ hi hF) ?_)⟩;rintro e' a' w' ⟨ρ',he,hi',hst⟩;cases he;exact⟨ρ',.ret,hi',hst⟩
 | panic v=>
   cases hk;refine⟨_,_,rfl,fun ρ a w F ZQ hi hF=>Xz (wpIn_mono (ka ρ a w F ZQ hi hF) ?_)⟩;rintro e' a' w' ⟨ρ',he,hi',hst⟩;cases he with
   | panic hv=>exact⟨ρ',.panic hv,hi',hst⟩
end
end Go.Yj
end
end
section
noncomputable section
namespace Go.Yj
variable {ρ:Ren} {w:World} {X:Ctx} {ih:Qg ->Option YF}
theorem Znz:∀ (vs:List Value) (i:Nat) (fr:Fr) (t:Nat),(XQ vs i fr).at t=if i <=t∧t < i + vs.length then vs.getD (t - i) undef else fr.at t:=by
 intro vs
 induction vs with
 | nil=>intro i fr t;rw [if_neg (by simp)];rfl
 | cons v vs ih=>
   intro i fr t;rw [XQ,ih];by_cases h1:i + 1 <=t∧t < i + 1 + vs.length
   ·rw [if_pos h1,if_pos (by simp;omega)];have:t - i= (t - (i + 1)) + 1:=by omega
    rw [this];rfl
   ·rw [if_neg h1];by_cases h2:t=i
    ·subst h2;rw [if_pos (by simp)];simp [Fr.at,Tr.QI]
    ·rw [if_neg (by simp;omega)];simp [Fr.at,Tr.QI,h2]
theorem Fr.at_nil (t:Nat):Fr.at .nil t=undef:=rfl
theorem UG {args args':Array Value} {n:Nat} (hv:Jq ρ args args') (hn:args.toList.length <=n):
 FrR ρ (XQ args.toList 0 .nil) n (args' ++ Array.replicate (n - args'.size) undef):=by
 have hs:args'.size=args.size:=hv.1.symm;rw [Array.length_toList] at hn;refine⟨by simp;omega,fun t _=>?_⟩;rw [Znz];by_cases h:0 <=t∧t < 0 + args.toList.length
 ·rw [if_pos h];have h2:=h.2;simp only [Array.length_toList,Nat.zero_add] at h2;have e1:args.toList.getD (t - 0) undef=args[t]:=by simp [List.getD,h2]
  have e2:(args' ++ Array.replicate (n - args'.size) undef).getD t undef=args'[t]'(by omega):=by
   rw [Array.getD_eq_getD_getElem?,Array.getElem?_append_left (by omega)];simp [show t < args'.size by omega]
  rw [e1,e2];exact hv.2 t _ _ (by simp [h2]) (by simp [show t < args'.size by omega])
 ·rw [if_neg h];have h2:args.size <=t:=by simp at h;exact h
  have e2:(args' ++ Array.replicate (n - args'.size) undef).getD t undef=undef:=by
   rw [Array.getD_eq_getD_getElem?,Array.getElem?_append_right (by omega)];rcases Nat.lt_or_ge (t - args'.size) (n - args'.size) with h3 | h3
   ·simp [h3]
   ·rw [Array.getElem?_eq_none (by simpa using h3)];rfl
  rw [e2,Fr.at_nil];exact VR.undef ρ
theorem ZhO {P:Program} {h:H} {w:World} (r:Rel ρ h w) {t:TypeId} {a a' v:Value} (ha:VR ρ a a') (hl:WU P h t a=some v):
 ∃ v',VR ρ v v'∧(do loadVar t (← asAddr a'):Sem Value).run P w= .ok v' w:=by
 obtain⟨v',q1,q2⟩:=Zgx r ha hl;refine⟨v',q1,?_⟩;unfold WU at hl;split at hl
 ·cases ha with
  | ptr o hi=>
    rw [Zct] at q2
    simpa [Sem.run_bind,asAddr] using q2
 ·cases hl
def Zrw (tmps:Array Value):ResultVar ->Sem Value
 | .tmp t=>pure (tmps.getD t undef)
 | .cell a t=>do loadVar t (← asAddr (tmps.getD a undef))
theorem Zoc {P:Program} {h:H} {w:World} (r:Rel ρ h w) {fr:Fr} {n:Nat} {tmps:Array Value} (hf:FrR ρ fr n tmps):∀ (rs:List ResultVar) (vs:List Value),Zbw P fr h rs=some vs ->
 ∃ vs',LR ρ vs vs'∧(rs.mapM (m:=Sem) (Zrw tmps)).run P w= .ok vs' w:=by
 intro rs
 induction rs with
 | nil=>
   intro vs h1;cases h1;exact⟨[],LR.nil,by simp⟩
 | cons x rs ihr=>
   intro vs h1;simp only [Zbw] at h1;split at h1
   ·rename_i v vs1 e1 e2;cases h1;obtain⟨vs',q1,q2⟩:=ihr _ e2
    have:∃ v',VR ρ v v'∧(Zrw tmps x).run P w= .ok v' w:=by
     cases x with
     | tmp t=>
       simp only [Zmw] at e1;cases hany:QC (fr.at t) <;> rw [hany] at e1 <;> simp only [Cq1,Cq0] at e1
       ·cases e1;exact⟨_,hf.val t hany,rfl⟩
       ·cases e1
     | cell a t=>
       have hany:QC (fr.at a)=false:=by
        simp only [Zmw] at e1;unfold WU at e1;split at e1
        ·rename_i hh;rw [hh];rfl
        ·cases e1
       exact ZhO r (hf.val a hany) e1
    obtain⟨v',p1,p2⟩:=this;refine⟨v'::vs',LR.cons p1 q1,?_⟩;rw [List.mapM_cons];simp only [Sem.run_bind,p2,Result.andThen_ok,q2,Sem.run_pure]
   ·cases h1
theorem Zcs {P:Program} {fn:Func} {h:H} {w:World} (r:Rel ρ h w) {fr:Fr} {n:Nat} {tmps:Array Value} (hf:FrR ρ fr n tmps) {v:Value} (ha:Qt P fn fr h=some v):
 ∃ v',VR ρ v v'∧(results fn tmps).run P w= .ok v' w:=by
 unfold Qt at ha
 have key:∀ vs,Zbw P fr h fn.results.toList=some vs ->∃ vs',LR ρ vs vs'∧(results fn tmps).run P w= .ok (if h:vs'.toArray.size=1 then vs'.toArray[0] else .tuple vs'.toArray) w:=by
  intro vs hvs;obtain⟨vs',q1,q2⟩:=Zoc (P:=P) r hf _ _ hvs;refine⟨vs',q1,?_⟩;have e:results fn tmps= (do let vs ← fn.results.mapM (Zrw tmps);pure (if h:vs.size=1 then vs[0] else .tuple vs):Sem Value):=rfl;rw [e,← Array.toArray_toList (xs:=fn.results),List.mapM_toArray];simp only [Sem.run_bind,Sem.run_map,q2,Result.andThen_ok,Sem.run_pure]
 split at ha
 ·rename_i x hx;cases ha;obtain⟨vs',q1,q2⟩:=key _ hx;obtain⟨y,rfl,hy⟩:=LR.one q1;exact⟨y,hy,by rw [q2];simp⟩
 ·rename_i vs hno hx;cases ha;obtain⟨vs',q1,q2⟩:=key _ hx
  have hl:vs.length ≠ 1:=by
   intro hh
   match vs,hh with
   | [x],_=>exact hno x rfl
  refine⟨.tuple vs'.toArray,.tuple _ _ q1.arr.1 q1.arr.2,?_⟩;rw [q2,dif_neg];simp only [List.size_toArray];rw [← q1.1];exact hl
 ·cases ha
theorem CallsDIn.mono' {F:Fence} {n:Nat} {P:Program} {f:FuncId} {args:Array Value} {u:FrameMode} {w:World} {R R':Ending ->FrameMode ->World ->Prop} (h:CallsDIn F n P f args u w R)
 (hr:∀ e u w,R e u w ->R' e u w):CallsDIn F n P f args u w R':=
 ⟨h.1,fun c cs hc hroom=>let⟨e,u',w',fr,q,r⟩:=h.2 c cs hc hroom;⟨e,u',w',fr,hr _ _ _ q,r⟩⟩
theorem PmR.settle {p:PM} {u:FrameMode} (h:PmR ρ p u):PmR ρ (ZfH p) (settle u):=by
 cases h with
 | ret=>exact .ret
 | Yn h=>exact .Yn h
 | rcv h=>exact .ret
theorem DsR.nil_eq {ds:List Deferred} (h:DsR ρ [] ds):ds= []:=by cases h;rfl
theorem PmR.ZoP {p:PM} {u:FrameMode} (h:PmR ρ p u):u ≠ .run:=by cases h <;> simp
section
variable {C:Cfg} (HI:∀ j r,ih j=some r ->Yu C.X j r)
include HI
theorem QX {fn:Func} {wm:Nat} {pm:PM} {s:Fs} {r:YF} (h:JQ C ih fn wm pm s=some r):Yu C.X (.leave fn wm pm s) r:=by
 unfold JQ at h;split at h
 ·rename_i hds
  have hd:∀ {ρ n a w},Inv ρ n s a w ->a.defers= []:=fun hi=>by
   have:=hi.ds;rw [hds] at this;exact this.nil_eq
  split at h
  ·split at h
   ·rename_i v hv;cases h;intro ρ n a u w R ZQ hi hpm hR;cases hpm;obtain⟨v',q1,q2⟩:=Zcs hi.rel hi.fr hv;rw [hd hi];exact⟨v',q2,hR _ _ ⟨ρ,.ret q1,hi.rel,Stp.refl _ _ _ _⟩⟩
   ·cases h
  ·rename_i v;cases h;intro ρ n a u w R ZQ hi hpm hR;cases hpm with
   | Yn hv=>
     rw [hd hi];exact hR _ _ ⟨ρ,.Yn hv,hi.rel,Stp.refl _ _ _ _⟩
  ·cases h
 ·rename_i d ds hds;split at h
  ·rename_i r0 htar;split at h
   ·rename_i hat;cases hb:Nat.ble wm r0 <;> rw [hb] at h <;> simp only [Cq1,Cq0] at h
    ·cases h
    ·have hr0:=Nl0 hb;have hj:=HI _ _ h;cases r with
     | fin e h'=>
       intro ρ n a u w R ZQ hi hpm hR;have hdd:=hi.ds;rw [hds] at hdd;generalize hx:a.defers=x at hdd;cases hdd with
       | cons hdf _=>obtain⟨⟨f,c,c',e1,_⟩,_⟩:=hdf;rw [htar] at e1;cases e1
       | @mark rr r' _ ds' hm ht=>
         simp only at htar;cases htar;have ho:=hi.rel.obj _ _ _ hm;rw [hat] at ho;obtain⟨_,ho⟩:=ho;have hlt:= (hi.rel.dom _ _ _ hm).2;obtain⟨q1,q2⟩:=Zjg (wm:=wm) (A:= .dead) (w':=w.putObj r' (.deferred none)) hi.rel hr0 (by rw [hat];rfl) ⟨rfl,rfl,rfl⟩ hm World.putObj_size (fun k hk=>World.putObj_heap_other hk) trivial;refine⟨hpm.ZoP,.inl ⟨r',_,rfl,run_takeDeferred ho,?_⟩⟩;have hi2:Inv ρ n {s with ds:=ds,h:=s.h.put r0 .dead} {a with defers:=ds'} (w.putObj r' (.deferred none)):= ⟨q1,hi.fr,ht⟩
         exact hj ρ n _ u _ R ZQ hi2 hpm (fun e' w' hp=>hR _ _ (Uk.trans hi.rel.lt q2 hp))
     | code e h'=>exact hj.elim
     | Zcc e h'=>exact hj.elim
     | Xf e h' _=>exact hj.elim
   ·cases h
  ·rename_i f cap htar;split at h
   ·rename_i fnn hfn;split at h
    ·rename_i U9 h' hc;have hj:=HI _ _ h;have hcj:=HI _ _ hc;cases r with
     | fin e h2=>
       intro ρ n a u w R ZQ hi hpm hR;have hdd:=hi.ds;rw [hds] at hdd;generalize hx:a.defers=x at hdd;cases hdd with
       | @cons _ d' _ ds' hdf ht=>
         obtain⟨⟨f1,c1,c1',e1,e2,hv⟩,hargs⟩:=hdf;rw [htar] at e1;cases e1
         have hargs':Jq ρ (d.args.toList ++ cap.toList).toArray (d'.args ++ c1'):=by
          have:= ((Jq.list hargs).append (Jq.list hv)).arr;have e:(d'.args.toList ++ c1'.toList).toArray=d'.args ++ c1':=by apply Array.toList_inj.1;simp
          rwa [e] at this
         refine⟨hpm.ZoP,.inr ⟨fun hh=>(by cases hh),.func f,c1',f,d'.args ++ c1',e2,?_,fun g hg=>(by rw [e2] at hg;simp only [Target.leads] at hg;cases hg;exact ZeA hfn),?_⟩⟩
         ·rw [e2,← U8 (w:=w) (args:=d'.args ++ c1') hfn];simp [invoke]
         ·refine CallsDIn.mono' (hcj ρ _ u w ZQ hi.rel hargs' hpm) ?_;rintro e3 u3 w3 ⟨v,rfl,ρ3,p1,p2,p3⟩;have hi2:Inv ρ3 n {s with ds:=ds,h:=h'} {a with defers:=ds'} w3:= ⟨p2,hi.fr.mono p3.ext,ht.mono p3.ext⟩
          exact hj ρ3 n _ _ _ R (Nat.le_trans ZQ p3.size) hi2 p1.settle (fun e' w' hp=>hR _ _ (Uk.trans hi.rel.lt p3 hp))
       | mark hm ht=>cases htar
     | code e h'=>exact hj.elim
     | Zcc e h'=>exact hj.elim
     | Xf e h' _=>exact hj.elim
    ·cases h
   ·cases h
  ·cases h
theorem Zj5 {f:FuncId} {args:Array Value} {wm:Nat} {h:H} {r:YF} (hc:Zj6 C ih f args wm h=some r):Yu C.X (.call f args wm h) r:=by
 unfold Zj6 at hc;split at hc
 ·rename_i fn hfn;split at hc
  ·rename_i c hb;cases hn:Nat.ble args.toList.length fn.ntmps <;> rw [hn] at hc <;> simp only [Cq1,Cq0] at hc
   ·cases hc
   ·obtain⟨e,s1,ha,hk⟩:=QJ hc;obtain⟨_,_,e0,ka⟩:=Y4.1 (HI _ _ ha);cases e0;split at hk
    ·rename_i pm hpm;have hj:=HI _ _ hk;cases r with
     | fin e2 h2=>
       intro ρ args' w ZQ hr hv
       have hi:Inv ρ fn.ntmps {fr:=XQ args.toList 0 .nil,ds:= [],h:=h} {tmps:=args' ++ Array.replicate (fn.ntmps - args'.size) undef,defers:= []} w:=
        ⟨hr,UG hv (Nl0 hn),.nil⟩
       refine callsIn_of_wp_marks (C.X.ok f fn hfn).1 hb (ZeA hfn) (wpIn_mono (ka ρ _ w base ZQ hi rfl) ?_);rintro e' a' w' ⟨ρ',he,hi',hst⟩;cases he with
       | normal=>cases hpm;exact hj ρ' _ a' .returning w' _ (Nat.le_trans ZQ hst.size) hi' .ret (fun _ _ hp=>Uk.trans hr.lt hst hp)
       | ret=>cases hpm;exact hj ρ' _ a' .returning w' _ (Nat.le_trans ZQ hst.size) hi' .ret (fun _ _ hp=>Uk.trans hr.lt hst hp)
       | panic hv'=>cases hpm;exact hj ρ' _ a' _ w' _ (Nat.le_trans ZQ hst.size) hi' (.Yn hv') (fun _ _ hp=>Uk.trans hr.lt hst hp)
       | exit id=>cases hpm
       | goto id=>cases hpm
     | code e h'=>exact hj.elim
     | Zcc e h'=>exact hj.elim
     | Xf e h' _=>exact hj.elim
    ·cases hk
  ·cases hc
 ·cases hc
omit HI in
theorem Zys {wm:Nat} {ρ:Ren} {h:H} {w w':World} {A:YN} {l:Nat×Nat} {p:Nat} (r:Rel ρ h w) (ZQ:wm <=h.size) (hb:RowKit.Below w.heap.size w w') (hp:w.heap.size <=p) (hp2:p < w'.heap.size)
 (hA:QW (ρ.add h.size (p,0) l) w' p 0 l A):
 Rel (ρ.add h.size (p,0) l) (h.push A) w'∧Stp wm ρ h w (ρ.add h.size (p,0) l) (h.push A) w':=by
 have hle:=Ren.Kq (p:= (p,0)) (l:=l) r.fresh
 have hold:∀ i b d,i ≠ h.size ->(ρ.add h.size (p,0) l) i=some (b,d) ->ρ i=some (b,d):=fun i b d hi e=>by
  rwa [(Ren.JS hi).1] at e
 have hnew:∀ b d,(ρ.add h.size (p,0) l) h.size=some (b,d) ->b=p∧d=0:=fun b d e=>by
  rw [Ren.add_same] at e;cases e;exact⟨rfl,rfl⟩
 have hat:∀ i,i ≠ h.size ->(h.push A).at i=h.at i:=fun i hi=>by rw [H.XR,if_neg hi]
 have ZsI:(h.push A).at h.size=A:=by rw [H.XR,if_pos rfl]
 have hsz:=hb.size;refine⟨⟨?_,?_,?_⟩,⟨hle,by simp,?_,?_,?_,hb.os,hb.tape,hb.output,hb.size,?_,?_⟩⟩
 ·intro i b d e;rw [H.size_push];by_cases hi:i=h.size
  ·subst hi;have:=hnew b d e;omega
  ·have:=r.dom i b d (hold i b d hi e);omega
 ·intro i b d e;by_cases hi:i=h.size
  ·subst hi;obtain⟨rfl,rfl⟩:=hnew b d e;rw [ZsI,Ren.Zat];exact hA
  ·have e0:=hold i b d hi e;rw [hat i hi,(Ren.JS hi).2];exact((r.obj i b d e0).mono hle).world (hb.block b (r.dom i b d e0).2)
 ·intro i j b d d' e e' ho hl;by_cases hi:i=h.size
  ·subst hi;obtain⟨rfl,rfl⟩:=hnew b d e;by_cases hj:j=h.size
   ·exact hj.symm
   ·have:= (r.dom _ _ _ (hold j _ _ hj e')).2;omega
  ·have e0:=hold i b d hi e;by_cases hj:j=h.size
   ·subst hj;obtain⟨rfl,rfl⟩:=hnew b d' e';have:= (r.dom _ _ _ e0).2;omega
   ·rw [hat i hi] at ho;rw [hat j hj] at hl;exact r.inj i j b d d' e0 (hold j _ _ hj e') ho hl
 ·intro i hi;exact hat i (by omega)
 ·intro i hi x;rwa [hat i (by omega)] at x
 ·intro i hi x;rwa [hat i (by omega)] at x
 ·intro b hb' _;exact hb.block b hb'
 ·intro i b d e e';by_cases hi:i=h.size
  ·subst hi;obtain⟨rfl,rfl⟩:=hnew b d e';exact⟨Nat.le_refl _,.inl hp⟩
  ·rw [hold i b d hi e'] at e;cases e
theorem ZhZ {f:FuncId} {args:Array Value} {wm:Nat} {h:H} {r:YF} (hc:ZfQ C ih f args wm h=some r):Yu C.X (.call f args wm h) r:=by
 unfold ZfQ at hc;split at hc
 ·rename_i v hv;obtain⟨hp,Zy0⟩:=C.X.ZrE f v hv;split at hc
  ·rename_i ha;cases hc;intro ρ args' w ZQ hr hvs
   have hargs:args'=#[]:=by
    have h1:args.size=0:=by rw [← Array.length_toList,ha];rfl
    have h2:=hvs.1;exact Array.eq_empty_of_size_eq_zero (by omega)
   subst hargs;refine(Zy0 w).mono fun e w' ⟨he,hb⟩=>?_
   subst he;refine⟨ρ,.ret (VR.Z0 hp),⟨fun i b d e=>?_,fun i b d e=>?_,hr.inj⟩,⟨Ren.le_refl ρ,Nat.le_refl _,fun _ _=>rfl,fun _ _ x=>x,fun _ _ x=>x,hb.os,hb.tape,hb.output,hb.size,fun b hb' _=>hb.block b hb',fun i b d e e'=>by rw [e] at e';cases e'⟩⟩
   ·obtain⟨q1,q2⟩:=hr.dom i b d e;exact⟨q1,Nat.lt_of_lt_of_le q2 hb.size⟩
   ·exact(hr.obj i b d e).world (hb.block b (hr.dom i b d e).2)
  ·cases hc
 ·split at hc
  ·rename_i v A hv;cases hc;intro ρ args' w ZQ hr hvs;refine(C.X.ZrF f args h v A hv ρ args' w hr hvs).mono fun e w' ⟨v',p,l,he,hb,hp,hp2,hvr,ho⟩=>?_
   subst he;obtain⟨q1,q2⟩:=Zys hr ZQ hb hp hp2 ho;exact⟨_,.ret hvr,q1,q2⟩
  ·exact Zj5 HI hc
end
theorem QG {F:Fence} {n:Nat} {P:Program} {c:Code} {Q Q':Exit ->Act ->List Frame ->World ->Prop} {a:Act} {cs:List Frame} {w:World} (h:c.wpSIn F n P Q a cs w)
 (hq:∀ e a cs w,Q e a cs w ->Q' e a cs w):c.wpSIn F n P Q' a cs w:=
 fun b k h1 h2 h3 h4=>let⟨e,a',cs',w',l,q,r⟩:=h b k h1 h2 h3 h4;⟨e,a',cs',w',l,hq _ _ _ _ q,r⟩
theorem ZnY {n wm:Nat} {ops:Array Oper}:∀ (l:List Oper) (k:Nat),(∀ j,l[j]? =ops[k + j]?) ->∀ (pm U9:PM) (s s':Fs),Zmd X n wm ops.toList l pm s=some (U9,s') ->
 ∀ {ρ:Ren} {c0:Frame} {cs:List Frame} {a:Act} {w:World},Inv ρ n s a w ->wm <=s.h.size ->PmR ρ pm c0.mode ->∀ (Q:Exit ->Act ->List Frame ->World ->Prop),
   (∀ ρ' u' a' w',PmR ρ' U9 u' ->Inv ρ' n s' a' w' ->Stp wm ρ s.h w ρ' s'.h w' ->Q .normal a' ({c0 with mode:=u'}::cs) w') ->
   wpOpsSIn base 0 X.P ops Q (List.range' k l.length) a (c0::cs) w:=by
 intro l
 induction l with
 | nil=>
   intro k hl pm U9 s s' hs ρ c0 cs a w hi ZQ hpm Q hQ;cases hs;exact hQ ρ c0.mode a w hpm hi (Stp.refl _ _ _ _)
 | cons o l ihl=>
   intro k hl pm U9 s s' hs ρ c0 cs a w hi ZQ hpm Q hQ;have h0:ops[k]? =some o:=by simpa using (hl 0).symm
   have hl':∀ j,l[j]? =ops[k + 1 + j]?:=fun j=>by have:=hl (j + 1);simpa [Nat.add_assoc,Nat.add_comm 1 j] using this
   simp only [List.length_cons,List.range'_succ,wpOpsSIn,h0];simp only [Zmd] at hs;split at hs
   ·rename_i pm1 s1 hd
    have ZGS:∀ f,o.about X.P w a.eval=some f ->f < nfs:=by
     intro f hab;unfold dop at hd;dsimp only at hd;cases hok:okG ops.toList o s.fr <;> rw [hok] at hd <;> simp only [Bool.not_false,Bool.not_true,Cq1,Cq0] at hd
     ·cases hd
     cases hwt:YR ops.toList o s.fr <;> rw [hwt] at hd <;> simp only [Cq1,Cq0] at hd
     ·exact ZcY (ρ:=ρ) (fun t _ hx=>hi.fr.val t hx) hok hwt hab
     ·split at hd
      ·rename_i nx E ha;obtain⟨ρ1,w1,p1,p2,p3⟩:=KV hi.rel (UE hi.fr) ha;exact Zau ha p3 hab
      ·cases hd
    refine⟨fun f hab=>ZGS f hab,?_⟩
    have go:∀ {ρ1:Ren} {u1:FrameMode} {a1:Act} {w1:World},Inv ρ1 n s1 a1 w1 ->PmR ρ1 pm1 u1 ->Stp wm ρ s.h w ρ1 s1.h w1 ->
     wpOpsSIn base 0 X.P ops Q (List.range' (k + 1) l.length) a1 ({c0 with mode:=u1}::cs) w1:=by
     intro ρ1 u1 a1 w1 h1 h2 h3;refine ihl (k + 1) hl' pm1 U9 s1 s' hs (c0:= {c0 with mode:=u1}) h1 (Nat.le_trans ZQ h3.size) h2 Q (fun ρ' u' a' w' q1 q2 q3=>?_);exact hQ ρ' u' a' w' q1 q2 (h3.trans hi.rel.lt q3)
    unfold dop at hd;dsimp only at hd;cases hok:okG ops.toList o s.fr <;> rw [hok] at hd <;> simp only [Bool.not_false,Bool.not_true,Cq1,Cq0] at hd
    ·cases hd
    rw [Zcr hi.fr ops o hok];cases hwt:YR ops.toList o s.fr <;> rw [hwt] at hd <;> simp only [Cq1,Cq0] at hd
    ·rw [if_neg (by simp)];split at hd
     ·rename_i s2 hp2;cases hd;obtain⟨q1,q2⟩:=QK hi (VR.undef ρ) hp2;have:=go (u1:=c0.mode) q1 hpm (by rw [q2];exact Stp.refl _ _ _ _);exact this
     ·cases hd
    ·rw [if_pos rfl];split at hd
     ·rename_i nx E ha;split at hd
      ·rename_i h1 hE;obtain⟨ρ1,w1,p1,p2,p3⟩:=KV hi.rel (UE hi.fr) ha;obtain⟨r1,st1⟩:=Eff.sound hi.rel ZQ p1 hE p2;have hi1:=hi.step r1 st1;split at hd
       ·rename_i v;obtain⟨v',hv,hrun⟩:=p3;rw [hrun];split at hd
        ·rename_i s2 hp2;cases hd;obtain⟨q1,q2⟩:=QK hi1 hv hp2;exact go (u1:=c0.mode) q1 (hpm.mono st1.ext) (by rw [q2];exact st1)
        ·cases hd
       ·have hrun:(execOp a.eval o).run X.P w= .ok .skip w1:=p3;rw [hrun];split at hd
        ·rename_i s2 hp2;cases hd;obtain⟨q1,q2⟩:=QK hi1 (VR.undef _) hp2;exact go (u1:=c0.mode) q1 (hpm.mono st1.ext) (by rw [q2];exact st1)
        ·cases hd
       ·have hrun:(execOp a.eval o).run X.P w= .ok .recover w1:=p3;rw [hrun];have Zqi:=hpm.mono st1.ext;cases pm with
        | Yn v=>
          simp only at hd;generalize hm:c0.mode=m at Zqi;cases Zqi with
          | @Yn _ v' hv=>
            have hrec:recoverD (c0::cs)=some (v',{c0 with mode:= .panicking [{v:=v',recovered:=true}]}::cs):=by
             simp [recoverD,hm,chainOf]
            simp only [hrec];split at hd
            ·rename_i s2 hp2;cases hd;obtain⟨q1,q2⟩:=QK hi1 hv hp2;exact go q1 (.rcv hv) (by rw [q2];exact st1)
            ·cases hd
        | ret=>
          simp only at hd;generalize hm:c0.mode=m at Zqi;cases Zqi;have hrec:recoverD (c0::cs)=none:=by simp [recoverD,hm]
          simp only [hrec];split at hd
          ·rename_i s2 hp2;cases hd;obtain⟨q1,q2⟩:=QK hi1 (v:= .nilIface) (v':= .nilIface) (VR.Z0 rfl) hp2;exact go (u1:=c0.mode) q1 (by rw [hm];exact .ret) (by rw [q2];exact st1)
          ·cases hd
        | rcv v=>
          simp only at hd;generalize hm:c0.mode=m at Zqi;cases Zqi with
          | @rcv _ v' hv=>
            have hrec:recoverD (c0::cs)=none:=by simp [recoverD,hm]
            simp only [hrec];split at hd
            ·rename_i s2 hp2;cases hd;obtain⟨q1,q2⟩:=QK hi1 (v:= .nilIface) (v':= .nilIface) (VR.Z0 rfl) hp2;exact go (u1:=c0.mode) q1 (by rw [hm];exact .rcv hv) (by rw [q2];exact st1)
            ·cases hd
       ·cases hd
      ·cases hd
     ·cases hd
   ·cases hs
section
variable {C:Cfg} (HI:∀ j r,ih j=some r ->Yu C.X j r)
include HI
theorem Zbq {c:Code} {n wm:Nat} {pm:PM} {s:Fs} {r:YF} (h:KR ih c n wm pm s=some r):ZfX C.X c n wm pm s r:=by
 obtain⟨e,s1,ha,hk⟩:=QJ h;obtain⟨_,_,e0,ka⟩:=Y4.1 (HI _ _ ha);cases e0;cases hk;refine⟨e,pm,s1,rfl,fun ρ a c0 cs w ZQ hi hpm=>wpSIn_of_wpIn rfl (wpIn_mono (ka ρ a w base ZQ hi rfl) ?_)⟩;rintro e' a' w' ⟨ρ',he,hi',hst⟩;exact⟨ρ',c0.mode,rfl,hpm.mono hst.ext,he,hi',hst⟩
theorem QY {c:Code} {n wm:Nat} {pm:PM} {s:Fs} {r:YF} (h:Wl C ih c n wm pm s=some r):ZfX C.X c n wm pm s r:=by
 unfold Wl at h;split at h
 ·rename_i a b;obtain⟨e,pm1,s1,ha,hk⟩:=ZfR h;obtain⟨_,_,_,e0,ka⟩:=XD.1 (HI _ _ ha);cases e0;have simple:∀ {x:Exit},(∀ ρ,ExR ρ e x ->True) ->True:=fun _=>trivial
  cases e with
  | normal=>
    obtain⟨e2,pm2,s2,rfl,kb⟩:=XD.1 (HI _ _ hk);refine⟨e2,pm2,s2,rfl,fun ρ a c0 cs w ZQ hi hpm=>wpSIn_seq (QG (ka ρ a c0 cs w ZQ hi hpm) ?_)⟩;rintro e' a' cs' w' ⟨ρ',u',rfl,hp',he,hi',hst⟩;cases he;refine QG (kb ρ' a' {c0 with mode:=u'} cs w' (Nat.le_trans ZQ hst.size) hi' hp') ?_;rintro e3 a3 cs3 w3 ⟨ρ3,u3,rfl,q1,q2,q3,q4⟩;exact⟨ρ3,u3,rfl,q1,q2,q3,hst.trans hi.rel.lt q4⟩
  | exit id=>
    cases hk;refine⟨_,_,_,rfl,fun ρ a c0 cs w ZQ hi hpm=>wpSIn_seq (QG (ka ρ a c0 cs w ZQ hi hpm) ?_)⟩;rintro e' a' cs' w' ⟨ρ',u',rfl,hp',he,hi',hst⟩;cases he;exact⟨ρ',u',rfl,hp',.exit id,hi',hst⟩
  | goto id=>
    cases hk;refine⟨_,_,_,rfl,fun ρ a c0 cs w ZQ hi hpm=>wpSIn_seq (QG (ka ρ a c0 cs w ZQ hi hpm) ?_)⟩;rintro e' a' cs' w' ⟨ρ',u',rfl,hp',he,hi',hst⟩;cases he;exact⟨ρ',u',rfl,hp',.goto id,hi',hst⟩
  | ret=>
    cases hk;refine⟨_,_,_,rfl,fun ρ a c0 cs w ZQ hi hpm=>wpSIn_seq (QG (ka ρ a c0 cs w ZQ hi hpm) ?_)⟩;rintro e' a' cs' w' ⟨ρ',u',rfl,hp',he,hi',hst⟩;cases he;exact⟨ρ',u',rfl,hp',.ret,hi',hst⟩
  | panic v=>
    cases hk;refine⟨_,_,_,rfl,fun ρ a c0 cs w ZQ hi hpm=>wpSIn_seq (QG (ka ρ a c0 cs w ZQ hi hpm) ?_)⟩;rintro e' a' cs' w' ⟨ρ',u',rfl,hp',he,hi',hst⟩;cases he with
    | panic hv=>exact⟨ρ',u',rfl,hp',.panic hv,hi',hst⟩
 ·rename_i c a b;split at h
  ·rename_i t hc
   have:ZfX C.X (if t then a else b) n wm pm s r:=by
    cases t with
    | true=>exact XD.1 (HI _ _ h)
    | false=>exact XD.1 (HI _ _ h)
   obtain⟨e,U9,s',rfl,k⟩:=this;refine⟨e,U9,s',rfl,fun ρ a' c0 cs w ZQ hi hpm=>?_⟩;have hv:=UE hi.fr _ _ hc;generalize hx:a'.eval c=x at hv;cases hv;exact wpSIn_cond hx (k ρ a' c0 cs w ZQ hi hpm)
  ·cases h
 ·rename_i id ops d;cases hd:(!d && ops.toList.any isRecover) <;> rw [hd] at h <;> simp only [Cq1,Cq0] at h
  ·exact Zbq HI h
  ·split at h
   ·rename_i U9 s' hs;cases h;have:d=false:=by simp at hd;exact hd.1
    subst this;refine⟨.normal,U9,s',rfl,fun ρ a c0 cs w ZQ hi hpm=>wpSIn_region ?_⟩;rw [List.range_eq_range',← Array.length_toList];exact ZnY ops.toList 0 (by simp) pm U9 s s' hs hi ZQ hpm _ (fun ρ' u' a' w' q1 q2 q3=>⟨ρ',u',rfl,q1,.normal,q2,q3⟩)
   ·cases h
 ·exact Zbq HI h
theorem Zco {f:FuncId} {args:Array Value} {pm:PM} {wm:Nat} {h:H} {r:YF} (hc:ZdX C ih f args pm wm h=some r):Yu C.X (.dcall f args pm wm h) r:=by
 unfold ZdX at hc;split at hc
 ·rename_i fn hfn;split at hc
  ·rename_i c hb;cases hn:Nat.ble args.toList.length fn.ntmps <;> rw [hn] at hc <;> simp only [Cq1,Cq0] at hc
   ·cases hc
   ·obtain⟨e,pm1,s1,ha,hk⟩:=ZfR hc;obtain⟨_,_,_,e0,ka⟩:=XD.1 (HI _ _ ha);cases e0
    have key:∀ v,s1.ds= [] ->(e= .normal∨e= .ret) ->Qt C.X.P fn s1.fr s1.h=some v ->Yu C.X (.dcall f args pm wm h) (.Zcc pm1 s1.h):=by
     intro v hds he hv ρ args' u w ZQ hr hva hpm
     have hi:Inv ρ fn.ntmps {fr:=XQ args.toList 0 .nil,ds:= [],h:=h} {tmps:=args' ++ Array.replicate (fn.ntmps - args'.size) undef,defers:= []} w:=
      ⟨hr,UG hva (Nl0 hn),.nil⟩
     refine callsDIn_of_wpSIn (C.X.ok f fn hfn).1 hb (ZeA hfn) fun c0 cs hm=>QG (ka ρ _ c0 cs w ZQ hi (by rw [hm];exact hpm)) ?_
     rintro e' a' cs' w' ⟨ρ',u',rfl,hp',he',hi',hst⟩
     have hd:a'.defers= []:=by
      have:=hi'.ds;rw [hds] at this;exact this.nil_eq
     obtain⟨v',q1,q2⟩:=Zcs hi'.rel hi'.fr hv;rcases he with rfl | rfl
     ·cases he';exact⟨hd,u',rfl,v',q2,v',rfl,ρ',hp',hi'.rel,hst⟩
     ·cases he';exact⟨hd,u',rfl,v',q2,v',rfl,ρ',hp',hi'.rel,hst⟩
    split at hk
    ·rename_i hds hv;cases hk;exact key _ hds (.inl rfl) hv
    ·rename_i hds hv;cases hk;exact key _ hds (.inr rfl) hv
    ·cases hk
  ·cases hc
 ·cases hc
end
end Go.Yj
end
end
section
noncomputable section
namespace Go.Yj
variable {ρ:Ren} {w:World} {X:Ctx} {ih:Qg ->Option YF}
theorem run_enterLoop_inner {P:Program} (fn:FuncId) (tmps:Array Value) (ps:Array Tmp) (assign body:Code) {l:Nat} {r:Loop} (h:w.heap[l]? =some (.loop r)):
 (Instr.enterLoop fn tmps ps assign body (some l)).run P w=
   .ok (w.heap.size,[]) (w.alloc (.loop {state:= .ready,pending:=none,fn,tmps,params:=ps,assign,body,defers:=r.defers})):=by
 unfold Instr.enterLoop;simp only [Sem.run_bind,run_getLoop h,run_newObj_alloc,Result.andThen,Sem.run_pure]
theorem Zap (w:World) (o:Obj):(w.alloc o).heap=w.heap.push o:=rfl
theorem ZcS (w:World) (o:Obj):Same w (w.alloc o):= ⟨rfl,rfl,rfl⟩
theorem ZkZ (w:World) (r:Nat) (o:Obj):Same w (w.putObj r o):= ⟨rfl,rfl,rfl⟩
theorem Zax {n:Nat}:∀ (ps:List Tmp) (vs vs':List Value) (fr fr1:Fr) (tmps:Array Value),LR ρ vs vs' ->FrR ρ fr n tmps ->Qf (ps.zip vs) n fr=some fr1 ->
 FrR ρ fr1 n ((ps.zip vs').foldl (fun tmps (t,a)=>tmps.setIfInBounds t a) tmps):=by
 intro ps
 induction ps with
 | nil=>intro vs vs' fr fr1 tmps hv hf h;simp [Qf] at h;subst h;simpa using hf
 | cons p ps ih=>
   intro vs vs' fr fr1 tmps hv hf h
   match vs,vs',hv with
   | [],[],_=>simp [Qf] at h;subst h;simpa using hf
   | [],_::_,hv=>exact absurd hv.1 (by simp)
   | _::_,[],hv=>exact absurd hv.1 (by simp)
   | v::vs,v'::vs',hv=>
     simp only [List.zip_cons_cons,Qf] at h;cases hb:Nat.blt p n <;> rw [hb] at h <;> simp only [Cq1,Cq0] at h
     ·cases h
     ·rw [Nat.blt_eq] at hb;simp only [List.zip_cons_cons,List.foldl_cons];have h1:VR ρ v v':=hv.2 0 v v' rfl rfl;have h2:LR ρ vs vs':= ⟨by simpa using hv.1,fun i x x' a b=>hv.2 (i + 1) x x' (by simpa using a) (by simpa using b)⟩
      exact ih vs vs' _ fr1 _ h2 (hf.set hb h1) h
theorem Zts {ρ:Ren} {rd:Option Nat} {F:Fence} (h:Kl ρ rd F) {f:FuncId} (hf:F.fn f):f < nfs:= (WN h f).1 hf
theorem ZbM {wm:Nat} {h:H} {w:World} {l l':Nat} {st st2:LoopState} {pd pd2:Option Code} {fr:Fr} {n:Nat} {ps:Array Tmp} {Yr bd:Code} {df:Nat} (r:Rel ρ h w) (hl:ρ l=some (l',0)) (ZQ:wm <=l)
 (hat:h.at l= .loop st pd fr n ps Yr bd df):∃ k:Loop,w.heap[l']? =some (.loop k)∧k.state=st∧k.pending=pd∧k.params=ps∧k.assign=Yr∧k.body=bd∧FrR ρ fr n k.tmps∧
   Rel ρ (h.put l (.loop st2 pd2 fr n ps Yr bd df)) (w.putObj l' (.loop {k with state:=st2,pending:=pd2}))∧
   Stp wm ρ h w ρ (h.put l (.loop st2 pd2 fr n ps Yr bd df)) (w.putObj l' (.loop {k with state:=st2,pending:=pd2})):=by
 have ho:=r.obj _ _ _ hl;rw [hat] at ho;obtain⟨_,fn,tmps,df',hw,hfr,hdf,hnf⟩:=ho;have hlt:= (r.dom _ _ _ hl).2;refine⟨_,hw,rfl,rfl,rfl,rfl,rfl,hfr,?_⟩;refine Zjg r ZQ (by rw [hat];rfl) (ZkZ _ _ _) hl World.putObj_size (fun k hk=>World.putObj_heap_other hk) ?_;exact⟨rfl,fn,tmps,df',World.putObj_heap_same hlt,hfr,hdf,hnf⟩
theorem Zf9 {F:Fence} {n:Nat} {P:Program} {l:Nat} {f:FuncId} {tmps:Array Value} {assign body:Code} {w:World} {R:Ending ->World ->Prop} (hF:F.fn f) (hfn:∃ fn,P.funcs[f]? =some fn)
 (h:assign.wpIn (F.inRound l) n P (fun e a1 w1=>e= .normal∧∃ w2,(Instr.beginRound l).run P w1= .ok () w2∧body.wpIn (F.inRound l) n P (fun e a w=>∃ ch,e= .panic ch∧a.defers= []∧R (.panicked ch) w) a1 w2) {tmps:=tmps,defers:= []} w):
 RoundIn F n P l f tmps assign body w R:=by
 refine⟨hF,fun c cs hroom=>?_⟩
 have e0:Frame.round l f tmps assign body .normal= ({(default:Frame) with fn:=f,kind:= .normal,roundOf:=some l}:Frame).atR {tmps:=tmps,defers:= []} [.code assign,.beginRound,.code body]:=by
  simp [Frame.round,Frame.atR]
 generalize hb:({(default:Frame) with fn:=f,kind:= .normal,roundOf:=some l}:Frame)=b at e0;have hk:b.fn=f∧b.kind= .normal∧b.roundOf=some l:=by subst hb;exact⟨rfl,rfl,rfl⟩
 have g1:(F.inRound l).fn b.fn:=by rw [hk.1];exact hF
 have g2:(F.inRound l).room ((c::cs).length + 1 + n):=hroom;obtain⟨e1,a1,w1,⟨rfl,w2,r1,k2⟩,s1⟩:=h b [.beginRound,.code body] (c::cs) (by rw [hk.2.2];rfl) g1 g2;obtain⟨e2,a2,w3,⟨ch,rfl,hd,hR⟩,todo,s3⟩:=k2 b [] (c::cs) (by rw [hk.2.2];rfl) g1 g2;refine⟨.panicked ch,w3,hR,?_⟩;rw [e0];refine StepsIn.trans s1 (StepsIn.trans (.one (fenced_calm (fr:=b.atR a1 [.beginRound,.code body]) g1 g2 rfl) (stepR_beginRound hk.2.2 r1)) (StepsIn.trans s3 (.one ?_ (step_leave_panicked (fr:= {b.atR a2 todo with mode:= .panicking ch}) ⟨rfl,hd,?_⟩))))
 ·refine fenced_lone (.inl g1) (fun f hf=>?_) (Fence.room_le g2 (by omega));exfalso;unfold Frame.about at hf;simp [Frame.atR,hd] at hf
 ·have:({b.atR a2 todo with mode:= .panicking ch}:Frame).fn=f:=hk.1;rw [this];exact hfn
section
variable {C:Cfg} (HI:∀ j r,ih j=some r ->Yu C.X j r)
include HI
theorem Zbp {g:Operand} {n wm:Nat} {rd:Option Nat} {l:Nat} {s0 s:Fs} {ps:Array Tmp} {Yr bd:Code} {r:YF} (ZGN:s.fr=s0.fr) (h:X8 C ih g n wm rd l s=some r) (ZjD:∀ ρ w,Rel ρ s0.h w ->wm <=s0.h.size ->wm <=l)
 (henter:∀ ρ a w F,Inv ρ n s0 a w ->wm <=s0.h.size ->Kl ρ rd F ->∀ fn,fn < nfs ->∃ l' mark w₁ ρ1,(Instr.enterLoop fn a.tmps ps Yr bd F.round).run C.X.P w= .ok (l',mark) w₁∧ρ1 l=some (l',0)∧
   Inv ρ1 n s {a with defers:=mark ++ a.defers} w₁∧Stp wm ρ s0.h w ρ1 s.h w₁):
 ZbF C.X (.rangeFunc g ps Yr bd) n wm rd s0 r:=by
 unfold X8 at h;split at h
 ·rename_i gv hg;split at h
  ·rename_i f args hcall
   have hfn:∃ g1 first cap fn,gv= .func (.func g1) first cap∧C.X.fns.get g1=some fn∧f=g1∧args= (first.toList ++ [Value.func (.yield l) #[] #[]] ++ cap.toList).toArray:=by
    unfold Ux at hcall;split at hcall
    ·split at hcall
     ·rename_i fnn ZvK;cases hcall;exact⟨_,_,_,_,rfl,ZvK,rfl,rfl⟩
     ·cases hcall
    ·split at hcall
     ·exfalso
      revert hcall
      generalize Nat.beq _ _=b;cases b <;> simp
     ·cases hcall
    ·cases hcall
   obtain⟨g1,first,cap,fnn,rfl,ZvK,rfl,rfl⟩:=hfn
   have hres:∃ e s',r= .code e s':=by
    unfold JI at h;split at h
    ·split at h
     ·rename_i st pd fr n' ps' as' bd' df hat;cases hst:(st== .busy) <;> rw [hst] at h <;> simp only [Cq1,Cq0] at h
      ·split at h
       ·cases h;exact⟨_,_,rfl⟩
       ·obtain⟨e,s',e1,_⟩:=Y4.1 (HI _ _ h);exact⟨e,s',e1⟩
      ·cases h
     ·cases h
    ·cases h;exact⟨_,_,rfl⟩
    ·cases h
   obtain⟨e,s',rfl⟩:=hres;refine⟨e,s',rfl,fun ρ a w F ZQ hi hF=>wpIn_rangeFunc fun fn ZCQ=>?_⟩;obtain⟨l',mark,w₁,ρ1,he,hl1,hi1,st1⟩:=henter ρ a w F hi ZQ hF fn (Zts hF ZCQ)
   have hgv:VR ρ1 (.func (.func f) first cap) (a.eval g):=by
    have:=UE hi.fr _ _ (by rw [ZGN] at hg;exact hg);exact this.mono st1.ext
   generalize hgx:a.eval g=gx at hgv;cases hgv with
   | func _ _ _ first' cap' hy hx1 hx2 h1 h2=>
     have hv:Jq ρ1 (first.toList ++ [Value.func (.yield l) #[] #[]] ++ cap.toList).toArray (first' ++ #[Value.func (.yield l') #[] #[]] ++ cap'):=by
      have e1:LR ρ1 first.toList first'.toList:=Jq.list ⟨hx1,h1⟩;have e2:LR ρ1 cap.toList cap'.toList:=Jq.list ⟨hx2,h2⟩;have e3:LR ρ1 [.func (.yield l) #[] #[]] [.func (.yield l') #[] #[]]:=LR.cons (.yield hl1) LR.nil;have:= ((e1.append e3).append e2).arr;have e:(first'.toList ++ [Value.func (.yield l') #[] #[]] ++ cap'.toList).toArray=first' ++ #[Value.func (.yield l') #[] #[]] ++ cap':=by apply Array.toList_inj.1;simp
      rwa [e] at this
     refine⟨l',mark,w₁,{target:= .fn (.func f) cap',args:=first' ++ #[Value.func (.yield l') #[] #[]]},w₁,f,first' ++ #[Value.func (.yield l') #[] #[]] ++ cap',w₁,he,?_,fun f' hab=>(WN hF f').2 (by simp only [Target.leads] at hab;cases hab;exact ZeA ZvK),?_,fun hh=>?_,?_⟩
     ·have e:∀ v,a.eval (.const v)=v:=fun _=>rfl
      simp only [resolve,hgx,Deferred.ofValue];simp [e]
     ·rw [← U8 (w:=w₁) (args:=first' ++ #[Value.func (.yield l') #[] #[]] ++ cap') ZvK];simp [invoke]
     ·rw [Kb hF] at hh;cases hh
     ·unfold JI at h;split at h
      ·rename_i rv h2 hc;have hcj:=HI _ _ hc;have ZhS:=Nat.le_trans ZQ st1.size;refine(QE hF (hcj ρ1 _ w₁ ZhS hi1.rel hv)).mono ?_;rintro e2 w2 ⟨ρ2,he2,hr2,ZfA⟩;cases he2 with
       | ret hv2=>
         split at h
         ·rename_i st pd fr n' ps' as' bd' df hat;cases hst:(st== .busy) <;> rw [hst] at h <;> simp only [Cq1,Cq0] at h
          ·have hl2:= (ZfA.ext _ _ hl1).1;obtain⟨k,k1,k2,k3,k4,k5,k6,k7,k8,k9⟩:=ZbM (st2:= .exhausted) (pd2:=pd) (wm:=wm) hr2 hl2 (ZjD ρ w hi.rel ZQ) hat
           have hend:(Instr.endLoop l').run C.X.P w2= .ok pd (w2.putObj l' (.loop {k with state:= .exhausted,pending:=pd})):=by
            rw [run_endLoop k1 (by rw [k2];intro hb;rw [hb] at hst;cases hst),← k3]
           have hi2:Inv ρ2 n {s with h:=h2.put l (.loop .exhausted pd fr n' ps' as' bd' df)} {a with defers:=mark ++ a.defers} (w2.putObj l' (.loop {k with state:= .exhausted,pending:=pd})):=
            ⟨k8,hi1.fr.mono ZfA.ext,hi1.ds.mono ZfA.ext⟩
           have Zvq:= (st1.trans hi.rel.lt ZfA).trans hi.rel.lt k9;refine⟨pd,_,hend,?_⟩;cases pd with
           | none=>
             cases h;exact⟨ρ2,.normal,hi2,Zvq⟩
           | some c=>
             obtain⟨_,_,e1,kc⟩:=Y4.1 (HI _ _ h);cases e1;exact wpIn_mono (kc ρ2 _ _ F (Nat.le_trans ZQ Zvq.size) hi2 (hF.mono Zvq.ext)) fun _ _ _ hp=>Xu.trans hi.rel.lt Zvq hp
          ·cases h
         ·cases h
      ·rename_i v h2 hc;cases h;have hcj:=HI _ _ hc;have ZhS:=Nat.le_trans ZQ st1.size;refine(QE hF (hcj ρ1 _ w₁ ZhS hi1.rel hv)).mono ?_;rintro e2 w2 ⟨ρ2,he2,hr2,ZfA⟩;cases he2 with
       | Yn hv2=>exact⟨ρ2,.panic hv2,⟨hr2,hi1.fr.mono ZfA.ext,hi1.ds.mono ZfA.ext⟩,st1.trans hi.rel.lt ZfA⟩
      ·cases h
  ·cases h
 ·cases h
theorem JJ {g:Operand} {ps:Array Tmp} {Yr bd:Code} {n wm:Nat} {rd:Option Nat} {s:Fs} {r:YF} (h:ZdU C ih g ps Yr bd n wm rd s=some r):ZbF C.X (.rangeFunc g ps Yr bd) n wm rd s r:=by
 unfold ZdU at h;split at h
 ·refine Zbp HI (s0:=s) (by rfl) h (fun ρ w _ hw=>by omega) fun ρ a w F hi ZQ hF fn hnf=>?_
  have hF0:F=base:=hF;subst hF0;obtain⟨p1,p2⟩:=ZaS (wm:=wm) (A:= .deferred) (o:= .deferred (some [])) (l:= (0,0)) hi.rel ZQ (ZcS w _) (Zap w _) ⟨rfl,World.alloc_heap_new w _⟩;have hdf:=Ren.add_same ρ s.h.size (w.heap.size,0) (0,0);generalize ZJ9:ρ.add s.h.size (w.heap.size,0) (0,0)=ρ1 at p1 p2 hdf;have hsz:(w.alloc (.deferred (some []))).heap.size=w.heap.size + 1:=by rw [Zap];simp
  have hle:ρ1.le (ρ1.add (s.h.push .deferred).size ((w.alloc (.deferred (some []))).heap.size,0) (0,0)):=Ren.Kq p1.fresh
  obtain⟨q1,q2⟩:=ZaS (wm:=wm) (A:= .loop .ready none s.fr n ps Yr bd s.h.size) (l:= (0,0))
   (o:= .loop {state:= .ready,pending:=none,fn,tmps:=a.tmps,params:=ps,assign:=Yr,body:=bd,defers:=w.heap.size}) p1 (Nat.le_trans ZQ p2.size) (ZcS _ _) (Zap _ _)
   ⟨rfl,fn,a.tmps,w.heap.size,World.alloc_heap_new _ _,(hi.fr.mono p2.ext).mono hle,(hle _ _ hdf).1,hnf⟩
  refine⟨w.heap.size + 1,_,_,_,run_enterLoop_outer fn a.tmps ps Yr bd,?_,⟨q1,(hi.fr.mono p2.ext).mono hle,?_⟩,p2.trans hi.rel.lt q2⟩
  ·have:=Ren.add_same ρ1 (s.h.push .deferred).size ((w.alloc (.deferred (some []))).heap.size,0) (0,0);rw [hsz] at this
   simpa [hsz] using this
  ·exact .mark (hle _ _ hdf).1 ((hi.ds.mono p2.ext).mono hle)
 ·rename_i l;split at h
  ·rename_i st pd fr n' ps' as' bd' df hat;refine Zbp HI (s0:=s) (by rfl) h (fun ρ w _ hw=>hw) fun ρ a w F hi ZQ hF fn hnf=>?_
   obtain⟨l',hl',rfl⟩:=hF;have ho:=hi.rel.obj _ _ _ hl';rw [hat] at ho;obtain⟨_,fn0,Zw2,df',hw,hfr,hdf,_⟩:=ho;have hle:ρ.le (ρ.add s.h.size (w.heap.size,0) (0,0)):=Ren.Kq hi.rel.fresh
   obtain⟨q1,q2⟩:=ZaS (wm:=wm) (A:= .loop .ready none s.fr n ps Yr bd df) (l:= (0,0))
    (o:= .loop {state:= .ready,pending:=none,fn,tmps:=a.tmps,params:=ps,assign:=Yr,body:=bd,defers:=df'}) hi.rel ZQ (ZcS _ _) (Zap _ _)
    ⟨rfl,fn,a.tmps,df',World.alloc_heap_new _ _,hi.fr.mono hle,(hle _ _ hdf).1,hnf⟩
   refine⟨w.heap.size,[],_,_,run_enterLoop_inner fn a.tmps ps Yr bd hw,?_,⟨q1,hi.fr.mono hle,hi.ds.mono hle⟩,q2⟩;exact Ren.add_same ρ s.h.size (w.heap.size,0) (0,0)
  ·cases h
theorem Kv {l:Nat} {args:Array Value} {wm:Nat} {h:H} {r:YF} (hc:Zb2 ih l args wm h=some r):Yu C.X (.round l args wm h) r:=by
 unfold Zb2 at hc;split at hc
 ·rename_i st0 pd0 fr n ps Yr bd df0 hat;cases hb:(Nat.ble wm l && Nat.beq args.toList.length ps.toList.length) <;> rw [hb] at hc <;> simp only [Cq1,Cq0] at hc
  ·cases hc
  rw [Ba0] at hb;have ZjD:=Nl0 hb.1;split at hc
  ·rename_i fr1 hset;obtain⟨e1,s1,ha,hk⟩:=QJ hc;obtain⟨_,_,e0,ka⟩:=Y4.1 (HI _ _ ha);cases e0;unfold WS at hk;split at hk
   ·split at hk
    ·rename_i pd QD n2 ps2 as2 bd2 df2 ZsJ;obtain⟨e2,s2,hb2,hk2⟩:=QJ hk;obtain⟨_,_,e0,kb⟩:=Y4.1 (HI _ _ hb2);cases e0;unfold Jl at hk2;split at hk2
     ·rename_i st3 pd3 fr3 n3 ps3 as3 bd3 df3 Zy2;by_cases hp:∃ v0,e2= .panic v0
      ·obtain⟨v0,rfl⟩:=hp;dsimp only at hk2;split at hk2
       ·rename_i hds;cases hk2;intro ρ l' k args' w ZQ hr hv hl hw
        have hkk:k.params=ps∧k.assign=Yr∧k.body=bd∧FrR ρ fr n k.tmps∧k.fn < nfs:=by
         have ho:=hr.obj _ _ _ hl;rw [hat] at ho;obtain⟨_,fn0,Zw2,df',hw',hfr,hdf,hnf⟩:=ho;rw [hw] at hw';cases hw';exact⟨rfl,rfl,rfl,hfr,hnf⟩
        obtain⟨rfl,rfl,rfl,hfr,hnf⟩:=hkk;have hfn:∃ fn,C.X.P.funcs[k.fn]? =some fn:= ⟨_,Array.getElem?_eq_getElem (by rw [C.X.sz];exact hnf)⟩
        refine Zf9 hnf hfn ?_
        have hi:Inv ρ n {fr:=fr1,ds:= [],h:=h} {tmps:= (k.params.zip args').foldl (fun tmps (t,a)=>tmps.setIfInBounds t a) k.tmps,defers:= []} w:=by
         refine⟨hr,?_,.nil⟩;have:=Zax k.params.toList args.toList args'.toList fr fr1 k.tmps (Jq.list hv) hfr hset;rw [← Array.foldl_toList,Array.toList_zip];exact this
        have hF:Kl ρ (some l) (base.inRound l'):= ⟨l',hl,rfl⟩
        refine wpIn_mono (ka ρ _ w _ ZQ hi hF) ?_;rintro x1 a1 w1 ⟨ρ1,he1,hi1,st1⟩;cases he1;have hl1:= (st1.ext _ _ hl).1;obtain⟨k1,q1,q2,q3,q4,q5,q6,q7,q8,q9⟩:=ZbM (st2:= .busy) (pd2:=pd) (wm:=wm) hi1.rel hl1 ZjD ZsJ;refine⟨rfl,_,run_beginRound q1 q2,?_⟩;have Zsr:({k1 with state:= .busy}:Loop)= {k1 with state:= .busy,pending:=pd}:=by rw [← q3]
        rw [Zsr];have ZyY:Inv ρ1 n {s1 with h:=s1.h.put l (.loop .busy pd QD n2 ps2 as2 bd2 df2)} a1 (w1.putObj l' (.loop {k1 with state:= .busy,pending:=pd})):= ⟨q8,hi1.fr,hi1.ds⟩
        have st1':=st1.trans hr.lt q9;refine wpIn_mono (kb ρ1 _ _ _ (Nat.le_trans ZQ st1'.size) ZyY ⟨l',hl1,rfl⟩) ?_;rintro x2 a2 w2 ⟨ρ2,he2,hi2,st2⟩;cases he2 with
        | panic hv2=>
          have hd:=hi2.ds;rw [hds] at hd;refine⟨_,rfl,(by generalize a2.defers=dd at hd;cases hd;rfl),ρ2,.Yn hv2,hi2.rel,st1'.trans hr.lt st2⟩
       ·cases hk2
      have hfin:∃ v h',r= .fin (.ret v) h':=by
       split at hk2 <;> first | exact(hp ⟨_,rfl⟩).elim | (cases hk2;exact⟨_,_,rfl⟩) | cases hk2
      obtain⟨v,h',rfl⟩:=hfin;intro ρ l' k args' w ZQ hr hv hl hw
      have hkk:k.params=ps∧k.assign=Yr∧k.body=bd∧FrR ρ fr n k.tmps∧k.fn < nfs:=by
       have ho:=hr.obj _ _ _ hl;rw [hat] at ho;obtain⟨_,fn0,Zw2,df',hw',hfr,hdf,hnf⟩:=ho;rw [hw] at hw';cases hw';exact⟨rfl,rfl,rfl,hfr,hnf⟩
      obtain⟨rfl,rfl,rfl,hfr,hnf⟩:=hkk;refine roundIn_of_wpIn hnf ?_
      have hi:Inv ρ n {fr:=fr1,ds:= [],h:=h} {tmps:= (k.params.zip args').foldl (fun tmps (t,a)=>tmps.setIfInBounds t a) k.tmps,defers:= []} w:=by
       refine⟨hr,?_,.nil⟩;have:=Zax k.params.toList args.toList args'.toList fr fr1 k.tmps (Jq.list hv) hfr hset;rw [← Array.foldl_toList,Array.toList_zip];exact this
      have hF:Kl ρ (some l) (base.inRound l'):= ⟨l',hl,rfl⟩
      refine wpIn_mono (ka ρ _ w _ ZQ hi hF) ?_;rintro x1 a1 w1 ⟨ρ1,he1,hi1,st1⟩;cases he1;have hl1:= (st1.ext _ _ hl).1;obtain⟨k1,q1,q2,q3,q4,q5,q6,q7,q8,q9⟩:=ZbM (st2:= .busy) (pd2:=pd) (wm:=wm) hi1.rel hl1 ZjD ZsJ;refine⟨_,run_beginRound q1 q2,?_⟩;have Zsr:({k1 with state:= .busy}:Loop)= {k1 with state:= .busy,pending:=pd}:=by rw [← q3]
      rw [Zsr];have ZyY:Inv ρ1 n {s1 with h:=s1.h.put l (.loop .busy pd QD n2 ps2 as2 bd2 df2)} a1 (w1.putObj l' (.loop {k1 with state:= .busy,pending:=pd})):= ⟨q8,hi1.fr,hi1.ds⟩
      have st1':=st1.trans hr.lt q9;refine wpIn_mono (kb ρ1 _ _ _ (Nat.le_trans ZQ st1'.size) ZyY ⟨l',hl1,rfl⟩) ?_;rintro x2 a2 w2 ⟨ρ2,he2,hi2,st2⟩;have hl2:= (st2.ext _ _ hl1).1;have st2':=st1'.trans hr.lt st2
      have fin:∀ (st4:LoopState) (pd4:Option Code) (b:Bool),v= .bool b ->h'=s2.h.put l (.loop st4 pd4 fr3 n3 ps3 as3 bd3 df3) ->b=pd4.isNone ->st4= (if pd4.isNone then .ready else .done) ->
       ∃ v' w',(Instr.endRound l' pd4).run C.X.P w2= .ok v' w'∧Uk wm ρ h w (.ret v) h' (.returned v') w':=by
       rintro st4 pd4 b rfl rfl rfl rfl;obtain⟨k2,r1,r2,r3,r4,r5,r6,r7,r8,r9⟩:=ZbM (st2:=if pd4.isNone then .ready else .done) (pd2:=pd4) (wm:=wm) hi2.rel hl2 ZjD Zy2;exact⟨_,_,run_endRound pd4 r1,ρ2,.ret (.bool _),r8,st2'.trans hr.lt r9⟩
      cases he2 with
      | normal=>cases hk2;exact fin .ready none true rfl rfl rfl rfl
      | ret=>cases hk2;exact fin .done (some .ret) false rfl rfl rfl rfl
      | exit id=>cases hk2;exact fin .done (some (.exit id)) false rfl rfl rfl rfl
      | goto id=>cases hk2;exact fin .done (some (.goto id)) false rfl rfl rfl rfl
      | panic hv=>exact(hp ⟨_,rfl⟩).elim
     ·cases hk2
    ·cases hk
   ·cases hk
  ·cases hc
 ·cases hc
end
def Zuy (C:Cfg) (ih:Qg ->Option YF):Prop:=∀ n wm rd (ops:Array Oper) s s',C.draw ih n wm rd ops.toList s=some s' ->
 ∀ id ρ a w F,wm <=s.h.size ->Inv ρ n s a w ->Kl ρ rd F ->(Code.region id ops true).wpIn F 0 C.X.P (Xu wm n ρ s.h w .normal s') a w
theorem Zj4 {C:Cfg} (Zlt:Zuy C ih) (HI:∀ j r,ih j=some r ->Yu C.X j r) {c:Code} {n wm:Nat} {rd:Option Nat} {s:Fs} {r:YF} (h:U1 C ih c n wm rd s=some r):ZbF C.X c n wm rd s r:=by
 cases c with
 | skip=>cases h;exact⟨_,_,rfl,fun ρ a w F ZQ hi hF=>wpIn_skip ⟨ρ,.normal,hi,Stp.refl _ _ _ _⟩⟩
 | label l=>cases h;exact⟨_,_,rfl,fun ρ a w F ZQ hi hF=>wpIn_label ⟨ρ,.normal,hi,Stp.refl _ _ _ _⟩⟩
 | ret=>cases h;exact⟨_,_,rfl,fun ρ a w F ZQ hi hF=>wpIn_ret ⟨ρ,.ret,hi,Stp.refl _ _ _ _⟩⟩
 | exit id=>cases h;exact⟨_,_,rfl,fun ρ a w F ZQ hi hF=>wpIn_exit ⟨ρ,.exit id,hi,Stp.refl _ _ _ _⟩⟩
 | goto l=>cases h;exact⟨_,_,rfl,fun ρ a w F ZQ hi hF=>wpIn_goto ⟨ρ,.goto l,hi,Stp.refl _ _ _ _⟩⟩
 | seq a b=>exact Zl4 HI h
 | cond c a b=>exact Zj3 HI h
 | block id c=>exact Zh0 HI h
 | scope c=>exact ZhX HI h
 | rangeFunc g ps Yr bd=>exact JJ HI h
 | refuse _=>cases h
 | loop c=>
   obtain⟨e,s',rfl,k⟩:=KI.1 (HI _ _ h);exact⟨e,s',rfl,fun ρ a w F ZQ hi hF=>ZaL (k ρ a w F ZQ hi hF)⟩
 | region id ops d=>
   cases d with
   | true=>
     simp only [U1,Cq1,Zj2] at h;split at h
     ·rename_i s' hs;cases h;exact⟨_,_,rfl,fun ρ a w F ZQ hi hF=>Zlt n wm rd ops s s' hs id ρ a w F ZQ hi hF⟩
     ·cases h
   | false=>
     simp only [U1,Cq0,ZdT] at h;split at h
     ·rename_i e s' hs;cases h;exact⟨_,_,rfl,fun ρ a w F ZQ hi hF=>wpIn_region_list (Zhr HI _ ops.toList s s' e hs hi ZQ hF (fun _ _ _ hp=>hp))⟩
     ·cases h
def ZxZ (C:Cfg) (ih:Qg ->Option YF):Prop:=∀ c n wm rd s r mi,Zld c s=some mi ->Zhd C ih mi c n wm rd s=some r ->Zot C.X c n wm rd s r
theorem Zqv {C:Cfg} (hmap:ZxZ C ih) (Zlt:Zuy C ih) (HI:∀ j r,ih j=some r ->Yu C.X j r) {j:Qg} {r:YF} (h':evF C ih j=some r):Yu C.X j r:=by
 cases j with
 | code c n wm rd s=>exact Y4.2 (Zj4 Zlt HI h')
 | loop c n wm rd s=>
   have h':ZdW C ih c n wm rd s=some r:=h';unfold ZdW at h';split at h'
   ·rename_i mi hmi;split at h'
    ·rename_i r' hr;cases h';exact KI.2 (hmap c n wm rd s r mi hmi hr)
    ·exact KI.2 (ZdV HI h')
   ·exact KI.2 (ZdV HI h')
 | call f args wm h=>exact ZhZ HI h'
 | round l args wm h=>exact Kv HI h'
 | dcall f args pm wm h=>exact Zco HI h'
 | Xf c n wm pm s=>exact XD.2 (QY HI h')
 | leave fn wm pm s=>exact QX HI h'
end Go.Yj
end
end
section
noncomputable section
namespace Go.Yj
variable {X:Ctx} {ih:Qg ->Option YF}
structure Yp (wm:Nat) (h h':H):Prop where
 size:h.size <=h'.size
 keep:∀ i,i < wm ->h'.at i=h.at i
 own:∀ i,i < h.size ->(h'.at i).own=true ->(h.at i).own=true
 live:∀ i,i < h.size ->(h'.at i).live=true ->(h.at i).live=true
theorem Yp.refl (wm:Nat) (h:H):Yp wm h h:= ⟨Nat.le_refl _,fun _ _=>rfl,fun _ _ x=>x,fun _ _ x=>x⟩
theorem Yp.trans {wm:Nat} {h h1 h2:H} (a:Yp wm h h1) (b:Yp wm h1 h2):Yp wm h h2:=
 ⟨Nat.le_trans a.size b.size,fun i hi=>(b.keep i hi).trans (a.keep i hi),fun i hi x=>a.own i hi (b.own i (Nat.lt_of_lt_of_le hi a.size) x),
  fun i hi x=>a.live i hi (b.live i (Nat.lt_of_lt_of_le hi a.size) x)⟩
theorem Ws {wm:Nat} {h:H} (A:YN) (hw:wm <=h.size):Yp wm h (h.push A):=by
 have e:∀ i,i < h.size ->(h.push A).at i=h.at i:=fun i hi=>by rw [H.XR,if_neg (by omega)]
 exact⟨by simp,fun i hi=>e i (by omega),fun i hi x=>by rwa [e i hi] at x,fun i hi x=>by rwa [e i hi] at x⟩
theorem Jj {wm:Nat} {h:H} {l:Nat} {A:YN} (hw:wm <=l) (ho:(h.at l).own=true):Yp wm h (h.put l A):=by
 have e:∀ i,i ≠ l ->(h.put l A).at i=h.at i:=fun i hi=>by rw [H.Xq,if_neg (by simp [hi])]
 refine⟨by simp,fun i hi=>e i (by omega),fun i hi x=>?_,fun i hi x=>?_⟩
 ·by_cases hil:i=l
  ·subst hil;exact ho
  ·rwa [e i hil] at x
 ·by_cases hil:i=l
  ·subst hil;exact Ud ho
  ·rwa [e i hil] at x
theorem Zdp {wm:Nat} {h h':H} {E:Eff} (hw:wm <=h.size) (he:E.apply wm h=some h'):Yp wm h h':=by
 cases E with
 | none=>cases he;exact Yp.refl _ _
 | new A=>
   simp only [Eff.apply] at he;cases hA:A.own <;> rw [hA] at he <;> simp only [Cq1,Cq0] at he
   ·cases he
   ·cases he;exact Ws A hw
 | upd i A=>
   simp only [Eff.apply] at he;cases hA:(Nat.ble wm i && (h.at i).own) <;> rw [hA] at he <;> simp only [Cq1,Cq0] at he
   ·cases he
   ·cases he;rw [Ba0] at hA;exact Jj (Nl0 hA.1) hA.2
 | grow i A=>
   simp only [Eff.apply] at he;cases hA:(Nat.ble wm i && (h.at i).own && A.own) <;> rw [hA] at he <;> simp only [Cq1,Cq0] at he
   ·cases he
   ·cases he;rw [Ba0,Ba0] at hA;exact(Jj (Nl0 hA.1.1) hA.1.2).trans (Ws A hw)
def QM:Qg ->YF ->Prop
 | .code _ _ wm _ s,r=>∃ e s',r= .code e s'∧(wm <=s.h.size ->Yp wm s.h s'.h)
 | .loop _ _ wm _ s,r=>∃ e s',r= .code e s'∧(wm <=s.h.size ->Yp wm s.h s'.h)
 | .call _ _ wm h,r=>∃ e h',r= .fin e h'∧(wm <=h.size ->Yp wm h h')
 | .round _ _ wm h,r=>∃ e h',r= .fin e h'∧(wm <=h.size ->Yp wm h h')
 | .leave _ wm _ s,r=>∃ e h',r= .fin e h'∧(wm <=s.h.size ->Yp wm s.h h')
 | .dcall _ _ _ wm h,r=>∃ e h',r= .Zcc e h'∧(wm <=h.size ->Yp wm h h')
 | .Xf _ _ wm _ s,r=>∃ e pm s',r= .Xf e pm s'∧(wm <=s.h.size ->Yp wm s.h s'.h)
theorem Yp.next {wm:Nat} {h h1 h2:H} (hw:wm <=h.size) (a:Yp wm h h1) (b:wm <=h1.size ->Yp wm h1 h2):Yp wm h h2:=a.trans (b (Nat.le_trans hw a.size))
theorem ZeY {n:Nat} {s s':Fs} {dst:Option Tmp} {v:Value} (h:ZfC n s dst v=some s'):s'.h=s.h:=by
 rw [ZfU] at h;split at h
 ·cases h;rfl
 ·rename_i d;cases hd:(Nat.blt d n && allowed s.wr d) <;> rw [hd] at h <;> simp only [Cq1,Cq0] at h
  ·cases h
  ·cases h;rfl
section
variable (HI:∀ j r,ih j=some r ->QM j r)
include HI
theorem Js {f:FuncId} {args:Array Value} {wm:Nat} {h h':H} {e:Uo} (hc:ih (.call f args wm h)=some (.fin e h')) (hw:wm <=h.size):Yp wm h h':=by
 obtain⟨_,_,e1,k⟩:=HI _ _ hc;cases e1;exact k hw
theorem Zcv {l:Nat} {args:Array Value} {wm:Nat} {h h':H} {e:Uo} (hc:ih (.round l args wm h)=some (.fin e h')) (hw:wm <=h.size):Yp wm h h':=by
 obtain⟨_,_,e1,k⟩:=HI _ _ hc;cases e1;exact k hw
theorem UC {c:Code} {n wm:Nat} {rd:Option Nat} {s s':Fs} {e:XX} (hc:ih (.code c n wm rd s)=some (.code e s')) (hw:wm <=s.h.size):Yp wm s.h s'.h:=by
 obtain⟨_,_,e1,k⟩:=HI _ _ hc;cases e1;exact k hw
theorem JY {c:Code} {n wm:Nat} {pm U9:PM} {s s':Fs} {e:XX} (hc:ih (.Xf c n wm pm s)=some (.Xf e U9 s')) (hw:wm <=s.h.size):Yp wm s.h s'.h:=by
 obtain⟨_,_,_,e1,k⟩:=HI _ _ hc;cases e1;exact k hw
theorem Zn1 {f:FuncId} {args:Array Value} {pm U9:PM} {wm:Nat} {h h':H} (hc:ih (.dcall f args pm wm h)=some (.Zcc U9 h')) (hw:wm <=h.size):Yp wm h h':=by
 obtain⟨_,_,e1,k⟩:=HI _ _ hc;cases e1;exact k hw
theorem Zob {YK:FuncId ->Bool} {n wm:Nat} {rd:Option Nat} {dst:Option Tmp} {s s':Fs} {nx:AN} {h':H} {e:XX} (h:Kh YK ih n wm rd dst s nx h'=some (e,s')) (hw:wm <=h'.size):Yp wm h' s'.h:=by
 have go:∀ {s1:Fs} {v:Value},(match ZfC n s1 dst v with | some s=>some (XX.normal,s) | none=>none)=some (e,s') ->s'.h=s1.h:=by
  intro s1 v hh;split at hh
  ·rename_i s2 hp;cases hh;exact ZeY hp
  ·cases hh
 unfold Kh at h;dsimp only [J9] at h;split at h
 ·rw [go h];exact Yp.refl _ _
 ·rw [go h];exact Yp.refl _ _
 ·rename_i f args;cases hp:YK f <;> rw [hp] at h <;> simp only [Cq1,Cq0] at h
  ·split at h
   ·rename_i v h2 hc;rw [go h];exact Js HI hc hw
   ·rename_i v h2 hc;cases h;exact Js HI hc hw
   ·cases h
  ·split at h
   ·rename_i v h2 hc;cases hpl:plain v <;> rw [hpl] at h <;> simp only [Cq1,Cq0] at h
    ·cases h
    ·rw [go h];exact Yp.refl _ _
   ·cases h
 ·split at h
  ·rename_i v h2 hc;rw [go h];exact Zcv HI hc hw
  ·rename_i v h2 hc;cases h;exact Zcv HI hc hw
  ·cases h
 ·split at h
  ·rw [go h];exact Yp.refl _ _
  ·cases h
 ·cases h
 ·cases h;exact Yp.refl _ _
theorem ZeZ {YK:FuncId ->Bool} {n wm:Nat} {rd:Option Nat} {ops:List Oper}:∀ (l:List Oper) (s s':Fs) (e:XX),Zh5 X YK ih n wm rd ops l s=some (e,s') ->wm <=s.h.size ->Yp wm s.h s'.h:=by
 have step:∀ (o:Oper) (s s':Fs) (e:XX),Uv X YK ih n wm rd ops o s=some (e,s') ->wm <=s.h.size ->Yp wm s.h s'.h:=by
  intro o s s' e h hw;unfold Uv at h;cases hok:okG ops o s.fr <;> rw [hok] at h <;> simp only [Bool.not_false,Bool.not_true,Cq1,Cq0] at h
  ·cases h
  cases hwt:YR ops o s.fr <;> rw [hwt] at h <;> simp only [Cq1,Cq0] at h
  ·split at h
   ·rename_i s2 hp;cases h;rw [ZeY hp];exact Yp.refl _ _
   ·cases h
  ·split at h
   ·split at h
    ·rename_i nx E ha h1 hE;exact(Zdp hw hE).next hw (Zob HI h)
    ·cases h
   ·cases h
 intro l
 induction l with
 | nil=>intro s s' e h hw;cases h;exact Yp.refl _ _
 | cons o l ihl=>
   intro s s' e h hw;simp only [Zh5] at h;split at h
   ·rename_i s1 h1;exact(step o s s1 _ h1 hw).next hw (ihl s1 s' e h)
   ·rename_i v s1 h1;cases h;exact step o s s' _ h1 hw
   ·cases h
theorem Zl7 {C:Cfg} {mi:MI} {n wm:Nat} {rd:Option Nat} {s:Fs} {r:YF} (h:WT C ih mi n wm rd s=some r):∃ e s',r= .code e s'∧(wm <=s.h.size ->Yp wm s.h s'.h):=by
 unfold WT at h;split at h
 ·rename_i s1 h1;obtain⟨e,s2,rfl,k⟩:=HI _ _ h;exact⟨e,s2,rfl,fun hw=>(ZeZ HI _ _ _ _ h1 hw).next hw k⟩
 ·rename_i e s1 _ h1;cases h;exact⟨_,_,rfl,fun hw=>ZeZ HI _ _ _ _ h1 hw⟩
 ·cases h
omit HI in
theorem Zgs {c:Code} {s:Fs} {mi:MI} (h:Zld c s=some mi):c= .seq (.region mi.id mi.ops false) mi.rest∧mi.ops.toList=mi.o::mi.l∧mi.o.op= .next (.tmp mi.t) false∧mi.o.guard=none∧
 s.fr.at mi.t= .pointer (some ⟨mi.it,0,none⟩)∧s.h.at mi.it= .iter mi.m mi.since mi.Qm none∧s.h.at mi.m= .map mi.es mi.clock:=by
 unfold Zld at h;split at h
 ·unfold Zr9 at h;split at h
  ·rename_i o l e1;split at h
   ·rename_i t e2 e3;unfold Zr8 at h;split at h
    ·rename_i it e4;split at h
     ·rename_i m since Qm e5;split at h
      ·rename_i es clock e6;cases h;exact⟨rfl,e1,e2,e3,e4,e5,e6⟩
      ·cases h
     ·cases h
    ·cases h
   ·cases h
  ·cases h
 ·cases h
theorem ZnT {C:Cfg} {mi:MI} {c:Code} {n wm:Nat} {rd:Option Nat} {s:Fs} {r:YF} (hmi:Zld c s=some mi) (h:Zhd C ih mi c n wm rd s=some r):∃ e s',r= .code e s'∧(wm <=s.h.size ->Yp wm s.h s'.h):=by
 obtain⟨_,_,_,_,_,hit,_⟩:=Zgs hmi;unfold Zhd Zj1 at h;generalize hb:Zim mi n wm ((ZeS c).filter (allowed s.wr))=b at h;cases b with
 | false=>cases h
 | true=>
   obtain⟨_,_,_,Znk,_,_⟩:=Zcz hb;simp only [Cq1] at h;generalize Zae C ih mi n rd _ _ s mi.es=b2 at h;cases b2 with
   | false=>cases h
   | true=>
     simp only [Cq1] at h;split at h
     ·rename_i e s2 h2;obtain⟨_,_,e1,k⟩:=Zl7 HI h2;cases e1;have hk:wm <=s.h.size ->Yp wm s.h s2.h:=fun hw=>(Jj Znk (by rw [hit];rfl)).next hw k
      cases e with
      | normal=>cases h
      | exit _=>cases h;exact⟨_,_,rfl,hk⟩
      | goto _=>cases h;exact⟨_,_,rfl,hk⟩
      | ret=>cases h;exact⟨_,_,rfl,hk⟩
      | panic _=>cases h;exact⟨_,_,rfl,hk⟩
     ·cases h
theorem Zb4 {c:Code} {n wm:Nat} {rd:Option Nat} {s:Fs} {k:XX ->Fs ->Option YF} {r:YF} (h:Zd1 k (ih (.code c n wm rd s))=some r)
 (hk:∀ e s1 r,k e s1=some r ->∃ e' s',r= .code e' s'∧(wm <=s1.h.size ->Yp wm s1.h s'.h)):∃ e s',r= .code e s'∧(wm <=s.h.size ->Yp wm s.h s'.h):=by
 obtain⟨e,s1,h1,h2⟩:=QJ h;obtain⟨e',s',rfl,k2⟩:=hk e s1 r h2;exact⟨e',s',rfl,fun hw=>(UC HI h1 hw).next hw k2⟩
omit HI in
theorem here {wm:Nat} {e:XX} {s:Fs} {r:YF} (h:some (.code e s)=some r):∃ e' s',r= .code e' s'∧(wm <=s.h.size ->Yp wm s.h s'.h):=by
 cases h;exact⟨_,_,rfl,fun _=>Yp.refl _ _⟩
theorem ZhY {n wm:Nat} {rd:Option Nat} {l:Nat} {s:Fs} {f:FuncId} {args:Array Value} {r:YF} (h:JI ih n wm rd l s (ih (.call f args wm s.h))=some r):
 ∃ e s',r= .code e s'∧(wm <=s.h.size ->wm <=l ->Yp wm s.h s'.h):=by
 unfold JI at h;split at h
 ·rename_i v h2 hc;split at h
  ·rename_i st pd fr n' ps Yr bd df hat;cases hst:(st==LoopState.busy) <;> rw [hst] at h <;> simp only [Cq1,Cq0] at h
   ·split at h
    ·cases h;exact⟨_,_,rfl,fun hw hl=>(Js HI hc hw).trans (Jj hl (by rw [hat];rfl))⟩
    ·obtain⟨e,s',rfl,k⟩:=HI _ _ h;exact⟨_,_,rfl,fun hw hl=>((Js HI hc hw).trans (Jj hl (by rw [hat];rfl))).next hw k⟩
   ·cases h
  ·cases h
 ·rename_i v h2 hc;cases h;exact⟨_,_,rfl,fun hw _=>Js HI hc hw⟩
 ·cases h
theorem Zcm {C:Cfg} {g:Operand} {n wm:Nat} {rd:Option Nat} {l:Nat} {s:Fs} {r:YF} (h:X8 C ih g n wm rd l s=some r):
 ∃ e s',r= .code e s'∧(wm <=s.h.size ->wm <=l ->Yp wm s.h s'.h):=by
 unfold X8 at h;split at h
 ·split at h
  ·exact ZhY HI h
  ·cases h
 ·cases h
end
def ZhA (C:Cfg):Prop:=∀ ih,(∀ j r,ih j=some r ->QM j r) ->∀ n wm rd ops s s',C.draw ih n wm rd ops s=some s' ->wm <=s.h.size ->Yp wm s.h s'.h
theorem ZtI {C:Cfg} (hd:ZhA C) (HI:∀ j r,ih j=some r ->QM j r) (j:Qg) (r:YF) (h:evF C ih j=some r):QM j r:=by
 cases j with
 | code c n wm rd s=>
   simp only [evF] at h;cases c with
   | skip=>exact here h
   | label l=>exact here h
   | ret=>exact here h
   | exit id=>exact here h
   | goto l=>exact here h
   | seq a b=>
     refine Zb4 HI h fun e s1 r hk=>?_
     cases e with
     | normal=>exact HI _ _ hk
     | exit _=>exact here hk
     | goto _=>exact here hk
     | ret=>exact here hk
     | panic _=>exact here hk
   | cond c a b=>
     simp only [U1,Zhf] at h;split at h
     ·rename_i t _;cases t with
      | true=>exact HI (.code a n wm rd s) _ h
      | false=>exact HI (.code b n wm rd s) _ h
     ·cases h
   | block id c=>
     refine Zb4 HI h fun e s1 r hk=>?_
     cases e with
     | exit k=>
       dsimp only at hk;cases hb:Nat.beq k id <;> rw [hb] at hk <;> exact here hk
     | normal=>exact here hk
     | goto _=>exact here hk
     | ret=>exact here hk
     | panic _=>exact here hk
   | scope c=>
     refine Zb4 HI h fun e s1 r hk=>?_
     cases e with
     | exit k=>exact here hk
     | normal=>exact here hk
     | goto _=>cases hk
     | ret=>exact here hk
     | panic _=>exact here hk
   | loop c=>
     obtain⟨e,s',rfl,k⟩:=HI _ _ h;exact⟨e,s',rfl,k⟩
   | refuse _=>cases h
   | rangeFunc g ps Yr bd=>
     simp only [U1,ZdU] at h;split at h
     ·obtain⟨e,s',rfl,k⟩:=Zcm HI h;exact⟨e,s',rfl,fun hw=>((Ws _ hw).trans (Ws _ (by simp;omega))).next hw (fun hw2=>k hw2 (by omega))⟩
     ·split at h
      ·obtain⟨e,s',rfl,k⟩:=Zcm HI h;exact⟨e,s',rfl,fun hw=>(Ws _ hw).next hw (fun hw2=>k hw2 hw)⟩
      ·cases h
   | region id ops d=>
     cases d with
     | true=>
       simp only [U1,Cq1,Zj2] at h;split at h
       ·rename_i s' hs;cases h;exact⟨_,_,rfl,fun hw=>hd ih HI n wm rd _ s s' hs hw⟩
       ·cases h
     | false=>
       simp only [U1,Cq0,ZdT] at h;split at h
       ·rename_i e s' hs;cases h;exact⟨_,_,rfl,fun hw=>ZeZ HI _ _ _ _ hs hw⟩
       ·cases h
 | loop c n wm rd s=>
   simp only [evF,ZdW] at h
   have hL:Zhe ih c n wm rd s=some r ->QM (.loop c n wm rd s) r:=by
    intro h;refine Zb4 HI h fun e s1 r hk=>?_
    cases e with
    | normal=>exact HI _ _ hk
    | exit _=>exact here hk
    | goto _=>exact here hk
    | ret=>exact here hk
    | panic _=>exact here hk
   split at h
   ·rename_i mi hmi;split at h
    ·rename_i r' hr;cases h;exact ZnT HI hmi hr
    ·exact hL h
   ·exact hL h
 | call f args wm h0=>
   simp only [evF,ZfQ] at h;split at h
   ·split at h
    ·cases h;exact⟨_,_,rfl,fun _=>Yp.refl _ _⟩
    ·cases h
   split at h
   ·cases h;exact⟨_,_,rfl,fun hw=>Ws _ hw⟩
   unfold Zj6 at h;split at h
   ·rename_i fn hfn;split at h
    ·rename_i c hb;cases hn:Nat.ble args.toList.length fn.ntmps <;> rw [hn] at h <;> simp only [Cq1,Cq0] at h
     ·cases h
     ·obtain⟨e,s1,h1,h2⟩:=QJ h;split at h2
      ·rename_i pm hpm;obtain⟨e,h',rfl,k⟩:=HI _ _ h2;exact⟨e,h',rfl,fun hw=>(UC HI h1 hw).next hw k⟩
      ·cases h2
    ·cases h
   ·cases h
 | leave fn wm pm s=>
   simp only [evF,JQ] at h;split at h
   ·split at h
    ·split at h
     ·cases h;exact⟨_,_,rfl,fun _=>Yp.refl _ _⟩
     ·cases h
    ·cases h;exact⟨_,_,rfl,fun _=>Yp.refl _ _⟩
    ·cases h
   ·split at h
    ·split at h
     ·rename_i r0 _ _ hat;cases hb:Nat.ble wm r0 <;> rw [hb] at h <;> simp only [Cq1,Cq0] at h
      ·cases h
      ·obtain⟨e,h',rfl,k⟩:=HI _ _ h;exact⟨e,h',rfl,fun hw=>(Jj (Nl0 hb) (by rw [hat];rfl)).next hw k⟩
     ·cases h
    ·split at h
     ·split at h
      ·rename_i U9 h' hc;obtain⟨e,h2,rfl,k⟩:=HI _ _ h;exact⟨e,h2,rfl,fun hw=>(Zn1 HI hc hw).next hw k⟩
      ·cases h
     ·cases h
    ·cases h
 | dcall f args pm wm h0=>
   simp only [evF,ZdX] at h;split at h
   ·rename_i fn hfn;split at h
    ·rename_i c hb;cases hn:Nat.ble args.toList.length fn.ntmps <;> rw [hn] at h <;> simp only [Cq1,Cq0] at h
     ·cases h
     ·obtain⟨e,pm1,s1,h1,h2⟩:=ZfR h;split at h2
      ·cases h2;exact⟨_,_,rfl,fun hw=>JY HI h1 hw⟩
      ·cases h2;exact⟨_,_,rfl,fun hw=>JY HI h1 hw⟩
      ·cases h2
    ·cases h
   ·cases h
 | round l args wm h0=>
   simp only [evF,Zb2] at h;split at h
   ·rename_i st0 pd0 fr n ps Yr bd df0 hat;cases hb:(Nat.ble wm l && Nat.beq args.toList.length ps.toList.length) <;> rw [hb] at h <;> simp only [Cq1,Cq0] at h
    ·cases h
    rw [Ba0] at hb;have ZjD:=Nl0 hb.1;split at h
    ·obtain⟨e1,s1,h1,h2⟩:=QJ h;unfold WS at h2;split at h2
     ·split at h2
      ·rename_i pd QD n2 ps2 as2 bd2 df2 ZsJ;obtain⟨e2,s2,h3,h4⟩:=QJ h2;unfold Jl at h4;split at h4
       ·rename_i st3 pd3 fr3 n3 ps3 as3 bd3 df3 Zy2
        have key:∀ A,wm <=h0.size ->Yp wm h0 (s2.h.put l A):=fun A hw=>
         (((UC HI h1 hw).trans (Jj ZjD (by rw [ZsJ];rfl))).next hw (fun hw2=>UC HI h3 hw2)).trans (Jj ZjD (by rw [Zy2];rfl))
        have ZGc:wm <=h0.size ->Yp wm h0 s2.h:=fun hw=>
         ((UC HI h1 hw).trans (Jj ZjD (by rw [ZsJ];rfl))).next hw (fun hw2=>UC HI h3 hw2)
        split at h4 <;> first | (cases h4;exact⟨_,_,rfl,key _⟩) | cases h4 | (split at h4 <;> first | (cases h4;exact⟨_,_,rfl,ZGc⟩) | cases h4)
       ·cases h4
      ·cases h2
     ·cases h2
    ·cases h
   ·cases h
 | Xf c n wm pm s=>
   have ZrC:∀ (c:Code),KR ih c n wm pm s=some r ->QM (.Xf c n wm pm s) r:=by
    intro c h;obtain⟨e1,s1,h1,h2⟩:=QJ h;cases h2;exact⟨_,_,_,rfl,fun hw=>UC HI h1 hw⟩
   simp only [evF,Wl] at h;split at h
   ·obtain⟨e,pm1,s1,h1,h2⟩:=ZfR h;cases e with
    | normal=>
      obtain⟨e,pm2,s2,rfl,k⟩:=HI _ _ h2;exact⟨_,_,_,rfl,fun hw=>(JY HI h1 hw).next hw k⟩
    | exit _=>cases h2;exact⟨_,_,_,rfl,fun hw=>JY HI h1 hw⟩
    | goto _=>cases h2;exact⟨_,_,_,rfl,fun hw=>JY HI h1 hw⟩
    | ret=>cases h2;exact⟨_,_,_,rfl,fun hw=>JY HI h1 hw⟩
    | panic _=>cases h2;exact⟨_,_,_,rfl,fun hw=>JY HI h1 hw⟩
   ·rename_i c a b;split at h
    ·rename_i t hc;cases t with
     | true=>exact HI (.Xf a n wm pm s) _ h
     | false=>exact HI (.Xf b n wm pm s) _ h
    ·cases h
   ·rename_i id ops d;cases hd:(!d && ops.toList.any isRecover) <;> rw [hd] at h <;> simp only [Cq1,Cq0] at h
    ·exact ZrC _ h
    ·split at h
     ·rename_i U9 s' hs;cases h;refine⟨_,_,_,rfl,fun hw=>?_⟩
      have fin:∀ {o:Oper} {p p':PM} {t t':Fs} {v:Value},(match ZfC n t o.dst v with | some s=>some (p,s) | none=>none)=some (p',t') ->t'.h=t.h:=by
       intro o p p' t t' v hh;split at hh
       ·rename_i hp;cases hh;exact ZeY hp
       ·cases hh
      have one:∀ (o:Oper) (p p':PM) (t t':Fs),dop C.X n wm ops.toList o p t=some (p',t') ->wm <=t.h.size ->Yp wm t.h t'.h:=by
       intro o p p' t t' h1 hw;unfold dop at h1;dsimp only at h1;cases hok:okG ops.toList o t.fr <;> rw [hok] at h1 <;> simp only [Bool.not_false,Bool.not_true,Cq1,Cq0] at h1
       ·cases h1
       cases hwt:YR ops.toList o t.fr <;> rw [hwt] at h1 <;> simp only [Cq1,Cq0] at h1
       ·rw [fin h1];exact Yp.refl _ _
       ·split at h1
        ·split at h1
         ·rename_i nx E ha h2 hE;have k:=Zdp hw hE;split at h1
          ·rw [fin h1];exact k
          ·rw [fin h1];exact k
          ·split at h1
           ·rw [fin h1];exact k
           ·rw [fin h1];exact k
          ·cases h1
         ·cases h1
        ·cases h1
      have all:∀ (l:List Oper) (p p':PM) (t t':Fs),Zmd C.X n wm ops.toList l p t=some (p',t') ->wm <=t.h.size ->Yp wm t.h t'.h:=by
       intro l
       induction l with
       | nil=>intro p p' t t' h1 hw;cases h1;exact Yp.refl _ _
       | cons o l ihl=>
         intro p p' t t' h1 hw;simp only [Zmd] at h1;split at h1
         ·rename_i p1 t1 h2;exact(one o p p1 t t1 h2 hw).next hw (ihl p1 p' t1 t' h1)
         ·cases h1
      exact all _ _ _ _ _ hs hw
     ·cases h
   ·exact ZrC _ h
theorem Zwe {C:Cfg} (hd:ZhA C):∀ (n:Nat) (j:Qg) (r:YF),ev C n j=some r ->QM j r:=by
 intro n
 induction n with
 | zero=>intro j r h;cases h
 | succ n ihn=>intro j r h;exact ZtI hd ihn j r h
end Go.Yj
end
end
section
noncomputable section
namespace Go.Yj
variable {X:Ctx} {ih:Qg ->Option YF}
structure Wp (M:Nat ->Prop) (ρ:Ren) (h:H) (w:World) (ρ':Ren) (w':World):Prop where
 ext:ρ.le ρ'
 os:w'.os=w.os
 tape:w'.tape=w.tape
 output:w'.output=w.output
 Y9:w.heap.size <=w'.heap.size
 frame:∀ b,b < w.heap.size ->(∀ i d,M i ->ρ i=some (b,d) ->(h.at i).own=true ->False) ->w'.heap[b]? =w.heap[b]?
 JF:∀ i b d,ρ i=none ->ρ' i=some (b,d) ->h.size <=i∧(w.heap.size <=b∨∃ j d',M j∧ρ j=some (b,d')∧(h.at j).own=true)
structure JL (M:Nat ->Prop) (h h':H):Prop where
 size:h.size <=h'.size
 keep:∀ i,i < h.size ->¬ M i ->h'.at i=h.at i
 own:∀ i,i < h.size ->(h'.at i).own=true ->(h.at i).own=true
 live:∀ i,i < h.size ->(h'.at i).live=true ->(h.at i).live=true
theorem Stp.toM {wm:Nat} {ρ ρ':Ren} {h h':H} {w w':World} (a:Stp wm ρ h w ρ' h' w'):Wp (fun i=>wm <=i) ρ h w ρ' w':=
 ⟨a.ext,a.os,a.tape,a.output,a.Y9,a.frame,a.JF⟩
theorem Wp.weaken {M M':Nat ->Prop} {ρ ρ':Ren} {h:H} {w w':World} (hM:∀ i,i < h.size ->M i ->M' i) (hd:∀ i p,ρ i=some p ->i < h.size) (a:Wp M ρ h w ρ' w'):Wp M' ρ h w ρ' w':=
 ⟨a.ext,a.os,a.tape,a.output,a.Y9,fun b hb hno=>a.frame b hb fun i d hi hr=>hno i d (hM i (hd _ _ hr) hi) hr,
  fun i b d e e'=>let⟨x,y⟩:=a.JF i b d e e';⟨x,y.imp id fun⟨j,d',p,q,r⟩=>⟨j,d',hM j (hd _ _ q) p,q,r⟩⟩⟩
theorem Wp.trans {M:Nat ->Prop} {ρ ρ' ZqZ:Ren} {h h':H} {w w' w'':World} (hd:∀ i p,ρ i=some p ->i < h.size) (hs:h.size <=h'.size) (ho:∀ i,i < h.size ->(h'.at i).own=true ->(h.at i).own=true)
 (a:Wp M ρ h w ρ' w') (b:Wp M ρ' h' w' ZqZ w''):Wp M ρ h w ZqZ w'' where
 ext:=Ren.le_trans a.ext b.ext
 os:=b.os.trans a.os
 tape:=b.tape.trans a.tape
 output:=b.output.trans a.output
 Y9:=Nat.le_trans a.Y9 b.Y9
 frame k hk hno:=by
  rw [b.frame k (Nat.lt_of_lt_of_le hk a.Y9) ?_,a.frame k hk hno];intro i d hi hr hown;cases e:ρ i with
  | some p=>
    have e':= (a.ext _ _ e).1;rw [hr] at e';cases e';exact hno i d hi e (ho i (hd _ _ e) hown)
  | none=>
    rcases(a.JF i k d e hr).2 with h1 | ⟨j,d',h1,h2,h3⟩
    ·omega
    ·exact hno j d' h1 h2 h3
 JF i k d e e'':=by
  cases e':ρ' i with
  | some p=>
    have e2:= (b.ext _ _ e').1;rw [e''] at e2;cases e2;exact a.JF i k d e e'
  | none=>
    obtain⟨h1,h2⟩:=b.JF i k d e' e'';refine⟨Nat.le_trans hs h1,?_⟩;rcases h2 with h2 | ⟨j,d',j1,j2,j3⟩
    ·exact .inl (Nat.le_trans a.Y9 h2)
    ·cases ej:ρ j with
     | some p=>
       have e2:= (a.ext _ _ ej).1;rw [j2] at e2;cases e2;exact .inr ⟨j,d',j1,ej,ho j (hd _ _ ej) j3⟩
     | none=>exact(a.JF j k d' ej j2).2
theorem JL.trans {M:Nat ->Prop} {h h1 h2:H} (a:JL M h h1) (b:JL M h1 h2):JL M h h2:=
 ⟨Nat.le_trans a.size b.size,fun i hi hm=>(b.keep i (Nat.lt_of_lt_of_le hi a.size) hm).trans (a.keep i hi hm),
  fun i hi x=>a.own i hi (b.own i (Nat.lt_of_lt_of_le hi a.size) x),fun i hi x=>a.live i hi (b.live i (Nat.lt_of_lt_of_le hi a.size) x)⟩
theorem Yp.toM {wm:Nat} {h h':H} (a:Yp wm h h'):JL (fun i=>wm <=i) h h':= ⟨a.size,fun i _ hm=>a.keep i (by omega),a.own,a.live⟩
theorem JL.weaken {M M':Nat ->Prop} {h h':H} (hM:∀ i,i < h.size ->M i ->M' i) (a:JL M h h'):JL M' h h':= ⟨a.size,fun i hi hm=>a.keep i hi fun x=>hm (hM i hi x),a.own,a.live⟩
def Eff.tgt:Eff ->Option Nat
 | .upd i _=>some i
 | .grow i _=>some i
 | _=>Option.none
theorem Eff.ZBA {wm:Nat} {ρ ρ':Ren} {h h':H} {w w':World} {E:Eff} (r:Rel ρ h w) (ZQ:wm <=h.size) (s:Same w w') (ha:E.apply wm h=some h') (hr:E.real ρ h w ρ' w'):
 Wp (fun x=>E.tgt=some x) ρ h w ρ' w'∧JL (fun x=>E.tgt=some x) h h'∧∀ x,E.tgt=some x ->wm <=x:=by
 obtain⟨_,st⟩:=Eff.sound r ZQ s ha hr;have kh:=Zdp ZQ ha;refine⟨⟨st.ext,s.os,s.tape,s.output,st.Y9,fun b hb hno=>?_,fun i b d e e'=>?_⟩,⟨kh.size,fun i hi hm=>?_,kh.own,kh.live⟩,fun x hx=>?_⟩
 ·cases E with
  | none=>obtain⟨rfl,hw⟩:=hr;rw [hw]
  | new A=>obtain⟨l,rfl,⟨o,hw⟩,hA⟩:=hr;exact Za4 hw hb
  | upd i A=>
    obtain⟨rfl,b',d,hi,hsz,hk,hA⟩:=hr;refine hk b fun e=>?_
    subst e;simp only [Eff.apply] at ha;cases hc:(Nat.ble wm i && (h.at i).own) <;> rw [hc] at ha <;> simp at ha
    rw [Ba0] at hc;exact hno i d rfl hi hc.2
  | grow i A=>
    simp only [Eff.apply] at ha;cases hc:(Nat.ble wm i && (h.at i).own && A.own) <;> rw [hc] at ha <;> simp at ha
    rw [Ba0,Ba0] at hc;obtain⟨b',d,hi,⟨d',l,rfl,hsz,hk,hA⟩ | ⟨l,rfl,⟨o,hw⟩,hA⟩⟩:=hr
    ·refine hk b fun e=>?_
     subst e;exact hno i d rfl hi hc.1.2
    ·exact Za4 hw hb
 ·refine⟨(st.JF i b d e e').1,?_⟩;cases E with
  | none=>obtain⟨rfl,hw⟩:=hr;rw [e] at e';cases e'
  | new A=>
    obtain⟨l,rfl,_⟩:=hr;by_cases hii:i=h.size
    ·subst hii;rw [Ren.add_same] at e';cases e';exact .inl (Nat.le_refl _)
    ·rw [(Ren.JS hii).1] at e';rw [e] at e';cases e'
  | upd i A=>obtain⟨rfl,_⟩:=hr;rw [e] at e';cases e'
  | grow i0 A=>
    simp only [Eff.apply] at ha;cases hc:(Nat.ble wm i0 && (h.at i0).own && A.own) <;> rw [hc] at ha <;> simp at ha
    rw [Ba0,Ba0] at hc;obtain⟨b',d',hi,⟨d2,l,rfl,hsz,hk,hA⟩ | ⟨l,rfl,⟨o,hw⟩,hA⟩⟩:=hr
    ·by_cases hii:i=h.size
     ·subst hii;rw [Ren.add_same] at e';cases e';exact .inr ⟨i0,d',rfl,hi,hc.1.2⟩
     ·rw [(Ren.JS hii).1] at e';rw [e] at e';cases e'
    ·by_cases hii:i=h.size
     ·subst hii;rw [Ren.add_same] at e';cases e';exact .inl (Nat.le_refl _)
     ·rw [(Ren.JS hii).1] at e';rw [e] at e';cases e'
 ·cases E with
  | none=>cases ha;rfl
  | new A=>
    simp only [Eff.apply] at ha;cases hA:A.own <;> rw [hA] at ha <;> simp at ha
    subst ha;rw [H.XR,if_neg (by omega)]
  | upd i0 A=>
    simp only [Eff.apply] at ha;cases hc:(Nat.ble wm i0 && (h.at i0).own) <;> rw [hc] at ha <;> simp at ha
    subst ha;rw [H.Xq,if_neg fun x=>hm (by rw [x.1];rfl)]
  | grow i0 A=>
    simp only [Eff.apply] at ha;cases hc:(Nat.ble wm i0 && (h.at i0).own && A.own) <;> rw [hc] at ha <;> simp at ha
    subst ha;rw [H.XR,H.size_put,if_neg (by omega),H.Xq,if_neg fun x=>hm (by rw [x.1];rfl)]
 ·cases E with
  | none=>cases hx
  | new A=>cases hx
  | upd i0 A=>
    cases hx;simp only [Eff.apply] at ha;cases hc:(Nat.ble wm x && (h.at x).own) <;> rw [hc] at ha <;> simp at ha
    rw [Ba0] at hc;exact Nl0 hc.1
  | grow i0 A=>
    cases hx;simp only [Eff.apply] at ha;cases hc:(Nat.ble wm x && (h.at x).own && A.own) <;> rw [hc] at ha <;> simp at ha
    rw [Ba0,Ba0] at hc;exact Nl0 hc.1.1
def Zhi (h:H):Nat ->Nat ->Bool
 | 0,_=>true
 | k + 1,y=>bif(h.at y).live then false else Zhi h k (y + 1)
theorem Zmf {h:H}:∀ {k y:Nat},Zhi h k y=true ->∀ z,y <=z ->z < y + k ->(h.at z).live=false:=by
 intro k
 induction k with
 | zero=>intro y _ z h1 h2;omega
 | succ k ih=>
   intro y hd z h1 h2;unfold Zhi at hd;cases e:(h.at y).live <;> rw [e] at hd <;> simp only [Cq1,Cq0] at hd
   ·rcases Nat.eq_or_lt_of_le h1 with q | q
    ·subst q;exact e
    ·exact ih hd z q (by omega)
   ·cases hd
def Zih (skip:Bool) (wm:Nat) (args:Array Value) (h:H):Option Nat:=
 bif skip then none else match args.toList with
  | .slice (some a) _ _::_=>bif Nat.ble wm a.block && Nat.blt a.block h.size && Zhi h (h.size - (a.block + 1)) (a.block + 1) then some a.block else none
  | _=>none
theorem Zgh {skip:Bool} {wm:Nat} {args:Array Value} {h:H} {x:Nat} (e:Zih skip wm args h=some x):skip=false∧wm <=x∧x < h.size∧∀ z,x < z ->z < h.size ->(h.at z).live=false:=by
 unfold Zih at e;cases skip with
 | true=>cases e
 | false=>
   simp only [Cq0] at e;split at e
   ·rename_i a _ _ _ _;cases hc:(Nat.ble wm a.block && Nat.blt a.block h.size && Zhi h (h.size - (a.block + 1)) (a.block + 1)) <;> rw [hc] at e <;> simp only [Cq1,Cq0] at e
    ·cases e
    ·cases e;rw [Ba0,Ba0] at hc;exact⟨rfl,Nl0 hc.1.1,by have:=hc.1.2;rwa [Nat.blt_eq] at this,fun z h1 h2=>Zmf hc.2 z h1 (by omega)⟩
   ·cases e
theorem Wp.Zic {M M':Nat ->Prop} {ρ ρ':Ren} {h:H} {w w':World} (hM:∀ i,i < h.size ->M i ->(h.at i).own=true ->M' i) (hd:∀ i p,ρ i=some p ->i < h.size) (a:Wp M ρ h w ρ' w'):Wp M' ρ h w ρ' w':=
 ⟨a.ext,a.os,a.tape,a.output,a.Y9,fun b hb hno=>a.frame b hb fun i d hi hr ho=>hno i d (hM i (hd _ _ hr) hi ho) hr ho,
  fun i b d e e'=>let⟨x,y⟩:=a.JF i b d e e';⟨x,y.imp id fun⟨j,d',p,q,r⟩=>⟨j,d',hM j (hd _ _ q) p r,q,r⟩⟩⟩
theorem Yp.ZBy {x:Nat} {h h':H} (a:Yp x h h') (hd:∀ z,x < z ->z < h.size ->(h.at z).live=false):JL (fun y=>x=y) h h':=by
 refine⟨a.size,fun i hi hm=>?_,a.own,a.live⟩;rcases Nat.lt_or_ge i x with q | q
 ·exact a.keep i q
 ·have hl:=hd i (by omega) hi;have h1:=J3 (A:=h.at i) (by rw [hl];simp);rw [h1];exact J3 fun z=>by rw [a.live i hi z] at hl;cases hl
def Q9 (X:Ctx) (YK:FuncId ->Bool) (ih:Qg ->Option YF) (n wm:Nat) (wr:Option Nat) (free:Bool) (ops:List Oper) (o:Oper) (fr:Fr) (h:H):Option (Option Nat×Value×H):=
 bif(match o.dst with | none=>true | some d=>Nat.blt d n && allowed wr d) then
  bif !okG ops o fr then none else bif YR ops o fr then
   match XG X h (Y5 fr) o with
   | some (nx,E)=>match E.apply wm h with
     | some h1=>match nx with
       | .val v=>some (E.tgt,v,h1)
       | .skip=>some (E.tgt,undef,h1)
       | .enter f args=>match Zih (free || YK f || E.tgt.isSome) wm args h1 with
         | some x=>match ih (.call f args x h1) with
           | some (.fin (.ret v) h2)=>some (some x,v,h2)
           | _=>none
         | none=>match ih (.call f args (bif free && !YK f then wm else h1.size) h1) with
           | some (.fin (.ret v) h2)=>bif YK f && plain v then some (E.tgt,v,h1) else some (E.tgt,v,h2)
           | _=>none
       | .round l args=>bif free then match ih (.round l args wm h1) with
           | some (.fin (.ret v) h2)=>some (E.tgt,v,h2)
           | _=>none
         else none
       | _=>none
     | none=>none
   | none=>none
  else some (none,undef,h)
 else none
def KZ (free:Bool) (wm:Nat) (t:Option Nat):Nat ->Prop:=fun x=>if free then wm <=x else t=some x
def looks (ops:List Oper) (o:Oper):List Tmp:=
 (match o.guard with
  | some (j,_)=>match ops[j]? with
    | some g=>g.dst.toList
    | none=>[]
  | none=>[]) ++ o.op.operands.toList.filterMap fun | .tmp t=>some t | _=>none
theorem Zbu {ρ:Ren} {fr:Fr} {a:Act} (ops:Array Oper) (o:Oper) (hf:∀ t ∈ looks ops.toList o,QC (fr.at t)=false ->VR ρ (fr.at t) (a.tmps.getD t undef)) (hok:okG ops.toList o fr=true):
 Region.wanted o (yielded ops a.tmps)=YR ops.toList o fr:=by
 unfold Region.wanted YR;cases hg:o.guard with
 | none=>rfl
 | some p=>
   obtain⟨j,want⟩:=p
   have key:yielded ops a.tmps j=U2 ops.toList fr j:=by
    unfold yielded U2;rw [← Array.getElem?_toList];cases ho:ops.toList[j]? with
    | none=>rfl
    | some o'=>
      cases hd:o'.dst with
      | none=>simp [hd]
      | some d=>
        have:=hf d (by unfold looks;rw [hg];simp [ho,hd]) (by
         unfold okG at hok;rw [hg] at hok;simp only [ho,hd,Ba0] at hok
         simpa using hok.1)
        simp only [Bq0,hd];cases ht:a.tmps[d]? with
        | none=>
          rw [Array.getD_eq_getD_getElem?,ht] at this;simp only [Option.getD_none] at this;generalize fr.at d=x at this;unfold undef at this;cases this
          rfl
        | some y=>
          rw [Array.getD_eq_getD_getElem?,ht] at this;simp only [Option.getD_some] at this;generalize fr.at d=x at this;cases this <;> rfl
   simp only [key];cases U2 ops.toList fr j with
   | none=>rfl
   | some b=>cases want <;> cases b <;> rfl
theorem Zfp {ρ:Ren} {fr:Fr} {a:Act} (ops:Array Oper) (o:Oper) (hf:∀ t ∈ looks ops.toList o,QC (fr.at t)=false ->VR ρ (fr.at t) (a.tmps.getD t undef)) {h:H} {nx:AN} {E:Eff}
 (ha:XG X h (Y5 fr) o=some (nx,E)):∃ ev2,EvR ρ ev2 a.eval∧XG X h ev2 o=some (nx,E):=by
 classical
 refine⟨fun x=>if x ∈ o.op.operands then Y5 fr x else none,fun x v hx=>?_,?_⟩
 ·dsimp only at hx;split at hx
  ·rename_i hm;cases x with
   | tmp t=>
     simp only [Y5] at hx;cases hany:QC (fr.at t) <;> rw [hany] at hx <;> simp only [Cq1,Cq0] at hx
     ·cases hx;exact hf t (by unfold looks;simp only [List.mem_append,List.mem_filterMap];exact .inr ⟨.tmp t,by simpa using hm,rfl⟩) hany
     ·cases hx
   | const u=>
     simp only [Y5] at hx;cases hp:plain u <;> rw [hp] at hx <;> simp at hx
     subst hx;exact VR.Z0 hp
   | func f=>
     simp only [Y5,Option.some.injEq] at hx;subst hx;exact .func (.func f) #[] #[] #[] #[] (fun l e=>by cases e) rfl rfl (fun i v v' e=>by simp at e) (fun i v v' e=>by simp at e)
   | global g=>cases hx
  ·cases hx
 ·rw [← ha];exact ZqJ X h o fun x hx=>by simp [hx]
def Qb (P:Program) (wm:Nat) (rd:Option Nat) (ops:Array Oper) (o:Oper) (M:Nat ->Prop) (fr:Fr) (h:H) (v:Value) (h':H):Prop:=
 ∀ (ρ:Ren) (a:Act) (w:World) (F:Fence) (K:Act ->World ->Prop) (Q:Exit ->Act ->World ->Prop),Rel ρ h w ->wm <=h.size ->(∀ t ∈ looks ops.toList o,QC (fr.at t)=false ->VR ρ (fr.at t) (a.tmps.getD t undef)) ->Kl ρ rd F ->
   (∀ ρ' v' w',VR ρ' v v' ->Rel ρ' h' w' ->Wp M ρ h w ρ' w' ->K (a.put o.dst v') w') ->
   if Region.wanted o (yielded ops a.tmps) then o.wpIn F 0 P a w K Q else(∀ f,o.about P w a.eval=some f ->F.fn f)∧K (a.put o.dst undef) w
theorem Wp.refl (M:Nat ->Prop) (ρ:Ren) (h:H) (w:World):Wp M ρ h w ρ w:=
 ⟨Ren.le_refl ρ,rfl,rfl,rfl,Nat.le_refl _,fun _ _ _=>rfl,fun i b d e e'=>by rw [e] at e';cases e'⟩
theorem Jm {YK:FuncId ->Bool} (HI:∀ j r,ih j=some r ->Yu X j r) (HK:∀ j r,ih j=some r ->QM j r) {n wm:Nat} {wr rd:Option Nat} {free:Bool} {ops:Array Oper} {o:Oper} {fr:Fr} {h h':H} {t:Option Nat} {v:Value}
 (hs:Q9 X YK ih n wm wr free ops.toList o fr h=some (t,v,h')):Qb X.P wm rd ops o (KZ free wm t) fr h v h':=by
 intro ρ a w F K Q r ZQ hf hF hK;unfold Q9 at hs;cases hd:(match o.dst with | none=>true | some d=>Nat.blt d n && allowed wr d) <;> rw [hd] at hs <;> simp only [Cq1,Cq0] at hs
 ·cases hs
 cases hok:okG ops.toList o fr <;> rw [hok] at hs <;> simp only [Bool.not_false,Bool.not_true,Cq1,Cq0] at hs
 ·cases hs
 rw [Zbu ops o hf hok];cases hwt:YR ops.toList o fr <;> rw [hwt] at hs <;> simp only [Cq1,Cq0] at hs
 ·cases hs;rw [if_neg (by simp)];exact⟨fun f hab=>(WN hF f).2 (ZcY (ρ:=ρ) (fun t ho hx=>hf t (List.mem_append_right _ (by rw [ho];exact List.mem_filterMap.2 ⟨.tmp t,by simp [Op.operands,Call.operands],rfl⟩)) hx) hok hwt hab),hK ρ _ w (VR.undef ρ) r (Wp.refl _ _ _ _)⟩
 ·rw [if_pos rfl];split at hs
  ·rename_i nx E ha;split at hs
   ·rename_i h1 hE;obtain⟨ev2,e1,e2⟩:=Zfp ops o hf ha;obtain⟨ρ1,w1,p1,p2,p3⟩:=KV r e1 e2;obtain⟨r1,st1⟩:=Eff.sound r ZQ p1 hE p2;obtain⟨sm,km,Zso⟩:=Eff.ZBA r ZQ p1 hE p2;refine⟨fun f hab=>(WN hF f).2 (Zau ha p3 hab),?_⟩
    have ZjE:o.semAt F.round a.eval=execOp a.eval o:=by
     cases hrd:rd with
     | none=>rw [hrd] at hF;unfold Kl at hF;subst hF;rfl
     | some l=>
       refine Oper.semAt_eq _ _ _ fun c hc=>?_
       obtain⟨d,rfl⟩:=Ze0 ha hc;simp at hs
    rw [ZjE];have ZvM:F.depth.isSome=true ->1 <=0:=fun hh=>by rw [Kb hF] at hh;cases hh
    have hF1:=hF.mono st1.ext
    have toM:Wp (KZ free wm E.tgt) ρ h w ρ1 w1:=by
     refine sm.weaken (fun i _ hi=>?_) r.lt;unfold KZ;split
     ·exact Zso i hi
     ·exact hi
    generalize hrun:(execOp a.eval o).run X.P w=res at p3;split at hs
    ·rename_i v1;cases hs;obtain⟨v',hv,rfl⟩:=p3;exact hK ρ1 v' w1 hv r1 toM
    ·cases hs;have:res= .ok .skip w1:=p3;subst this;exact hK ρ1 undef w1 (VR.undef ρ1) r1 toM
    ·rename_i f args;obtain⟨args',hva,rfl⟩:=p3;refine⟨ZvM,?_⟩;cases how:Zih (free || YK f || E.tgt.isSome) wm args h1 with
     | some x=>
       rw [how] at hs;dsimp only at hs;obtain⟨q1,q2,q3,q4⟩:=Zgh how;simp only [Bool.or_eq_false_iff] at q1;obtain⟨⟨rfl,-⟩,hT⟩:=q1;have hT:E.tgt=none:=by cases e:E.tgt <;> rw [e] at hT <;> simp at hT
       split at hs
       ·rename_i rv h2 hc;cases hs;have hkeep:=Js HK hc (Nat.le_of_lt q3);refine(QE hF1 (HI _ _ hc ρ1 args' w1 (Nat.le_of_lt q3) r1 hva)).mono ?_;rintro e' w' ⟨ρ',he,hr,hst⟩;cases he with
        | @ret _ v' hv=>
          have st2:Wp (KZ false wm (some x)) ρ1 h1 w1 ρ' w':=hst.toM.Zic (fun i hi1 hi2 hi3=>by
           unfold KZ;rw [if_neg (by simp)];rcases Nat.eq_or_lt_of_le hi2 with z | z
           ·rw [z]
           ·have:=q4 i z hi1;rw [Ud hi3] at this;cases this) r1.lt
          have ZFS:Wp (KZ false wm (some x)) ρ h w ρ1 w1:=sm.weaken (fun i _ hi=>by rw [hT] at hi;cases hi) r.lt;exact hK ρ' v' w' hv hr (ZFS.trans r.lt km.size km.own st2)
       ·cases hs
     | none=>
     rw [how] at hs;dsimp only at hs;split at hs
     ·rename_i rv h2 hc;have ZGL:=HI _ _ hc
      have ZhS:(bif free && !YK f then wm else h1.size) <=h1.size:=by
       cases free <;> cases YK f <;> simp [cond,Nat.le_trans ZQ st1.size]
      have hkeep:=Js HK hc ZhS;refine(QE hF1 (ZGL ρ1 args' w1 ZhS r1 hva)).mono ?_;rintro e' w' ⟨ρ',he,hr,hst⟩;cases he with
      | @ret _ v' hv=>
        have tail:v=rv ->h'=h2 ->t=E.tgt ->K (a.put o.dst v') w':=by
         rintro rfl rfl rfl
         have st2:Wp (KZ free wm E.tgt) ρ1 h1 w1 ρ' w':=by
          refine hst.toM.weaken (fun i hi1 hi2=>?_) r1.lt;unfold KZ;cases free with
          | true=>
            cases hpf:YK f with
            | true=>rw [hpf] at hi2;simp at hi2;omega
            | false=>rw [hpf] at hi2;simpa using hi2
          | false=>simp at hi2;omega
         exact hK ρ' v' w' hv hr (toM.trans r.lt km.size km.own st2)
        cases hpp:(YK f && plain rv) <;> rw [hpp] at hs <;> simp only [Cq1,Cq0] at hs
        ·cases hs;exact tail rfl rfl rfl
        ·rw [Ba0] at hpp;cases hs;have hpf:=hpp.1;simp only [hpf,Bool.not_true,Bool.and_false,Cq0] at hst;rw [VR.YZ hpp.2 hv];obtain⟨q1,q2⟩:=KS r1 hst;have st2:Wp (KZ free wm E.tgt) ρ1 h' w1 ρ1 w':= (q2 h'.size).toM.weaken (fun i hi1 hi2=>absurd hi1 (by omega)) r1.lt;exact hK ρ1 _ w' (VR.Z0 hpp.2) q1 (toM.trans r.lt km.size km.own st2)
     ·cases hs
    ·rename_i l args;obtain⟨l',k,args',hl,hw,hv,rfl⟩:=p3;refine⟨ZvM,?_⟩;cases free with
     | false=>cases hs
     | true=>
       simp only [Cq1] at hs;split at hs
       ·rename_i rv h2 hc;cases hs;have ZhS:wm <=h1.size:=Nat.le_trans ZQ st1.size;refine(Zbk hF1 (HI _ _ hc ρ1 l' k args' w1 ZhS r1 hv hl hw)).mono ?_;rintro e' w' ⟨ρ',he,hr,hst⟩;cases he with
        | @ret _ v' hv'=>exact hK ρ' v' w' hv' hr (toM.trans r.lt km.size km.own hst.toM)
       ·cases hs
    ·cases hs
   ·cases hs
  ·cases hs
theorem Xe {YK:FuncId ->Bool} (HK:∀ j r,ih j=some r ->QM j r) {n wm:Nat} {wr:Option Nat} {free:Bool} {ops:List Oper} {o:Oper} {fr:Fr} {h h':H} {t:Option Nat} {v:Value}
 (hs:Q9 X YK ih n wm wr free ops o fr h=some (t,v,h')) (ZQ:wm <=h.size):JL (KZ free wm t) h h'∧(∀ x,KZ free wm t x ->wm <=x)∧(∀ d,o.dst=some d ->d < n∧allowed wr d=true):=by
 unfold Q9 at hs;cases hd:(match o.dst with | none=>true | some d=>Nat.blt d n && allowed wr d) <;> rw [hd] at hs <;> simp only [Cq1,Cq0] at hs
 ·cases hs
 have hdst:∀ d,o.dst=some d ->d < n∧allowed wr d=true:=fun d e=>by rw [e] at hd;simpa [Nat.blt_eq] using hd
 cases hok:okG ops o fr <;> rw [hok] at hs <;> simp only [Bool.not_false,Bool.not_true,Cq1,Cq0] at hs
 ·cases hs
 cases hwt:YR ops o fr <;> rw [hwt] at hs <;> simp only [Cq1,Cq0] at hs
 ·cases hs;refine⟨⟨Nat.le_refl _,fun _ _ _=>rfl,fun _ _ x=>x,fun _ _ x=>x⟩,fun x hx=>?_,hdst⟩;unfold KZ at hx;split at hx
  ·exact hx
  ·cases hx
 ·split at hs
  ·rename_i nx E ha;split at hs
   ·rename_i h1 hE;have kh:=Zdp ZQ hE
    have Zso:∀ x,E.tgt=some x ->wm <=x:=by
     intro x hx;cases E with
     | none=>cases hx
     | new A=>cases hx
     | upd i0 A=>
       cases hx;simp only [Eff.apply] at hE;cases hc:(Nat.ble wm x && (h.at x).own) <;> rw [hc] at hE <;> simp at hE
       rw [Ba0] at hc;exact Nl0 hc.1
     | grow i0 A=>
       cases hx;simp only [Eff.apply] at hE;cases hc:(Nat.ble wm x && (h.at x).own && A.own) <;> rw [hc] at hE <;> simp at hE
       rw [Ba0,Ba0] at hc;exact Nl0 hc.1.1
    have km:JL (fun x=>E.tgt=some x) h h1:=by
     refine⟨kh.size,fun i hi hm=>?_,kh.own,kh.live⟩;cases E with
     | none=>cases hE;rfl
     | new A=>
       simp only [Eff.apply] at hE;cases hA:A.own <;> rw [hA] at hE <;> simp at hE
       subst hE;rw [H.XR,if_neg (by omega)]
     | upd i0 A=>
       simp only [Eff.apply] at hE;cases hc:(Nat.ble wm i0 && (h.at i0).own) <;> rw [hc] at hE <;> simp at hE
       subst hE;rw [H.Xq,if_neg fun x=>hm (by rw [x.1];rfl)]
     | grow i0 A=>
       simp only [Eff.apply] at hE;cases hc:(Nat.ble wm i0 && (h.at i0).own && A.own) <;> rw [hc] at hE <;> simp at hE
       subst hE;rw [H.XR,H.size_put,if_neg (by omega),H.Xq,if_neg fun x=>hm (by rw [x.1];rfl)]
    have hM:∀ x,KZ free wm E.tgt x ->wm <=x:=fun x hx=>by
     unfold KZ at hx;split at hx
     ·exact hx
     ·exact Zso x hx
    have toM:JL (KZ free wm E.tgt) h h1:=km.weaken fun i _ hi=>by
     unfold KZ;split
     ·exact Zso i hi
     ·exact hi
    split at hs
    ·cases hs;exact⟨toM,hM,hdst⟩
    ·cases hs;exact⟨toM,hM,hdst⟩
    ·rename_i f args;cases how:Zih (free || YK f || E.tgt.isSome) wm args h1 with
     | some x=>
       rw [how] at hs;dsimp only at hs;obtain⟨q1,q2,q3,q4⟩:=Zgh how;simp only [Bool.or_eq_false_iff] at q1;obtain⟨⟨rfl,-⟩,hT⟩:=q1;have hT:E.tgt=none:=by cases e:E.tgt <;> rw [e] at hT <;> simp at hT
       split at hs
       ·rename_i rv h2 hc;cases hs;have hk2:= (Js HK hc (Nat.le_of_lt q3)).ZBy q4
        have hx:∀ y,KZ false wm (some x) y ->y=x:=fun y hy=>by
         unfold KZ at hy;rw [if_neg (by simp)] at hy;exact(Oi0 hy).symm
        refine⟨(km.weaken fun i _ hi=>by rw [hT] at hi;cases hi).trans (hk2.weaken fun i _ hi=>?_),fun y hy=>by rw [hx y hy];exact q2,hdst⟩;subst hi;unfold KZ;rw [if_neg (by simp)]
       ·cases hs
     | none=>
     rw [how] at hs;dsimp only at hs;split at hs
     ·rename_i rv h2 hc
      have ZhS:(bif free && !YK f then wm else h1.size) <=h1.size:=by
       cases free <;> cases YK f <;> simp [cond,Nat.le_trans ZQ kh.size]
      have hkeep:=Js HK hc ZhS;cases hpp:(YK f && plain rv) <;> rw [hpp] at hs <;> simp only [Cq1,Cq0] at hs
      ·cases hs;refine⟨toM.trans (hkeep.toM.weaken fun i hi1 hi2=>?_),hM,hdst⟩;unfold KZ;cases free with
       | true=>
         cases hpf:YK f with
         | true=>rw [hpf] at hi2;simp at hi2;omega
         | false=>rw [hpf] at hi2;simpa using hi2
       | false=>simp at hi2;omega
      ·cases hs;exact⟨toM,hM,hdst⟩
     ·cases hs
    ·cases free with
     | false=>cases hs
     | true=>
       simp only [Cq1] at hs;split at hs
       ·rename_i rv h2 hc;cases hs;exact⟨toM.trans (Zcv HK hc (Nat.le_trans ZQ kh.size)).toM,hM,hdst⟩
       ·cases hs
    ·cases hs
   ·cases hs
  ·cases hs
theorem Zpv {YK:FuncId ->Bool} {n wm:Nat} {wr:Option Nat} {free:Bool} {ops:List Oper} {o:Oper} {fr:Fr} {h h':H} {t:Option Nat} {v:Value}
 (hs:Q9 X YK ih n wm wr free ops o fr h=some (t,v,h')):∀ d,o.dst=some d ->allowed wr d=true:=by
 intro d e;unfold Q9 at hs;cases hd:(match o.dst with | none=>true | some d=>Nat.blt d n && allowed wr d) <;> rw [hd] at hs <;> simp only [Cq1,Cq0] at hs
 ·cases hs
 ·rw [e] at hd;rw [Ba0] at hd;exact hd.2
end Go.Yj
end
end
section
noncomputable section
namespace Go.Yj
section
variable {α:Type} (base:α) (val:Nat ->α) (S:Nat ->Prop) (tc:Nat ->Prop)
open Classical in
def last:Nat ->α
 | 0=>base
 | k + 1=>if S k∧tc k then val k else last k
theorem ZbU {m:Nat} (h:∀ k,k < m ->tc k ->¬ S k):last base val S tc m=base:=by
 induction m with
 | zero=>rfl
 | succ m ih=>rw [last,if_neg (fun x=>h m (by omega) x.2 x.1)];exact ih fun k hk=>h k (by omega)
theorem KM {m:Nat} (g:Nat ->α) (h0:g 0=base) (h1:∀ k,k < m ->tc k ->g (k + 1)=val k) (h2:∀ k,k < m ->¬ tc k ->g (k + 1)=g k) {i:Nat} (hi:i <=m) (h:∀ k,k < m ->tc k ->(S k↔k < i)):
 last base val S tc m=g i:=by
 induction m generalizing i with
 | zero=>
   have:i=0:=by omega
   subst this;exact h0.symm
 | succ m ih=>
   rw [last];by_cases hx:S m∧tc m
   ·rw [if_pos hx];have:= (h m (by omega) hx.2).1 hx.1;have e:i=m + 1:=by omega
    rw [e,h1 m (by omega) hx.2]
   ·rw [if_neg hx];by_cases him:i=m + 1
    ·subst him;have hn:¬ tc m:=fun x=>hx ⟨(h m (by omega) x).2 (by omega),x⟩
     rw [h2 m (by omega) hn];exact ih (fun k hk=>h1 k (by omega)) (fun k hk=>h2 k (by omega)) (Nat.le_refl m) fun k hk ht=>⟨fun _=>hk,fun _=>(h k (by omega) ht).2 (by omega)⟩
    ·exact ih (fun k hk=>h1 k (by omega)) (fun k hk=>h2 k (by omega)) (by omega) fun k hk ht=>h k (by omega) ht
variable {base val S tc} in
theorem Qi {m i:Nat} {S':Nat ->Prop} (hS:∀ k,S' k↔S k∨k=i) (hi:¬ tc i):last base val S' tc m=last base val S tc m:=by
 induction m with
 | zero=>rfl
 | succ m ih=>
   rw [last,last,ih];by_cases hm:m=i
   ·subst hm;rw [if_neg (fun x=>hi x.2),if_neg (fun x=>hi x.2)]
   ·by_cases hx:S m∧tc m
    ·rw [if_pos hx,if_pos ⟨(hS m).2 (.inl hx.1),hx.2⟩]
    ·rw [if_neg hx,if_neg fun x=>hx ⟨((hS m).1 x.1).resolve_right hm,x.2⟩]
variable {base val S tc} in
theorem KL {m i:Nat} {S':Nat ->Prop} (hS:∀ k,S' k↔S k∨k=i) (him:i < m) (hi:tc i) (hl:∀ k,i < k ->k < m ->tc k ->¬ S k):last base val S' tc m=val i:=by
 induction m with
 | zero=>omega
 | succ m ih=>
   rw [last];by_cases hm:m=i
   ·subst hm;rw [if_pos ⟨(hS m).2 (.inr rfl),hi⟩]
   ·rw [if_neg,ih (by omega) fun k h1 h2=>hl k h1 (by omega)];rintro⟨h1,h2⟩;exact hl m (by omega) (by omega) h2 (((hS m).1 h1).resolve_right hm)
theorem ZoX {m:Nat} (n:Nat ->Nat) (hn:∀ j k,j <=k ->k <=m ->n j <=n k) {i:Nat} (hi:i <=m) (h:∀ k,k < m ->S k ->tc k ->k < i):last (n 0) (fun k=>n (k + 1)) S tc m <=n i:=by
 have:∀ j,j <=m ->last (n 0) (fun k=>n (k + 1)) S tc j <=n i:=by
  intro j
  induction j with
  | zero=>intro _;exact hn 0 i (by omega) hi
  | succ j ih=>
    intro hj;rw [last];by_cases hx:S j∧tc j
    ·rw [if_pos hx];have:=h j (by omega) hx.1 hx.2;exact hn (j + 1) i (by omega) hi
    ·rw [if_neg hx];exact ih (by omega)
 exact this m (Nat.le_refl m)
end
def Ren.cut (ρ:Ren) (c:Nat):Ren:= ⟨fun x=>if x < c then ρ x else none,ρ.lim⟩
theorem Ren.YH {ρ:Ren} {c x:Nat} {p:Nat×Nat}:(ρ.cut c) x=some p↔x < c∧ρ x=some p:=by
 unfold Ren.cut;by_cases h:x < c
 ·simp [h]
 ·simp [h]
theorem Ren.ZdZ {ρ:Ren} {c c':Nat} (h:c <=c'):(ρ.cut c).le (ρ.cut c'):=fun x p e=>by
 rw [Ren.YH] at e;exact⟨Ren.YH.2 ⟨by omega,e.2⟩,rfl⟩
theorem Ren.Zn3 {ρ ρ':Ren} (h:ρ.le ρ') (c:Nat):(ρ.cut c).le (ρ'.cut c):=fun x p e=>by
 rw [Ren.YH] at e;obtain⟨h1,h2⟩:=h _ _ e.2;exact⟨Ren.YH.2 ⟨e.1,h1⟩,h2⟩
theorem Ren.ZyD {ρ:Ren} {c:Nat} (h:∀ x p,ρ x=some p ->x < c):ρ.le (ρ.cut c):=fun _ _ e=>⟨Ren.YH.2 ⟨h _ _ e,e⟩,rfl⟩
theorem Ren.Zhj {ρ:Ren} {c:Nat}:(ρ.cut c).le ρ:=fun _ _ e=>⟨(Ren.YH.1 e).2,rfl⟩
def mask (X:List Nat) (h:H):H:=X.foldl (fun g x=>g.put x .dead) h
def X0 (X:List Nat) (h h':H):H:=X.foldl (fun g x=>bif Nat.blt x h.size then g.put x (h.at x) else g) h'
theorem ZJ (X:List Nat) (h:H):(mask X h).size=h.size:=by
 unfold mask
 induction X generalizing h with
 | nil=>rfl
 | cons y X ih=>rw [List.foldl_cons,ih,H.size_put]
theorem Xd (X:List Nat) (h:H) (x:Nat):(mask X h).at x=if x ∈ X then .dead else h.at x:=by
 unfold mask
 induction X generalizing h with
 | nil=>simp
 | cons y X ih=>
   rw [List.foldl_cons,ih];by_cases hx:x ∈ X
   ·simp [hx]
   ·rw [if_neg hx,H.Xq];by_cases hy:x=y
    ·subst hy;by_cases hl:x < h.size
     ·simp [hl]
     ·simp [hl,H.KU (Nat.le_of_not_lt hl)]
    ·simp [hx,hy]
theorem YO (X:List Nat) (h h':H):(X0 X h h').size=h'.size:=by
 unfold X0
 induction X generalizing h' with
 | nil=>rfl
 | cons y X ih=>rw [List.foldl_cons,ih];cases Nat.blt y h.size <;> rfl
theorem XA (X:List Nat) (h h':H) (hs:h.size <=h'.size) (x:Nat):(X0 X h h').at x=if x ∈ X∧x < h.size then h.at x else h'.at x:=by
 unfold X0
 induction X generalizing h' with
 | nil=>simp
 | cons y X ih=>
   rw [List.foldl_cons];cases hb:Nat.blt y h.size with
   | true=>
     rw [Nat.blt_eq] at hb;rw [Cq1,ih _ (by rw [H.size_put];exact hs)];by_cases hx:x ∈ X∧x < h.size
     ·rw [if_pos hx,if_pos ⟨List.mem_cons_of_mem _ hx.1,hx.2⟩]
     ·rw [if_neg hx,H.Xq];by_cases hy:x=y
      ·subst hy;rw [if_pos ⟨rfl,by omega⟩,if_pos ⟨by simp,hb⟩]
      ·rw [if_neg fun z=>hy z.1,if_neg];rintro⟨z1,z2⟩;rcases List.mem_cons.1 z1 with z | z
       ·exact hy z
       ·exact hx ⟨z,z2⟩
   | false=>
     rw [Cq0,ih _ hs];have hy:¬ y < h.size:=fun z=>by rw [← Nat.blt_eq] at z;rw [z] at hb;cases hb
     by_cases hx:x ∈ X∧x < h.size
     ·rw [if_pos hx,if_pos ⟨List.mem_cons_of_mem _ hx.1,hx.2⟩]
     ·rw [if_neg hx,if_neg];rintro⟨z1,z2⟩;rcases List.mem_cons.1 z1 with z | z
      ·subst z;exact hy z2
      ·exact hx ⟨z,z2⟩
theorem K6 (fr:Fr) (d:Option Tmp) (v:Value) (t:Nat):(QZ fr d v).at t=if d=some t then v else fr.at t:=by
 cases d with
 | none=>simp [QZ]
 | some d=>
   by_cases h:t=d
   ·subst h;simp [QZ,Fr.at,Tr.QI]
   ·have h':¬ d=t:=fun e=>h e.symm
    simp [QZ,Fr.at,Tr.QI,h,h']
structure Data (P:Program) (nn wm:Nat) (rd:Option Nat) (ops:Array Oper) where
 hs:Nat ->H
 fs:Nat ->Fr
 vs:Nat ->Value
 mo:Nat ->Nat ->Prop
 Xs:Nat ->List Nat
 soft:Nat ->Option (Nat×Nat)
 hl:Nat ->Bool
 Pb:Nat ->Nat ->Prop
 Zie:wm <= (hs 0).size
 step:∀ (k:Nat) (o:Oper),ops[k]? =some o ->∃ h1,Qb P wm rd ops o (mo k) (fs k) (mask (Xs k) (hs k)) (vs k) h1∧JL (mo k) (mask (Xs k) (hs k)) h1∧
  hs (k + 1)=X0 (Xs k) (hs k) h1∧fs (k + 1)=QZ (fs k) o.dst (vs k)
 wmM:∀ k x,k < ops.size ->mo k x ->wm <=x
 dst:∀ (k:Nat) (o:Oper) (d:Tmp),ops[k]? =some o ->o.dst=some d ->d < nn
 ZbO:∀ (j k:Nat),Pb j k ->∃ (o:Oper) (e:Edge),ops[j]? =some o∧e ∈ o.after∧Region.binds .any e=true∧(k=e.on∨Pb e.on k)
 ZiH:∀ (j:Nat) (o:Oper) (e:Edge),ops[j]? =some o ->e ∈ o.after ->Region.binds .any e=true ->e.on < j
 inc:∀ i j,i < ops.size ->j < ops.size ->i ≠ j ->¬ Pb i j ->¬ Pb j i ->hl i=false ->∀ x,mo j x ->x < (hs j).size ->(x < (hs i).size∧(x ∈ Xs i∨soft i=some (x,j)))∨(hs (i + 1)).size <=x
 ZvI:∀ (i:Nat) (o:Oper),ops[i]? =some o ->hl i=true ->(∀ y,¬ mo i y)∧(hs (i + 1)).size= (hs i).size∧∀ g:H,Qb P wm rd ops o (fun _=>False) (fs i) g (vs i) g
 Zi6:∀ (i:Nat) (o:Oper) (x j:Nat),ops[i]? =some o ->soft i=some (x,j) ->i < j∧j < ops.size∧x < (hs i).size∧(∀ y,¬ mo i y)∧(hs (i + 1)).size= (hs i).size∧
  (∀ (ρ ρ':Ren) (w:World) (b d:Nat) (l:Nat×Nat),QW ρ w b d l ((hs i).at x) ->QW ρ' w b d l ((hs i).at x))∧
  (∀ (ρ ρ':Ren) (w:World) (b d:Nat) (l:Nat×Nat),QW ρ w b d l ((hs (j + 1)).at x) ->QW ρ' w b d l ((hs (j + 1)).at x))∧
  Qb P wm rd ops o (fun _=>False) (fs i) (mask (Xs i) (hs i)) (vs i) (mask (Xs i) (hs i))∧
  Qb P wm rd ops o (fun _=>False) (fs i) ((mask (Xs i) (hs i)).put x ((hs (j + 1)).at x)) (vs i) ((mask (Xs i) (hs i)).put x ((hs (j + 1)).at x))
 MX:∀ i x,i < ops.size ->mo i x ->x < (hs i).size ->x ∉ Xs i
 looks:∀ (i:Nat) (o:Oper) (t:Tmp),ops[i]? =some o ->t ∈ Yj.looks ops.toList o ->∀ (k:Nat) (o':Oper),ops[k]? =some o' ->o'.dst=some t ->k=i∨Pb i k∨Pb k i
 ZtL:∀ (i j:Nat) (o o':Oper) (t:Tmp),ops[i]? =some o ->ops[j]? =some o' ->o.dst=some t ->o'.dst=some t ->i=j
namespace Data
variable {P:Program} {nn wm:Nat} {rd:Option Nat} {ops:Array Oper} (D:Data P nn wm rd ops)
def n (k:Nat):Nat:= (D.hs k).size
def M (k x:Nat):Prop:=D.mo k x∧x < D.n k
def tch (k x:Nat):Prop:=D.M k x∨(D.n k <=x∧x < D.n (k + 1))
def Uu (k:Nat):Option Tmp:= (ops[k]?).bind (·.dst)
def hv (S:Nat ->Prop) (x:Nat):YN:=last ((D.hs 0).at x) (fun k=>(D.hs (k + 1)).at x) S (fun k=>D.tch k x) ops.size
def cv (S:Nat ->Prop) (x:Nat):Nat:=last (D.n 0) (fun k=>D.n (k + 1)) S (fun k=>D.tch k x) ops.size
def tv (S:Nat ->Prop) (t:Nat):Value:=last ((D.fs 0).at t) D.vs S (fun k=>Uu (ops:=ops) k=some t) ops.size
def tt (S:Nat ->Prop) (t:Nat):Nat:=last (D.n 0) (fun k=>D.n (k + 1)) S (fun k=>Uu (ops:=ops) k=some t) ops.size
theorem get {k:Nat} (h:k < ops.size):∃ o,ops[k]? =some o:= ⟨ops[k],by simp [h]⟩
theorem Zjt {k:Nat} (h:k < ops.size):D.n k <=D.n (k + 1):=by
 obtain⟨o,ho⟩:=get h;obtain⟨h1,_,km,e,_⟩:=D.step k o ho;unfold n;rw [e,YO];have:=km.size
 rwa [ZJ] at this
theorem Qe:∀ j k,j <=k ->k <=ops.size ->D.n j <=D.n k:=by
 intro j k hjk
 induction hjk with
 | refl=>intro _;exact Nat.le_refl _
 | step h ih=>intro hk;exact Nat.le_trans (ih (by omega)) (D.Zjt (by omega))
theorem keep {k x:Nat} (hk:k < ops.size) (h:¬ D.tch k x):(D.hs (k + 1)).at x= (D.hs k).at x:=by
 obtain⟨o,ho⟩:=get hk;obtain⟨h1,_,km,e,_⟩:=D.step k o ho;have hsz:=km.size;rw [ZJ] at hsz;have hn:D.n (k + 1)=h1.size:=by unfold n;rw [e,YO]
 by_cases hx:x < (D.hs k).size
 ·rw [e,XA _ _ _ hsz];by_cases hX:x ∈ D.Xs k
  ·rw [if_pos ⟨hX,hx⟩]
  ·rw [if_neg fun z=>hX z.1,km.keep x (by rw [ZJ];exact hx) (fun z=>h (.inl ⟨z,hx⟩)),Xd,if_neg hX]
 ·have:¬ x < D.n (k + 1):=fun z=>h (.inr ⟨Nat.le_of_not_lt hx,z⟩)
  rw [H.KU (Nat.le_of_not_lt hx),H.KU (Nat.le_of_not_lt this)]
theorem own {k x:Nat} (hk:k < ops.size) (hx:x < D.n k) (h:((D.hs (k + 1)).at x).own=true):((D.hs k).at x).own=true:=by
 obtain⟨o,ho⟩:=get hk;obtain⟨h1,_,km,e,_⟩:=D.step k o ho;have hsz:=km.size;rw [ZJ] at hsz;rw [e,XA _ _ _ hsz] at h;by_cases hX:x ∈ D.Xs k∧x < (D.hs k).size
 ·rwa [if_pos hX] at h
 ·rw [if_neg hX] at h;have:=km.own x (by rw [ZJ];exact hx) h;rw [Xd] at this;split at this
  ·cases this
  ·exact this
theorem live {k x:Nat} (hk:k < ops.size) (hx:x < D.n k) (h:((D.hs (k + 1)).at x).live=true):((D.hs k).at x).live=true:=by
 obtain⟨o,ho⟩:=get hk;obtain⟨h1,_,km,e,_⟩:=D.step k o ho;have hsz:=km.size;rw [ZJ] at hsz;rw [e,XA _ _ _ hsz] at h;by_cases hX:x ∈ D.Xs k∧x < (D.hs k).size
 ·rwa [if_pos hX] at h
 ·rw [if_neg hX] at h;have:=km.live x (by rw [ZJ];exact hx) h;rw [Xd] at this;split at this
  ·cases this
  ·exact this
theorem ZBO {x:Nat} (hx:x < D.n 0):∀ k,k <=ops.size ->((D.hs k).at x).own=true ->((D.hs 0).at x).own=true:=by
 intro k
 induction k with
 | zero=>intro _ h;exact h
 | succ k ih=>intro hk h;exact ih (by omega) (D.own (by omega) (Nat.lt_of_lt_of_le hx (D.Qe 0 k (by omega) (by omega))) h)
theorem ZBV {x:Nat} (hx:x < D.n 0):∀ k,k <=ops.size ->((D.hs k).at x).live=true ->((D.hs 0).at x).live=true:=by
 intro k
 induction k with
 | zero=>intro _ h;exact h
 | succ k ih=>intro hk h;exact ih (by omega) (D.live (by omega) (Nat.lt_of_lt_of_le hx (D.Qe 0 k (by omega) (by omega))) h)
theorem ZCn (S:Nat ->Prop) (x:Nat):∃ k,k <=ops.size∧D.hv S x= (D.hs k).at x:=by
 unfold hv
 have:∀ m,m <=ops.size ->∃ k,k <=ops.size∧last ((D.hs 0).at x) (fun k=>(D.hs (k + 1)).at x) S (fun k=>D.tch k x) m= (D.hs k).at x:=by
  intro m
  induction m with
  | zero=>intro _;exact⟨0,by omega,rfl⟩
  | succ m ih=>
    intro hm;rw [last];by_cases h:S m∧D.tch m x
    ·rw [if_pos h];exact⟨m + 1,hm,rfl⟩
    ·rw [if_neg h];exact ih (by omega)
 exact this _ (Nat.le_refl _)
theorem Zvo {S:Nat ->Prop} {x:Nat} (hx:x < D.n 0) (h:(D.hv S x).own=true):((D.hs 0).at x).own=true:=by
 obtain⟨k,hk,e⟩:=D.ZCn S x;rw [e] at h;exact D.ZBO hx k hk h
def Closed (ops:Array Oper) (S:Nat ->Prop):Prop:=∀ j o e,S j ->ops[j]? =some o ->e ∈ o.after ->Region.binds .any e=true ->S e.on
theorem Zxk:∀ j k,D.Pb j k ->k < j:=by
 intro j
 induction j using Nat.strongRecOn with
 | ind j ih=>
   intro k h;obtain⟨o,e,ho,he,hb,hk⟩:=D.ZbO j k h;have:=D.ZiH j o e ho he hb;rcases hk with rfl | hk
   ·exact this
   ·have:=ih e.on this k hk;omega
theorem ZiJ {S:Nat ->Prop} (hc:Closed ops S):∀ j k,S j ->D.Pb j k ->S k:=by
 intro j
 induction j using Nat.strongRecOn with
 | ind j ih=>
   intro k hj h;obtain⟨o,e,ho,he,hb,hk⟩:=D.ZbO j k h;have h1:=hc j o e hj ho he hb;rcases hk with rfl | hk
   ·exact h1
   ·exact ih e.on (D.ZiH j o e ho he hb) k h1 hk
theorem Zd0 {S:Nat ->Prop} (hc:Closed ops S) {i:Nat} {o:Oper} (ho:ops[i]? =some o) (hi:¬ S i) (hr:∀ e ∈ o.after,Region.binds .any e=true ->S e.on) {k:Nat} (h:D.Pb i k∨D.Pb k i):S k↔k < i:=by
 rcases h with h | h
 ·refine⟨fun _=>D.Zxk _ _ h,fun _=>?_⟩;obtain⟨o',e,ho',he,hb,hk⟩:=D.ZbO i k h;rw [ho] at ho';cases ho';rcases hk with rfl | hk
  ·exact hr e he hb
  ·exact D.ZiJ hc e.on k (hr e he hb) hk
 ·refine⟨fun hs=>absurd (D.ZiJ hc k i hs h) hi,fun hl=>?_⟩;have:=D.Zxk _ _ h;omega
structure J (S:Nat ->Prop) (ds:List Deferred) (ρ0:Ren) (w0:World) (ρ:Ren) (a:Act) (w:World):Prop where
 dom:∀ x b d,ρ x=some (b,d) ->b < w.heap.size∧(x < D.n 0∨∃ k,k < ops.size∧S k∧D.n k <=x∧x < D.n (k + 1))
 obj:∀ x b d,ρ x=some (b,d) ->QW (ρ.cut (D.cv S x)) w b d (ρ.lim x) (D.hv S x)
 tsz:a.tmps.size=nn
 tmp:∀ t,QC (D.tv S t)=false ->VR (ρ.cut (D.tt S t)) (D.tv S t) (a.tmps.getD t undef)
 ds:DsR (ρ.cut (D.n 0)) ds a.defers
 inj:∀ x y b d d',ρ x=some (b,d) ->ρ y=some (b,d') ->(D.hv S x).own=true ->(D.hv S y).live=true ->x=y
 ext:ρ0.le ρ
 Zme:∀ x p,ρ0 x=some p ->x < D.n 0
 os:w.os=w0.os
 tape:w.tape=w0.tape
 output:w.output=w0.output
 Y9:w0.heap.size <=w.heap.size
 frame:∀ b,b < w0.heap.size ->(∀ i d,wm <=i ->ρ0 i=some (b,d) ->((D.hs 0).at i).own=true ->False) ->w.heap[b]? =w0.heap[b]?
 JF:∀ i b d,ρ0 i=none ->ρ i=some (b,d) ->D.n 0 <=i∧(w0.heap.size <=b∨∃ j d',wm <=j∧ρ0 j=some (b,d')∧((D.hs 0).at j).own=true)
variable {D}
theorem J.Zan {S:Nat ->Prop} {ds:List Deferred} {ρ0 ρ:Ren} {w0 w:World} {a:Act} (j:D.J S ds ρ0 w0 ρ a w) (hc:Closed ops S) {i:Nat} {o:Oper} (ho:ops[i]? =some o) (hi:¬ S i)
 (hr:∀ e ∈ o.after,Region.binds .any e=true ->S e.on) {x b d:Nat} (hx:ρ x=some (b,d)) (hxn:x < D.n i) (hX:x ∉ D.Xs i) (hhl:D.hl i=false) (hsf:∀ j,D.soft i ≠ some (x,j)):D.hv S x= (D.hs i).at x∧D.cv S x <=D.n i:=by
 have him:i < ops.size:= (Array.getElem?_eq_some_iff.1 ho).1
 have key:∀ k,k < ops.size ->D.tch k x ->(S k↔k < i):=by
  intro k hk ht;rcases ht with ht | ⟨h1,h2⟩
  ·by_cases hki:k=i
   ·subst hki;exact⟨fun z=>absurd z hi,fun z=>by omega⟩
   ·by_cases hcmp:D.Pb i k∨D.Pb k i
    ·exact D.Zd0 hc ho hi hr hcmp
    ·rcases D.inc i k him hk (Ne.symm hki) (fun z=>hcmp (.inl z)) (fun z=>hcmp (.inr z)) hhl x ht.1 ht.2 with z | z
     ·rcases z.2 with z | z
      ·exact absurd z hX
      ·exact absurd z (hsf k)
     ·have:=D.Zjt him;unfold n at this hxn;omega
  ·have hki:k < i:=by
    rcases Nat.lt_or_ge k i with z | z
    ·exact z
    ·have:=D.Qe i k z (by omega);omega
   refine⟨fun _=>hki,fun _=>?_⟩;rcases(j.dom x b d hx).2 with z | ⟨k',q1,q2,q3,q4⟩
   ·have:=D.Qe 0 k (by omega) (by omega);omega
   ·have:k'=k:=by
     rcases Nat.lt_trichotomy k' k with z | z | z
     ·have:=D.Qe (k' + 1) k (by omega) (by omega);omega
     ·exact z
     ·have:=D.Qe (k + 1) k' (by omega) (by omega);omega
    subst this;exact q2
 refine⟨?_,?_⟩
 ·unfold hv;exact KM _ _ _ _ (fun k=>(D.hs k).at x) rfl (fun k _ _=>rfl) (fun k hk ht=>D.keep hk ht) (Nat.le_of_lt him) key
 ·unfold cv;exact ZoX _ _ _ D.Qe (Nat.le_of_lt him) fun k hk hs ht=>(key k hk ht).1 hs
theorem J.ZkI {S:Nat ->Prop} (hc:Closed ops S) {i:Nat} {o:Oper} (ho:ops[i]? =some o) (hi:¬ S i)
 (hr:∀ e ∈ o.after,Region.binds .any e=true ->S e.on) {t:Nat} (ht:t ∈ Yj.looks ops.toList o):D.tv S t= (D.fs i).at t∧D.tt S t <=D.n i:=by
 have him:i < ops.size:= (Array.getElem?_eq_some_iff.1 ho).1
 have key:∀ k,k < ops.size ->Uu (ops:=ops) k=some t ->(S k↔k < i):=by
  intro k hk hd;obtain⟨o',ho'⟩:=get hk;have hd':o'.dst=some t:=by unfold Uu at hd;rw [ho'] at hd;exact hd
  rcases D.looks i o t ho ht k o' ho' hd' with h | h
  ·subst h;exact⟨fun z=>absurd z hi,fun z=>by omega⟩
  ·exact D.Zd0 hc ho hi hr h
 have hfs:∀ k,k < ops.size ->(D.fs (k + 1)).at t=if Uu (ops:=ops) k=some t then D.vs k else(D.fs k).at t:=by
  intro k hk;obtain⟨o',ho'⟩:=get hk;obtain⟨h1,_,_,_,e⟩:=D.step k o' ho';rw [e,K6];unfold Uu;rw [ho']
  rfl
 refine⟨?_,?_⟩
 ·unfold tv;exact KM _ _ _ _ (fun k=>(D.fs k).at t) rfl (fun k hk hd=>by rw [hfs k hk,if_pos hd]) (fun k hk hd=>by rw [hfs k hk,if_neg hd]) (Nat.le_of_lt him) key
 ·unfold tt;exact ZoX _ _ _ D.Qe (Nat.le_of_lt him) fun k hk hs hd=>(key k hk hd).1 hs
end Data
end Go.Yj
end
end
section
noncomputable section
namespace Go.Yj
namespace Data
variable {P:Program} {nn wm:Nat} {rd:Option Nat} {ops:Array Oper} {D:Data P nn wm rd ops}
theorem J.step {S:Nat ->Prop} {ds:List Deferred} {ρ0 ρ:Ren} {w0 w:World} {a:Act} (j:D.J S ds ρ0 w0 ρ a w) (hc:Closed ops S) {i:Nat} {o:Oper} (ho:ops[i]? =some o) (hi:¬ S i) (hhl:D.hl i=false) (ZoZ:D.soft i=none)
 (hr:∀ e ∈ o.after,Region.binds .any e=true ->S e.on) {F:Fence} (hF:Kl ρ0 rd F) {S':Nat ->Prop} (hS:∀ k,S' k↔S k∨k=i) {K:Act ->World ->Prop} {Q:Exit ->Act ->World ->Prop}
 (hK:∀ ρ' a' w',D.J S' ds ρ0 w0 ρ' a' w' ->K a' w'):
 if Region.wanted o (yielded ops a.tmps) then o.wpIn F 0 P a w K Q else(∀ f,o.about P w a.eval=some f ->F.fn f)∧K (a.put o.dst undef) w:=by
 have him:i < ops.size:= (Array.getElem?_eq_some_iff.1 ho).1;have hsf:∀ {x:Nat} (j:Nat),D.soft i ≠ some (x,j):=fun j z=>by rw [ZoZ] at z;cases z
 obtain⟨h1,hstep,km,eh,ef⟩:=D.step i o ho;have hsz:=km.size;rw [ZJ] at hsz;have hn1:D.n (i + 1)=h1.size:=by unfold n;rw [eh,YO]
 have hni:D.n i= (D.hs i).size:=rfl;have h0i:=D.Qe 0 i (by omega) (by omega);have hii:=D.Zjt him
 have r1:Rel (ρ.cut (D.n i)) (mask (D.Xs i) (D.hs i)) w:=by
  refine⟨fun x b d e=>?_,fun x b d e=>?_,fun x y b d d' e e' ho hl=>?_⟩
  ·rw [Ren.YH] at e;rw [ZJ];exact⟨e.1,(j.dom x b d e.2).1⟩
  ·rw [Ren.YH] at e;rw [Xd];by_cases hX:x ∈ D.Xs i
   ·rw [if_pos hX];trivial
   ·rw [if_neg hX];obtain⟨q1,q2⟩:=j.Zan hc ho hi hr e.2 e.1 hX hhl hsf;rw [← q1];exact(j.obj x b d e.2).mono (Ren.ZdZ q2)
  ·rw [Ren.YH] at e e';rw [Xd] at ho hl;by_cases hX:x ∈ D.Xs i
   ·rw [if_pos hX] at ho;cases ho
   ·by_cases hY:y ∈ D.Xs i
    ·rw [if_pos hY] at hl;cases hl
    ·rw [if_neg hX] at ho;rw [if_neg hY] at hl;rw [← (j.Zan hc ‹_› hi hr e.2 e.1 hX hhl hsf).1] at ho;rw [← (j.Zan hc ‹_› hi hr e'.2 e'.1 hY hhl hsf).1] at hl;exact j.inj x y b d d' e.2 e'.2 ho hl
 have hF1:Kl (ρ.cut (D.n i)) rd F:=by
  refine hF.mono fun x p e=>?_
  obtain⟨e1,e2⟩:=j.ext x p e;exact⟨Ren.YH.2 ⟨by have:=j.Zme x p e;omega,e1⟩,e2⟩
 refine hstep (ρ.cut (D.n i)) a w F K Q r1 (by rw [ZJ];have:=D.Zie;have e:D.n 0= (D.hs 0).size:=rfl;omega) (fun t ht hany=>?_) hF1 ?_
 ·obtain⟨q1,q2⟩:=J.ZkI (D:=D) hc ho hi hr ht;rw [← q1] at hany ⊢;exact(j.tmp t hany).mono (Ren.ZdZ q2)
 intro ρ2 v' w' hv r2 st0;have st:Wp (D.M i) (ρ.cut (D.n i)) (mask (D.Xs i) (D.hs i)) w ρ2 w':=st0.weaken (fun x hx hm=>⟨hm,by rw [ZJ] at hx;exact hx⟩) r1.lt
 have hfree:∀ x,D.n i <=x ->x < D.n (i + 1) ->ρ x=none:=by
  intro x h1 h2;cases e:ρ x with
  | none=>rfl
  | some p=>
    rcases(j.dom x p.1 p.2 e).2 with z | ⟨k,q1,q2,q3,q4⟩
    ·omega
    ·exfalso;rcases Nat.lt_trichotomy k i with z | z | z
     ·have:=D.Qe (k + 1) i (by omega) (by omega);omega
     ·subst z;exact hi q2
     ·have:=D.Qe (i + 1) k (by omega) (by omega);omega
 have Zlq:(mask (D.Xs i) (D.hs i)).size=D.n i:=ZJ _ _
 have ZBP:∀ x b d,x < D.n i ->ρ2 x=some (b,d) ->ρ x=some (b,d):=by
  intro x b d hx e;cases e1:(ρ.cut (D.n i)) x with
  | none=>have:= (st.JF x b d e1 e).1;omega
  | some p=>
    have:= (st.ext x p e1).1;rw [e] at this;cases this;exact(Ren.YH.1 e1).2
 let ρ':Ren:= ⟨fun x=>if D.n i <=x∧x < D.n (i + 1) then ρ2 x else ρ x,fun x=>if D.n i <=x∧x < D.n (i + 1) then ρ2.lim x else ρ.lim x⟩
 have new':∀ x,D.n i <=x ->x < D.n (i + 1) ->ρ' x=ρ2 x∧ρ'.lim x=ρ2.lim x:=fun x a b=>⟨if_pos ⟨a,b⟩,if_pos ⟨a,b⟩⟩
 have old':∀ x,¬ (D.n i <=x∧x < D.n (i + 1)) ->ρ' x=ρ x∧ρ'.lim x=ρ.lim x:=fun x a=>⟨if_neg a,if_neg a⟩
 have hle:ρ.le ρ':=by
  intro x p e;have:¬ (D.n i <=x∧x < D.n (i + 1)):=fun z=>by rw [hfree x z.1 z.2] at e;cases e
  obtain⟨q1,q2⟩:=old' x this;exact⟨by rw [q1];exact e,q2⟩
 have hle2:ρ2.le (ρ'.cut (D.n (i + 1))):=by
  intro x p e;have hx:x < D.n (i + 1):=by have:= (r2.dom x p.1 p.2 e).1;omega
  by_cases hxn:D.n i <=x
  ·obtain⟨q1,q2⟩:=new' x hxn hx;exact⟨Ren.YH.2 ⟨hx,by rw [q1];exact e⟩,q2⟩
  ·have e0:=ZBP x p.1 p.2 (by omega) e;obtain⟨q1,q2⟩:=old' x (fun z=>hxn z.1);refine⟨Ren.YH.2 ⟨hx,by rw [q1];exact e0⟩,?_⟩;have:= (st.ext x p (Ren.YH.2 ⟨by omega,e0⟩)).2;show ρ'.lim x=ρ2.lim x;rw [q2,this];rfl
 have Zvp:∀ x,D.n i <=x ->x < D.n (i + 1) ->D.tch i x:=fun x a b=>.inr ⟨a,b⟩
 have hval:∀ x b d,ρ' x=some (b,d) ->D.tch i x ->D.hv S' x=h1.at x∧D.cv S' x=D.n (i + 1)∧ρ2 x=some (b,d)∧ρ'.lim x=ρ2.lim x:=by
  intro x b d e ht
  have hxX:x ∈ D.Xs i ->¬ x < (D.hs i).size:=by
   intro hX hlt;rcases ht with ht | ht
   ·exact D.MX i x him ht.1 ht.2 hX
   ·have:=ht.1;omega
  have Zbd:∀ k,i < k ->k < ops.size ->D.tch k x ->¬ S k:=by
   intro k hik hk htk hsk;have hxk:x < D.n (i + 1)∨D.n (i + 1) <=x:=by omega
   rcases htk with htk | htk
   ·by_cases hcmp:D.Pb i k∨D.Pb k i
    ·have:= (D.Zd0 hc ho hi hr hcmp).1 hsk;omega
    ·rcases ht with ht | ht
     ·rcases D.inc i k him hk (by omega) (fun z=>hcmp (.inl z)) (fun z=>hcmp (.inr z)) hhl x htk.1 htk.2 with z | z
      ·rcases z.2 with z | z
       ·exact D.MX i x him ht.1 ht.2 z
       ·exact hsf _ z
      ·have z2:=ht.2;have z1:=hii;unfold n at z2 z1;omega
     ·rcases D.inc i k him hk (by omega) (fun z=>hcmp (.inl z)) (fun z=>hcmp (.inr z)) hhl x htk.1 htk.2 with z | z
      ·have z1:=ht.1;unfold n at z1;omega
      ·have z1:=ht.2;unfold n at z1;omega
   ·rcases ht with ht | ht
    ·have hxi:x < D.n i∨D.n i <=x:=by omega
     rcases hxi with hxi | hxi
     ·have:=D.Qe i k (by omega) (by omega);omega
     ·have:=ht.2;omega
    ·have:=D.Qe (i + 1) k (by omega) (by omega);omega
  have e1:D.hv S' x= (D.hs (i + 1)).at x:=KL hS him ht Zbd;have e2:D.cv S' x=D.n (i + 1):=KL hS him ht Zbd
  have e3:(D.hs (i + 1)).at x=h1.at x:=by
   rw [eh,XA _ _ _ hsz,if_neg fun z=>hxX z.1 z.2]
  refine⟨e1.trans e3,e2,?_⟩;by_cases hx:D.n i <=x∧x < D.n (i + 1)
  ·obtain⟨q1,q2⟩:=new' x hx.1 hx.2;exact⟨by rw [← q1];exact e,q2⟩
  ·obtain⟨q1,q2⟩:=old' x hx;rw [q1] at e
   have hxi:x < D.n i:=by
    rcases Nat.lt_or_ge x (D.n i) with z | z
    ·exact z
    ·rcases ht with ht | ht
     ·have:=ht.2;omega
     ·exact absurd ht hx
   have:=st.ext x (b,d) (Ren.YH.2 ⟨hxi,e⟩);exact⟨this.1,by rw [q2,this.2];rfl⟩
 have hnot:∀ x,¬ D.tch i x ->D.hv S' x=D.hv S x∧D.cv S' x=D.cv S x:=fun x ht=>⟨Qi hS ht,Qi hS ht⟩
 have ZBN:∀ x b d,ρ x=some (b,d) ->(D.hv S' x).own=true ->(D.hv S x).own=true:=by
  intro x b d e h;by_cases ht:D.tch i x
  ·obtain⟨q1,_,q3,_⟩:=hval x b d (hle x (b,d) e).1 ht;rw [q1] at h
   have hxi:x < D.n i:=by
    rcases Nat.lt_or_ge x (D.n i) with z | z
    ·exact z
    ·rcases ht with ht | ht
     ·have:=ht.2;omega
     ·rw [hfree x ht.1 ht.2] at e;cases e
   have:=km.own x (by rw [ZJ];exact hxi) h;rw [Xd] at this;by_cases hX:x ∈ D.Xs i
   ·rw [if_pos hX] at this;cases this
   ·rw [if_neg hX] at this
    rwa [(j.Zan hc ho hi hr e hxi hX hhl hsf).1]
  ·rwa [(hnot x ht).1] at h
 have Zxn:∀ x b d,ρ x=some (b,d) ->(D.hv S' x).live=true ->(D.hv S x).live=true:=by
  intro x b d e h;by_cases ht:D.tch i x
  ·obtain⟨q1,_,q3,_⟩:=hval x b d (hle x (b,d) e).1 ht;rw [q1] at h
   have hxi:x < D.n i:=by
    rcases Nat.lt_or_ge x (D.n i) with z | z
    ·exact z
    ·rcases ht with ht | ht
     ·have:=ht.2;omega
     ·rw [hfree x ht.1 ht.2] at e;cases e
   have:=km.live x (by rw [ZJ];exact hxi) h;rw [Xd] at this;by_cases hX:x ∈ D.Xs i
   ·rw [if_pos hX] at this;cases this
   ·rw [if_neg hX] at this
    rwa [(j.Zan hc ho hi hr e hxi hX hhl hsf).1]
  ·rwa [(hnot x ht).1] at h
 have Zr4:∀ y b d,D.M i y ->(ρ.cut (D.n i)) y=some (b,d) ->((mask (D.Xs i) (D.hs i)).at y).own=true ->ρ y=some (b,d)∧(D.hv S y).own=true:=by
  intro y b d hm e h;rw [Ren.YH] at e;rw [Xd] at h;by_cases hX:y ∈ D.Xs i
  ·rw [if_pos hX] at h;cases h
  ·rw [if_neg hX] at h;exact⟨e.2,by rwa [(j.Zan hc ho hi hr e.2 e.1 hX hhl hsf).1]⟩
 have ZBQ:∀ y b d,ρ y=some (b,d) ->(D.hv S y).own=true ->wm <=y ->(∃ d',ρ0 y=some (b,d')∧((D.hs 0).at y).own=true)∨(w0.heap.size <=b∨∃ j d',wm <=j∧ρ0 j=some (b,d')∧((D.hs 0).at j).own=true):=by
  intro y b d e h hwy;cases e0:ρ0 y with
  | some p=>
    have:= (j.ext y p e0).1;rw [e] at this;cases this;exact .inl ⟨d,rfl,D.Zvo (j.Zme y _ e0) h⟩
  | none=>exact .inr (j.JF y b d e0 e).2
 refine hK ρ' (a.put o.dst v') w' ?_
 refine{dom:= ?_,obj:= ?_,tsz:= ?_,tmp:= ?_,ds:= ?_,inj:= ?_,ext:=Ren.le_trans j.ext hle,Zme:=j.Zme,os:=st.os.trans j.os,tape:=st.tape.trans j.tape,output:=st.output.trans j.output,
        Y9:=Nat.le_trans j.Y9 st.Y9,frame:= ?_,JF:= ?_}
 ·intro x b d e;by_cases hx:D.n i <=x∧x < D.n (i + 1)
  ·rw [(new' x hx.1 hx.2).1] at e;exact⟨(r2.dom x b d e).2,.inr ⟨i,him,(hS i).2 (.inr rfl),hx.1,hx.2⟩⟩
  ·rw [(old' x hx).1] at e;obtain⟨q1,q2⟩:=j.dom x b d e;exact⟨Nat.lt_of_lt_of_le q1 st.Y9,q2.imp id fun⟨k,z1,z2,z3⟩=>⟨k,z1,(hS k).2 (.inl z2),z3⟩⟩
 ·intro x b d e;by_cases ht:D.tch i x
  ·obtain⟨q1,q2,q3,q4⟩:=hval x b d e ht;rw [q1,q2,q4];exact(r2.obj x b d q3).mono hle2
  ·obtain⟨q1,q2⟩:=hnot x ht;have hx:¬ (D.n i <=x∧x < D.n (i + 1)):=fun z=>ht (Zvp x z.1 z.2)
   obtain⟨q3,q4⟩:=old' x hx;rw [q3] at e;rw [q1,q2,q4];by_cases hl:(D.hv S x).live=true
   ·refine((j.obj x b d e).mono (Ren.Zn3 hle _)).world (st.frame b (j.dom x b d e).1 ?_);intro y d' hm hy hown;obtain⟨z1,z2⟩:=Zr4 y b d' hm hy hown;have:=j.inj y x b d' d z1 e z2 hl;subst this;exact ht (.inl hm)
   ·rw [J3 hl];trivial
 ·have:(a.put o.dst v').tmps.size=a.tmps.size:=by cases o.dst <;> simp [Act.put]
  rw [this];exact j.tsz
 ·intro t;by_cases hd:Uu (ops:=ops) i=some t
  ·have hod:o.dst=some t:=by unfold Uu at hd;rw [ho] at hd;exact hd
   have Zbd:∀ k,i < k ->k < ops.size ->Uu (ops:=ops) k=some t ->¬ S k:=by
    intro k hik hk hdk _;obtain⟨o',ho'⟩:=get hk;have ZyU:o'.dst=some t:=by unfold Uu at hdk;rw [ho'] at hdk;exact hdk
    have:=D.ZtL i k o o' t ho ho' hod ZyU;omega
   have e1:D.tv S' t=D.vs i:=KL hS him hd Zbd;have e2:D.tt S' t=D.n (i + 1):=KL hS him hd Zbd;rw [e1,e2,hod];intro _;have htn:t < a.tmps.size:=by rw [j.tsz];exact D.dst i o t ho hod
   have:(a.put (some t) v').tmps.getD t undef=v':=by
    simp [Act.put,Array.getD_eq_getD_getElem?,htn]
   rw [this];exact hv.mono hle2
  ·have e1:D.tv S' t=D.tv S t:=Qi hS hd;have e2:D.tt S' t=D.tt S t:=Qi hS hd;rw [e1,e2];intro hany
   have:(a.put o.dst v').tmps.getD t undef=a.tmps.getD t undef:=by
    cases hod:o.dst with
    | none=>rfl
    | some d=>
      have hne:d ≠ t:=fun z=>hd (by unfold Uu;rw [ho,← z];exact hod)
      simp [Act.put,Array.getD_eq_getD_getElem?,Array.getElem?_setIfInBounds_ne hne]
   rw [this];exact(j.tmp t hany).mono (Ren.Zn3 hle _)
 ·have:(a.put o.dst v').defers=a.defers:=by cases o.dst <;> rfl
  rw [this];exact j.ds.mono (Ren.Zn3 hle _)
 ·intro x y b d d' ex ey hox hly;by_cases hx:D.n i <=x∧x < D.n (i + 1)
  ·have htx:=Zvp x hx.1 hx.2;obtain⟨x1,_,x3,_⟩:=hval x b d ex htx;by_cases hy:D.n i <=y∧y < D.n (i + 1)
   ·obtain⟨y1,_,y3,_⟩:=hval y b d' ey (Zvp y hy.1 hy.2);rw [x1] at hox;rw [y1] at hly;exact r2.inj x y b d d' x3 y3 hox hly
   ·rw [(old' y hy).1] at ey
    have Znd:(ρ.cut (D.n i)) x=none:=by
     cases e:(ρ.cut (D.n i)) x with
     | none=>rfl
     | some p=>have:= (Ren.YH.1 e).1;omega
    rcases(st.JF x b d Znd x3).2 with z | ⟨q,dq,z1,z2,z3⟩
    ·have:= (j.dom y b d' ey).1;omega
    ·obtain⟨u1,u2⟩:=Zr4 q b dq z1 z2 z3;have hqy:=j.inj q y b dq d' u1 ey u2 (Zxn y b d' ey hly);subst hqy;obtain⟨y1,_,y3,_⟩:=hval q b d' (hle q (b,d') ey).1 (.inl z1);rw [x1] at hox;rw [y1] at hly;exact r2.inj x q b d d' x3 y3 hox hly
  ·rw [(old' x hx).1] at ex;by_cases hy:D.n i <=y∧y < D.n (i + 1)
   ·obtain⟨y1,_,y3,_⟩:=hval y b d' ey (Zvp y hy.1 hy.2)
    have ZyL:(ρ.cut (D.n i)) y=none:=by
     cases e:(ρ.cut (D.n i)) y with
     | none=>rfl
     | some p=>have:= (Ren.YH.1 e).1;omega
    rcases(st.JF y b d' ZyL y3).2 with z | ⟨q,dq,z1,z2,z3⟩
    ·have:= (j.dom x b d ex).1;omega
    ·obtain⟨u1,u2⟩:=Zr4 q b dq z1 z2 z3;have hqx:=j.inj x q b d dq ex u1 (ZBN x b d ex hox) (Ud u2);subst hqx;obtain⟨x1,_,x3,_⟩:=hval x b d (hle x (b,d) ex).1 (.inl z1);rw [x1] at hox;rw [y1] at hly;exact r2.inj x y b d d' x3 y3 hox hly
   ·rw [(old' y hy).1] at ey;exact j.inj x y b d d' ex ey (ZBN x b d ex hox) (Zxn y b d' ey hly)
 ·intro b hb hno;rw [← j.frame b hb hno];refine st.frame b (Nat.lt_of_lt_of_le hb j.Y9) ?_;intro y d hm hy hown;obtain⟨z1,z2⟩:=Zr4 y b d hm hy hown;have hwy:=D.wmM i y him hm.1;rcases ZBQ y b d z1 z2 hwy with⟨d',u1,u2⟩ | u | ⟨q,dq,u1,u2,u3⟩
  ·exact hno y d' hwy u1 u2
  ·omega
  ·exact hno q dq u1 u2 u3
 ·intro x b d e0 e;by_cases hx:D.n i <=x∧x < D.n (i + 1)
  ·rw [(new' x hx.1 hx.2).1] at e
   have Znd:(ρ.cut (D.n i)) x=none:=by
    cases e:(ρ.cut (D.n i)) x with
    | none=>rfl
    | some p=>have:= (Ren.YH.1 e).1;omega
   refine⟨by omega,?_⟩;rcases(st.JF x b d Znd e).2 with z | ⟨q,dq,z1,z2,z3⟩
   ·exact .inl (Nat.le_trans j.Y9 z)
   ·obtain⟨u1,u2⟩:=Zr4 q b dq z1 z2 z3;have hwq:=D.wmM i q him z1.1;rcases ZBQ q b dq u1 u2 hwq with⟨d',v1,v2⟩ | v
    ·exact .inr ⟨q,d',hwq,v1,v2⟩
    ·exact v
  ·rw [(old' x hx).1] at e;exact j.JF x b d e0 e
theorem J.pure {S:Nat ->Prop} {ds:List Deferred} {ρ0 ρ:Ren} {w0 w:World} {a:Act} (j:D.J S ds ρ0 w0 ρ a w) (hc:Closed ops S) {i:Nat} {o:Oper} (ho:ops[i]? =some o) (hi:¬ S i)
 (hr:∀ e ∈ o.after,Region.binds .any e=true ->S e.on) {F:Fence} (hF:Kl ρ0 rd F) {S':Nat ->Prop} (hS:∀ k,S' k↔S k∨k=i) {hv:H} (hsz:hv.size=D.n i) (hn:D.n (i + 1)=D.n i)
 (hM:∀ y,¬ D.mo i y) (hstep:Qb P wm rd ops o (fun _=>False) (D.fs i) hv (D.vs i) hv) (r1:Rel (ρ.cut (D.n i)) hv w) {K:Act ->World ->Prop} {Q:Exit ->Act ->World ->Prop}
 (hK:∀ ρ' a' w',D.J S' ds ρ0 w0 ρ' a' w' ->K a' w'):
 if Region.wanted o (yielded ops a.tmps) then o.wpIn F 0 P a w K Q else(∀ f,o.about P w a.eval=some f ->F.fn f)∧K (a.put o.dst undef) w:=by
 have him:i < ops.size:= (Array.getElem?_eq_some_iff.1 ho).1;have h0i:=D.Qe 0 i (by omega) (by omega)
 have hF1:Kl (ρ.cut (D.n i)) rd F:=by
  refine hF.mono fun x p e=>?_
  obtain⟨e1,e2⟩:=j.ext x p e;exact⟨Ren.YH.2 ⟨by have:=j.Zme x p e;omega,e1⟩,e2⟩
 refine hstep (ρ.cut (D.n i)) a w F K Q r1 (by have:=D.Zie;have e:D.n 0= (D.hs 0).size:=rfl;omega) (fun t ht hany=>?_) hF1 ?_
 ·obtain⟨q1,q2⟩:=J.ZkI (D:=D) hc ho hi hr ht;rw [← q1] at hany ⊢;exact(j.tmp t hany).mono (Ren.ZdZ q2)
 intro ρ2 v' w' hvv r2 st
 have hle2:ρ2.le (ρ.cut (D.n (i + 1))):=by
  intro x p e;have hx:x < D.n i:=by have:= (r2.dom x p.1 p.2 e).1;omega
  cases e1:(ρ.cut (D.n i)) x with
  | none=>have:= (st.JF x p.1 p.2 e1 e).1;omega
  | some q=>
    obtain⟨q1,q2⟩:=st.ext x q e1;rw [e] at q1;cases q1;exact⟨Ren.YH.2 ⟨by omega,(Ren.YH.1 e1).2⟩,q2.symm⟩
 have hbl:∀ b,b < w.heap.size ->w'.heap[b]? =w.heap[b]?:=fun b hb=>st.frame b hb fun _ _ h=>h.elim
 have hnt:∀ x,¬ D.tch i x:=by
  rintro x (h | h)
  ·exact hM x h.1
  ·omega
 have hnot:∀ x,D.hv S' x=D.hv S x∧D.cv S' x=D.cv S x:=fun x=>⟨Qi hS (hnt x),Qi hS (hnt x)⟩
 refine hK ρ (a.put o.dst v') w' ?_
 refine{dom:= ?_,obj:= ?_,tsz:= ?_,tmp:= ?_,ds:= ?_,inj:= ?_,ext:=j.ext,Zme:=j.Zme,os:=st.os.trans j.os,tape:=st.tape.trans j.tape,output:=st.output.trans j.output,
        Y9:=Nat.le_trans j.Y9 st.Y9,frame:= ?_,JF:=j.JF}
 ·intro x b d e;obtain⟨q1,q2⟩:=j.dom x b d e;exact⟨Nat.lt_of_lt_of_le q1 st.Y9,q2.imp id fun⟨k,z1,z2,z3⟩=>⟨k,z1,(hS k).2 (.inl z2),z3⟩⟩
 ·intro x b d e;rw [(hnot x).1,(hnot x).2];exact(j.obj x b d e).world (hbl b (j.dom x b d e).1)
 ·have:(a.put o.dst v').tmps.size=a.tmps.size:=by cases o.dst <;> simp [Act.put]
  rw [this];exact j.tsz
 ·intro t;by_cases hd:Uu (ops:=ops) i=some t
  ·have hod:o.dst=some t:=by unfold Uu at hd;rw [ho] at hd;exact hd
   have Zbd:∀ k,i < k ->k < ops.size ->Uu (ops:=ops) k=some t ->¬ S k:=by
    intro k hik hk hdk _;obtain⟨o',ho'⟩:=get hk;have ZyU:o'.dst=some t:=by unfold Uu at hdk;rw [ho'] at hdk;exact hdk
    have:=D.ZtL i k o o' t ho ho' hod ZyU;omega
   have e1:D.tv S' t=D.vs i:=KL hS him hd Zbd;have e2:D.tt S' t=D.n (i + 1):=KL hS him hd Zbd;rw [e1,e2,hod];intro _;have htn:t < a.tmps.size:=by rw [j.tsz];exact D.dst i o t ho hod
   have:(a.put (some t) v').tmps.getD t undef=v':=by
    simp [Act.put,Array.getD_eq_getD_getElem?,htn]
   rw [this];exact hvv.mono hle2
  ·have e1:D.tv S' t=D.tv S t:=Qi hS hd;have e2:D.tt S' t=D.tt S t:=Qi hS hd;rw [e1,e2];intro hany
   have:(a.put o.dst v').tmps.getD t undef=a.tmps.getD t undef:=by
    cases hod:o.dst with
    | none=>rfl
    | some d=>
      have hne:d ≠ t:=fun z=>hd (by unfold Uu;rw [ho,← z];exact hod)
      simp [Act.put,Array.getD_eq_getD_getElem?,Array.getElem?_setIfInBounds_ne hne]
   rw [this];exact j.tmp t hany
 ·have:(a.put o.dst v').defers=a.defers:=by cases o.dst <;> rfl
  rw [this];exact j.ds
 ·intro x y b d d' ex ey h1 h2;rw [(hnot x).1] at h1;rw [(hnot y).1] at h2;exact j.inj x y b d d' ex ey h1 h2
 ·intro b hb hno;rw [hbl b (Nat.lt_of_lt_of_le hb j.Y9)];exact j.frame b hb hno
theorem J.next {S:Nat ->Prop} {ds:List Deferred} {ρ0 ρ:Ren} {w0 w:World} {a:Act} (j:D.J S ds ρ0 w0 ρ a w) (hc:Closed ops S) {i:Nat} {o:Oper} (ho:ops[i]? =some o) (hi:¬ S i)
 (hr:∀ e ∈ o.after,Region.binds .any e=true ->S e.on) {F:Fence} (hF:Kl ρ0 rd F) {S':Nat ->Prop} (hS:∀ k,S' k↔S k∨k=i) {K:Act ->World ->Prop} {Q:Exit ->Act ->World ->Prop}
 (hK:∀ ρ' a' w',D.J S' ds ρ0 w0 ρ' a' w' ->K a' w'):
 if Region.wanted o (yielded ops a.tmps) then o.wpIn F 0 P a w K Q else(∀ f,o.about P w a.eval=some f ->F.fn f)∧K (a.put o.dst undef) w:=by
 cases hhl:D.hl i with
 | true=>
   obtain⟨hM,hn,hst⟩:=D.ZvI i o ho hhl;refine j.pure (hv:= ⟨.nil,D.n i⟩) hc ho hi hr hF hS rfl hn hM (hst _) ⟨fun y b d e=>?_,fun y b d e=>?_,fun y z b d d' e e' h1 h2=>?_⟩ hK
   ·rw [Ren.YH] at e;exact⟨e.1,(j.dom y b d e.2).1⟩
   ·have:(⟨.nil,D.n i⟩:H).at y= .dead:=by unfold H.at;cases Nat.blt y (D.n i) <;> rfl
    rw [this];trivial
   ·have:(⟨.nil,D.n i⟩:H).at y= .dead:=by unfold H.at;cases Nat.blt y (D.n i) <;> rfl
    rw [this] at h1;cases h1
 | false=>
 cases hsf:D.soft i with
 | none=>exact j.step hc ho hi hhl hsf hr hF hS hK
 | some p=>
   obtain⟨x,jj⟩:=p;obtain⟨hij,hjm,hxn,hM,hn,hp1,hp2,hs1,hs2⟩:=D.Zi6 i o x jj ho hsf;have him:i < ops.size:= (Array.getElem?_eq_some_iff.1 ho).1;have hxn:x < D.n i:=hxn
   have hother:∀ y b d,ρ y=some (b,d) ->y < D.n i ->y ∉ D.Xs i ->y ≠ x ->D.hv S y= (D.hs i).at y∧D.cv S y <=D.n i:=fun y b d e1 e2 e3 e4=>
    j.Zan hc ho hi hr e1 e2 e3 hhl fun j' z=>by rw [hsf] at z;cases z;exact e4 rfl
   have view:∀ (A:YN),(∀ b d,ρ x=some (b,d) ->x ∉ D.Xs i ->D.hv S x=A) ->(∀ (ρ ρ':Ren) (w:World) (b d:Nat) (l:Nat×Nat),QW ρ w b d l A ->QW ρ' w b d l A) ->∀ (hv:H),hv.size=D.n i ->
    (∀ y,hv.at y=if y ∈ D.Xs i∧y ≠ x then .dead else if y=x then(if x ∈ D.Xs i then .dead else A) else(D.hs i).at y) ->Rel (ρ.cut (D.n i)) hv w:=by
    intro A hA hpl hv hvs hva
    have hval:∀ y b d,ρ y=some (b,d) ->y < D.n i ->hv.at y= .dead∨(hv.at y=D.hv S y∧(y=x∨D.cv S y <=D.n i)∧(y=x ->D.hv S y=A)):=by
     intro y b d e1 e2;rw [hva];by_cases hyx:y=x
     ·subst hyx;rw [if_neg (fun z=>z.2 rfl),if_pos rfl];by_cases hX:y ∈ D.Xs i
      ·rw [if_pos hX];exact .inl rfl
      ·rw [if_neg hX];right;have:=hA b d e1 hX;exact⟨this.symm,.inl rfl,fun _=>this⟩
     ·by_cases hX:y ∈ D.Xs i
      ·rw [if_pos ⟨hX,hyx⟩];exact .inl rfl
      ·rw [if_neg fun z=>hX z.1,if_neg hyx];obtain⟨q1,q2⟩:=hother y b d e1 e2 hX hyx;exact .inr ⟨q1.symm,.inr q2,fun z=>absurd z hyx⟩
    refine⟨fun y b d e=>?_,fun y b d e=>?_,fun y z b d d' e e' h1 h2=>?_⟩
    ·rw [Ren.YH] at e;rw [hvs];exact⟨e.1,(j.dom y b d e.2).1⟩
    ·rw [Ren.YH] at e;rcases hval y b d e.2 e.1 with q | ⟨q1,q2,q3⟩
     ·rw [q];trivial
     ·have:=j.obj y b d e.2;rw [q1];rcases q2 with q2 | q2
      ·rw [q3 q2] at this ⊢;exact hpl _ _ _ _ _ _ this
      ·exact this.mono (Ren.ZdZ q2)
    ·rw [Ren.YH] at e e';rcases hval y b d e.2 e.1 with q | ⟨q1,_,_⟩
     ·rw [q] at h1;cases h1
     ·rcases hval z b d' e'.2 e'.1 with q | ⟨p1,_,_⟩
      ·rw [q] at h2;cases h2
      ·rw [q1] at h1;rw [p1] at h2;exact j.inj y z b d d' e.2 e'.2 h1 h2
   have hcases:(∀ b d,ρ x=some (b,d) ->x ∉ D.Xs i ->D.hv S x= (D.hs i).at x)∨(∀ b d,ρ x=some (b,d) ->x ∉ D.Xs i ->D.hv S x= (D.hs (jj + 1)).at x):=by
    by_cases hX:x ∈ D.Xs i
    ·exact .inl fun _ _ _ z=>absurd hX z
    cases hρ:ρ x with
    | none=>exact .inl fun _ _ z=>by cases z
    | some p=>
      have hcr:∀ k,k < ops.size ->D.n k <=x ->x < D.n (k + 1) ->(S k↔k < i):=by
       intro k hk h1 h2
       have hki:k < i:=by
        rcases Nat.lt_or_ge k i with z | z
        ·exact z
        ·have:=D.Qe i k z (by omega);omega
       refine⟨fun _=>hki,fun _=>?_⟩;rcases(j.dom x p.1 p.2 hρ).2 with z | ⟨k',q1,q2,q3,q4⟩
       ·have:=D.Qe 0 k (by omega) (by omega);omega
       ·have:k'=k:=by
         rcases Nat.lt_trichotomy k' k with z | z | z
         ·have:=D.Qe (k' + 1) k (by omega) (by omega);omega
         ·exact z
         ·have:=D.Qe (k + 1) k' (by omega) (by omega);omega
        subst this;exact q2
      have key:∀ k,k < ops.size ->D.tch k x ->k ≠ jj ->(S k↔k < i):=by
       intro k hk ht hkj;rcases ht with ht | ⟨h1,h2⟩
       ·by_cases hki:k=i
        ·subst hki;exact absurd ht.1 (hM x)
        ·by_cases hcmp:D.Pb i k∨D.Pb k i
         ·exact D.Zd0 hc ho hi hr hcmp
         ·rcases D.inc i k him hk (Ne.symm hki) (fun z=>hcmp (.inl z)) (fun z=>hcmp (.inr z)) hhl x ht.1 ht.2 with z | z
          ·rcases z.2 with z | z
           ·exact absurd z hX
           ·rw [hsf] at z;cases z;exact absurd rfl hkj
          ·have:=D.Zjt him;unfold n at this hxn;omega
       ·exact hcr k hk h1 h2
      by_cases hj:S jj∧D.tch jj x
      ·right;intro _ _ _ _
       have:∀ m,jj < m ->m <=ops.size ->last ((D.hs 0).at x) (fun k=>(D.hs (k + 1)).at x) S (fun k=>D.tch k x) m= (D.hs (jj + 1)).at x:=by
        intro m
        induction m with
        | zero=>intro h;omega
        | succ m ihm=>
          intro h1 h2;rw [last];by_cases hmj:m=jj
          ·subst hmj;rw [if_pos hj]
          ·rw [if_neg]
           ·exact ihm (by omega) (by omega)
           ·rintro⟨z1,z2⟩;have:= (key m (by omega) z2 hmj).1 z1;omega
       exact this ops.size hjm (Nat.le_refl _)
      ·left;intro _ _ _ _;unfold hv;refine KM _ _ _ _ (fun k=>(D.hs k).at x) rfl (fun k _ _=>rfl) (fun k hk ht=>D.keep hk ht) (Nat.le_of_lt him) fun k hk ht=>?_
       by_cases hkj:k=jj
       ·subst hkj;exact⟨fun z=>absurd ⟨z,ht⟩ hj,fun z=>by omega⟩
       ·exact key k hk ht hkj
   have Zlq:(mask (D.Xs i) (D.hs i)).size=D.n i:=ZJ _ _;rcases hcases with hA | hA
   ·refine j.pure hc ho hi hr hF hS Zlq hn hM hs1 (view _ hA hp1 _ Zlq fun y=>?_) hK;rw [Xd];by_cases hX:y ∈ D.Xs i
    ·rw [if_pos hX];by_cases hyx:y=x
     ·subst hyx;rw [if_neg fun z=>z.2 rfl,if_pos rfl,if_pos hX]
     ·rw [if_pos ⟨hX,hyx⟩]
    ·rw [if_neg hX,if_neg fun z=>hX z.1];by_cases hyx:y=x
     ·subst hyx;rw [if_pos rfl,if_neg hX]
     ·rw [if_neg hyx]
   ·by_cases hX:x ∈ D.Xs i
    ·refine j.pure hc ho hi hr hF hS Zlq hn hM hs1 (view ((D.hs i).at x) (fun _ _ _ z=>absurd hX z) hp1 _ Zlq fun y=>?_) hK;rw [Xd];by_cases hY:y ∈ D.Xs i
     ·rw [if_pos hY];by_cases hyx:y=x
      ·subst hyx;rw [if_neg fun z=>z.2 rfl,if_pos rfl,if_pos hY]
      ·rw [if_pos ⟨hY,hyx⟩]
     ·rw [if_neg hY,if_neg fun z=>hY z.1];by_cases hyx:y=x
      ·subst hyx;exact absurd hX hY
      ·rw [if_neg hyx]
    ·refine j.pure (hv:= (mask (D.Xs i) (D.hs i)).put x ((D.hs (jj + 1)).at x)) hc ho hi hr hF hS (by rw [H.size_put];exact Zlq) hn hM hs2 (view _ hA hp2 _ (by rw [H.size_put];exact Zlq) fun y=>?_) hK;rw [H.Xq,Xd];by_cases hyx:y=x
     ·subst hyx;rw [if_pos ⟨rfl,by rw [Zlq];exact hxn⟩,if_neg fun z=>z.2 rfl,if_pos rfl,if_neg hX]
     ·rw [if_neg fun z=>hyx z.1];by_cases hY:y ∈ D.Xs i
      ·rw [if_pos hY,if_pos ⟨hY,hyx⟩]
      ·rw [if_neg hY,if_neg fun z=>hY z.1,if_neg hyx]
def SL (listed:Array Bool) (k:Nat):Prop:=listed.getD k false=true
theorem ZkH {listed:Array Bool} (hs:listed.size=ops.size) {k:Nat} (hk:k < ops.size):listed.getD k true=false↔¬ SL listed k:=by
 unfold SL;simp [Array.getD_eq_getD_getElem?,show k < listed.size by omega]
theorem J.any {ds:List Deferred} {ρ0:Ren} {w0:World} {F:Fence} (hF:Kl ρ0 rd F) {Q:Exit ->Act ->World ->Prop}
 (hQ:∀ (S:Nat ->Prop) ρ a w,(∀ k,k < ops.size ->S k) ->D.J S ds ρ0 w0 ρ a w ->Q .normal a w):
 ∀ (fuel:Nat) (listed:Array Bool),listed.size=ops.size ->((List.range ops.size).filter (fun k=>!listed.getD k true)).length <=fuel ->Closed ops (SL listed) ->
   ∀ ρ a w,D.J (SL listed) ds ρ0 w0 ρ a w ->wpAnyIn F 0 P .any ops Q fuel listed a w:=by
 have done:∀ (listed:Array Bool),listed.size=ops.size ->Region.ready .any ops listed= [] ->∀ k,k < ops.size ->SL listed k:=by
  intro listed hsz hr k
  induction k using Nat.strongRecOn with
  | ind k ih=>
    intro hk;apply Classical.byContradiction;intro hno;obtain⟨o,ho⟩:=get hk
    have:k ∈ Region.ready .any ops listed:=mem_ready.2 ⟨(ZkH hsz hk).2 hno,o,ho,fun e he hb=>by
     have hlt:=D.ZiH k o e ho he hb;exact ih e.on hlt (by omega)⟩
    rw [hr] at this;cases this
 intro fuel
 induction fuel with
 | zero=>
   intro listed hsz hn hc ρ a w j
   have hnil:Region.ready .any ops listed= []:=by
    rw [List.eq_nil_iff_forall_not_mem];intro k hk;obtain⟨h1,o,ho,_⟩:=mem_ready.1 hk;have hlt:k < ops.size:= (Array.getElem?_eq_some_iff.1 ho).1
    have hmem:k ∈ (List.range ops.size).filter (fun k=>!listed.getD k true):=by
     rw [List.mem_filter];exact⟨List.mem_range.2 hlt,by rw [h1];rfl⟩
    have:=List.length_pos_of_mem hmem;omega
   exact⟨hnil,hQ _ ρ a w (done listed hsz hnil) j⟩
 | succ fuel ih=>
   intro listed hsz hn hc ρ a w j;refine⟨fun hnil=>hQ _ ρ a w (done listed hsz hnil) j,fun i hi=>?_⟩;obtain⟨h1,o,ho,hr⟩:=mem_ready.1 hi;have him:i < ops.size:= (Array.getElem?_eq_some_iff.1 ho).1;unfold wpOpIn;rw [ho]
   have hS:∀ k,SL (listed.setIfInBounds i true) k↔SL listed k∨k=i:=by
    intro k;unfold SL;by_cases hk:k=i
    ·subst hk;simp [Array.getD_eq_getD_getElem?,show k < listed.size by omega]
    ·rw [getD_set_ne false (Ne.symm hk)];simp [hk]
   have hc':Closed ops (SL (listed.setIfInBounds i true)):=by
    intro j' o' e hj ho' he hb;rcases(hS j').1 hj with h | h
    ·exact(hS _).2 (.inl (hc j' o' e h ho' he hb))
    ·subst h;rw [ho] at ho';cases ho';exact(hS _).2 (.inl (hr e he hb))
   refine j.next hc ho ((ZkH hsz him).1 h1) hr hF hS fun ρ' a' w' j'=>ih _ (by simpa using hsz) ?_ hc' ρ' a' w' j'
   have heq:(List.range ops.size).filter (fun k=>!(listed.setIfInBounds i true).getD k true)= ((List.range ops.size).filter (fun k=>!listed.getD k true)).filter (fun k=>k ≠ i):=by
    rw [List.filter_filter];apply List.filter_congr;intro k hk;rw [List.mem_range] at hk;by_cases hki:k=i
    ·subst hki;simp [Array.getD_eq_getD_getElem?,show k < listed.size by omega]
    ·rw [getD_set_ne true (Ne.symm hki)];simp [hki]
   rw [heq]
   have hmem:i ∈ (List.range ops.size).filter (fun k=>!listed.getD k true):=by
    rw [List.mem_filter];exact⟨List.mem_range.2 him,by rw [h1];rfl⟩
   have:(((List.range ops.size).filter (fun k=>!listed.getD k true)).filter (fun k=>k ≠ i)).length < ((List.range ops.size).filter (fun k=>!listed.getD k true)).length:=
    List.length_filter_lt_length_iff_exists.2 ⟨i,hmem,by simp⟩
   omega
theorem ZyG (D:Data P nn wm rd ops) {x:Nat} (hx:x < wm):∀ k,k <=ops.size ->(D.hs k).at x= (D.hs 0).at x:=by
 intro k
 induction k with
 | zero=>intro _;rfl
 | succ k ih=>
   intro hk;rw [D.keep (by omega) ?_]
   ·exact ih (by omega)
   ·rintro(h | h)
    ·have:=D.wmM k x (by omega) h.1;omega
    ·have h1:=D.Qe 0 k (by omega) (by omega);have h2:=D.Zie;have h3:D.n 0= (D.hs 0).size:=rfl;omega
theorem J.start {ds:List Deferred} {ρ:Ren} {a:Act} {w:World} (hi:Inv ρ nn {fr:=D.fs 0,ds:=ds,h:=D.hs 0} a w):D.J (SL (Array.replicate ops.size false)) ds ρ w ρ a w:=by
 have hno:∀ k,¬ SL (Array.replicate ops.size false) k:=by
  intro k;unfold SL;rw [Array.getD_eq_getD_getElem?,Array.getElem?_replicate];split <;> simp
 have e1:∀ x,D.hv (SL (Array.replicate ops.size false)) x= (D.hs 0).at x:=fun x=>ZbU _ _ _ _ fun k _ _=>hno k
 have e2:∀ x,D.cv (SL (Array.replicate ops.size false)) x=D.n 0:=fun x=>ZbU _ _ _ _ fun k _ _=>hno k
 have e3:∀ x,D.tv (SL (Array.replicate ops.size false)) x= (D.fs 0).at x:=fun x=>ZbU _ _ _ _ fun k _ _=>hno k
 have e4:∀ x,D.tt (SL (Array.replicate ops.size false)) x=D.n 0:=fun x=>ZbU _ _ _ _ fun k _ _=>hno k
 have hlt:∀ x p,ρ x=some p ->x < D.n 0:=hi.rel.lt;have hle:=Ren.ZyD hlt;refine{dom:= ?_,obj:= ?_,tsz:=hi.fr.size,tmp:= ?_,ds:=hi.ds.mono hle,inj:= ?_,ext:=Ren.le_refl _,Zme:=hlt,os:=rfl,tape:=rfl,output:=rfl,Y9:=Nat.le_refl _,frame:=fun _ _ _=>rfl,JF:= ?_}
 ·intro x b d e;exact⟨(hi.rel.dom x b d e).2,.inl (hlt _ _ e)⟩
 ·intro x b d e;rw [e1,e2];exact(hi.rel.obj x b d e).mono hle
 ·intro t;rw [e3,e4];intro hany;exact(hi.fr.val t hany).mono hle
 ·intro x y b d d' e e' h1 h2;rw [e1] at h1 h2;exact hi.rel.inj x y b d d' e e' h1 h2
 ·intro i b d e e';rw [e] at e';cases e'
theorem J.finish {S:Nat ->Prop} (hS:∀ k,k < ops.size ->S k) {ds:List Deferred} {ρ0 ρ:Ren} {w0 w:World} {a:Act} (j:D.J S ds ρ0 w0 ρ a w):
 Xu wm nn ρ0 (D.hs 0) w0 .normal {fr:=D.fs ops.size,ds:=ds,h:=D.hs ops.size} .normal a w:=by
 have key:∀ (tc:Nat ->Prop) k,k < ops.size ->tc k ->(S k↔k < ops.size):=fun tc k hk _=>⟨fun _=>hk,fun _=>hS k hk⟩
 have e1:∀ x,D.hv S x= (D.hs ops.size).at x:=fun x=>by
  unfold hv;exact KM _ _ _ _ (fun k=>(D.hs k).at x) rfl (fun k _ _=>rfl) (fun k hk ht=>D.keep hk ht) (Nat.le_refl _) (key _)
 have e3:∀ t,D.tv S t= (D.fs ops.size).at t:=fun t=>by
  have hfs:∀ k,k < ops.size ->(D.fs (k + 1)).at t=if Uu (ops:=ops) k=some t then D.vs k else(D.fs k).at t:=by
   intro k hk;obtain⟨o',ho'⟩:=get hk;obtain⟨h1,_,_,_,e⟩:=D.step k o' ho';rw [e,K6];unfold Uu;rw [ho']
   rfl
  unfold tv;exact KM _ _ _ _ (fun k=>(D.fs k).at t) rfl (fun k hk hd=>by rw [hfs k hk,if_pos hd]) (fun k hk hd=>by rw [hfs k hk,if_neg hd]) (Nat.le_refl _) (key _)
 refine⟨ρ,.normal,⟨⟨?_,?_,?_⟩,⟨j.tsz,?_⟩,j.ds.mono Ren.Zhj⟩,⟨j.ext,D.Qe 0 _ (by omega) (by omega),fun i hi=>D.ZyG hi _ (by omega),fun i hi h=>D.ZBO hi _ (by omega) h,fun i hi h=>D.ZBV hi _ (by omega) h,
  j.os,j.tape,j.output,j.Y9,j.frame,j.JF⟩⟩
 ·intro x b d e;obtain⟨q1,q2⟩:=j.dom x b d e;refine⟨?_,q1⟩;rcases q2 with z | ⟨k,z1,z2,z3,z4⟩
  ·exact Nat.lt_of_lt_of_le z (D.Qe 0 _ (by omega) (by omega))
  ·exact Nat.lt_of_lt_of_le z4 (D.Qe (k + 1) _ (by omega) (by omega))
 ·intro x b d e;have:= (j.obj x b d e).mono Ren.Zhj
  rwa [e1] at this
 ·intro x y b d d' e e' h1 h2;exact j.inj x y b d d' e e' (by rw [e1];exact h1) (by rw [e1];exact h2)
 ·intro t;intro hany;have:= (j.tmp t (by rw [e3];exact hany)).mono Ren.Zhj
  rwa [e3] at this
theorem region (D:Data P nn wm rd ops) (hm:P.follows .mixedOrders=true) {ds:List Deferred} {ρ:Ren} {a:Act} {w:World} {F:Fence} (hi:Inv ρ nn {fr:=D.fs 0,ds:=ds,h:=D.hs 0} a w) (hF:Kl ρ rd F) (id:Nat):
 (Code.region id ops true).wpIn F 0 P (Xu wm nn ρ (D.hs 0) w .normal {fr:=D.fs ops.size,ds:=ds,h:=D.hs ops.size}) a w:=by
 refine wpIn_region_any hm ?_;have hi':Inv ρ nn {fr:=D.fs 0,ds:=ds,h:=D.hs 0} a {w with drawn:=w.drawn + 1}:= ⟨⟨hi.rel.dom,fun i b d e=>(hi.rel.obj i b d e).world rfl,hi.rel.inj⟩,hi.fr,hi.ds⟩
 refine J.any (D:=D) (ds:=ds) (ρ0:=ρ) (w0:= {w with drawn:=w.drawn + 1}) hF (fun S ρ' a' w' hS j=>?_) ops.size _ (by simp) (Nat.le_trans (List.length_filter_le _ _) (by simp)) ?_ ρ a _ (J.start hi')
 ·obtain⟨ρ2,q1,q2,q3⟩:=j.finish hS;exact⟨ρ2,q1,q2,⟨q3.ext,q3.size,q3.keep,q3.own,q3.live,q3.os,q3.tape,q3.output,q3.Y9,q3.frame,q3.JF⟩⟩
 ·intro k o e hk;exfalso;unfold SL at hk;rw [Array.getD_eq_getD_getElem?,Array.getElem?_replicate] at hk;split at hk <;> simp at hk
end Data
end Go.Yj
end
end
section
noncomputable section
namespace Go.Yj
theorem Zki (a b n:Nat):bit (Nat.lor a b) n= (bit a n || bit b n):=by
 rw [Zho,Zho,Zho];exact Nat.testBit_or a b n
theorem ZpB (a n:Nat):bit (Nat.pow 2 a) n=true↔a=n:=by
 rw [Zho];have:Nat.pow 2 a=2 ^ a:=rfl;rw [this,Nat.testBit_two_pow];simp
theorem Zhn (n:Nat):bit 0 n=false:=by rw [Zho];simp
def Za6 (ps:List Nat) (i:Nat):List Edge ->Nat
 | []=>0
 | e::es=>bif Region.binds .any e && Nat.blt e.on i then Nat.lor (Nat.lor (Nat.pow 2 e.on) (ps.getD e.on 0)) (Za6 ps i es) else Za6 ps i es
def Xp:List Oper ->Nat ->List Nat ->List Nat
 | [],_,ps=>ps
 | o::l,i,ps=>Xp l (i + 1) (ps ++ [Za6 ps i o.after.toList])
theorem Zk1 {ps:List Nat} {i k:Nat}:∀ (es:List Edge),bit (Za6 ps i es) k=true ->∃ e ∈ es,Region.binds .any e=true∧e.on < i∧(k=e.on∨bit (ps.getD e.on 0) k=true):=by
 intro es
 induction es with
 | nil=>intro h;simp [Za6,Zhn] at h
 | cons e es ih=>
   intro h;simp only [Za6] at h;cases hb:(Region.binds .any e && Nat.blt e.on i) <;> rw [hb] at h <;> simp only [Cq1,Cq0] at h
   ·obtain⟨e',h1,h2⟩:=ih h;exact⟨e',List.mem_cons_of_mem _ h1,h2⟩
   ·rw [Ba0,Nat.blt_eq] at hb;rw [Zki,Zki,Bool.or_eq_true,Bool.or_eq_true] at h;rcases h with(h | h) | h
    ·exact⟨e,by simp,hb.1,hb.2,.inl ((ZpB _ _).1 h).symm⟩
    ·exact⟨e,by simp,hb.1,hb.2,.inr h⟩
    ·obtain⟨e',h1,h2⟩:=ih h;exact⟨e',List.mem_cons_of_mem _ h1,h2⟩
theorem Za5:∀ (l:List Oper) (i:Nat) (ps:List Nat),ps.length=i ->(∀ k,k < i ->(Xp l i ps).getD k 0=ps.getD k 0)∧
 ∀ (j:Nat) (k:Nat),i <=j ->bit ((Xp l i ps).getD j 0) k=true ->∃ o,l[j - i]? =some o∧∃ e ∈ o.after.toList,Region.binds .any e=true∧(k=e.on∨bit ((Xp l i ps).getD e.on 0) k=true):=by
 intro l
 induction l with
 | nil=>
   intro i ps hl;refine⟨fun _ _=>rfl,fun j k hj h=>?_⟩;simp only [Xp] at h;rw [List.getD_eq_getElem?_getD,List.getElem?_eq_none (by omega)] at h;simp [Zhn] at h
 | cons o l ih=>
   intro i ps hl;obtain⟨h1,h2⟩:=ih (i + 1) (ps ++ [Za6 ps i o.after.toList]) (by simp [hl])
   have hlow:∀ k,k < i ->(Xp (o::l) i ps).getD k 0=ps.getD k 0:=by
    intro k hk;simp only [Xp];rw [h1 k (by omega),List.getD_eq_getElem?_getD,List.getElem?_append_left (by omega),← List.getD_eq_getElem?_getD]
   refine⟨hlow,fun j k hj h=>?_⟩;by_cases hji:j=i
   ·subst hji;refine⟨o,by simp,?_⟩
    have e:(Xp (o::l) j ps).getD j 0=Za6 ps j o.after.toList:=by
     simp only [Xp];rw [h1 j (by omega),List.getD_eq_getElem?_getD,List.getElem?_append_right (by omega)];simp [hl]
    rw [e] at h;obtain⟨e,he,hb,hlt,hk⟩:=Zk1 _ h;refine⟨e,he,hb,hk.imp id fun hk=>?_⟩;rw [hlow e.on hlt];exact hk
   ·simp only [Xp] at h ⊢;obtain⟨o',ho',e,he⟩:=h2 j k (by omega) h;exact⟨o',by rw [show j - i= (j - (i + 1)) + 1 by omega];exact ho',e,he⟩
def Q5 (p:Nat ->Oper ->Bool):List Oper ->Nat ->Bool
 | [],_=>true
 | o::l,i=>p i o && Q5 p l (i + 1)
theorem YP {p:Nat ->Oper ->Bool}:∀ (l:List Oper) (i:Nat),Q5 p l i=true ->∀ k o,l[k]? =some o ->p (i + k) o=true:=by
 intro l
 induction l with
 | nil=>intro i _ k o h;simp at h
 | cons o l ih=>
   intro i h k o' hk;simp only [Q5,Ba0] at h;cases k with
   | zero=>simp at hk;subst hk;exact h.1
   | succ k=>
     have:=ih (i + 1) h.2 k o' (by simpa using hk)
     rwa [show i + 1 + k=i + (k + 1) by omega] at this
def isT (d:Option Tmp) (t:Tmp):Bool:=
 match d with
 | some d=>Nat.beq d t
 | none=>false
theorem ZbV {d:Option Tmp} {t:Tmp}:isT d t=true↔d=some t:=by
 cases d with
 | none=>simp [isT]
 | some d=>simp [isT,Nat.beq_eq]
def comp (ps:List Nat) (i j:Nat):Bool:=bif Nat.blt i j then bit (ps.getD j 0) i else bit (ps.getD i 0) j
def ZcO (i:Nat) (o:Oper):Bool:=o.after.toList.all fun e=>bif Region.binds .any e then Nat.blt e.on i else true
def ZcA (ops:List Oper) (ps:List Nat) (i:Nat) (o:Oper):Bool:=
 (looks ops o).all fun t=>Q5 (fun k o'=>bif isT o'.dst t then Nat.beq k i || comp ps i k else true) ops 0
def Zhh (ops:List Oper) (i:Nat) (o:Oper):Bool:=
 match o.dst with
 | none=>true
 | some t=>Q5 (fun k o'=>bif isT o'.dst t then Nat.beq k i else true) ops 0
def Zgy (ps:List Nat) (m i:Nat):List Nat:= (List.range m).filter fun j=>bif Nat.beq i j then false else !comp ps i j
def ZoM (ops:List Oper) (ps:List Nat):Option (List (List Nat)):=
 bif Q5 ZcO ops 0 && Q5 (ZcA ops ps) ops 0 && Q5 (Zhh ops) ops 0 then some ((List.range ops.length).map (Zgy ps ops.length)) else none
def plan (ops:List Oper):Option (List (List Nat)):=ZoM ops (Xp ops 0 [])
def Yd (o:Oper):Bool:=
 match o.op with
 | .move _ | .assign _ | .pick .. | .build .. | .nilCheck _ | .binOp .. | .unOp .. | .makeInterface .. | .makeFunc .. | .fieldAddr .. | .field .. | .indexAddr .. | .typeAssert .. | .extract .. =>true
 | _=>false
def hlAt (ops:List Oper) (j:Nat):Bool:=
 match ops[j]? with
 | some o=>Yd o
 | none=>false
def Qj (ops:List Oper) (o:Oper) (inc:List Nat):Bool:= !Yd o && inc.all (hlAt ops)
def Zu3:AN ->Bool
 | .val _ | .panic _=>true
 | _=>false
def Quiet (nx:AN) (E:Eff):Prop:=E= .none∧Zu3 nx=true
theorem ZkF {v:Option Value} {nx:AN} {E:Eff} (h:vN v=some (nx,E)):Quiet nx E:=by
 unfold vN at h;split at h
 ·cases h;exact⟨rfl,rfl⟩
 ·cases h
theorem Zgb {P:Program} {s:Sem Value} {nx:AN} {E:Eff} (h:pN (K8 P s)=some (nx,E)):Quiet nx E:=by
 unfold pN at h;split at h
 ·rename_i nx' e;cases h;unfold K8 at e;split at e
  ·rename_i v _;cases hp:plain v <;> rw [hp] at e <;> simp only [Cq1,Cq0] at e
   ·cases e
   ·cases e;exact⟨rfl,rfl⟩
  ·rename_i v _;cases hp:plain v <;> rw [hp] at e <;> simp only [Cq1,Cq0] at e
   ·cases e
   ·cases e;exact⟨rfl,rfl⟩
  ·cases e
 ·cases h
theorem Zon {P:Program} {op:BinOp} {t:TypeId} {x y:Operand} {a b:Value} {nx:AN} {E:Eff} (h:Ui P op t x y a b=some (nx,E)):Quiet nx E:=by
 unfold Ui at h;cases hp:(plain a && plain b) <;> rw [hp] at h <;> simp only [Cq1,Cq0] at h
 ·split at h
  ·split at h
   ·cases h;exact⟨rfl,rfl⟩
   ·cases h
  ·split at h
   ·cases h;exact⟨rfl,rfl⟩
   ·cases h
  ·cases h
 ·exact Zgb h
theorem Zd6 {X:Ctx} (h g:H) {ev:Operand ->Option Value} {o:Oper} (ho:Yd o=true):XG X g ev o=XG X h ev o:=by
 unfold Yd at ho;unfold XG;split at ho <;> first | (cases ho;done) | (rename_i e;rw [e])
set_option maxHeartbeats 1000000 in
theorem ZqI {X:Ctx} {h:H} {ev:Operand ->Option Value} {o:Oper} {nx:AN} {E:Eff} (ho:Yd o=true) (ha:XG X h ev o=some (nx,E)):Quiet nx E:=by
 unfold Yd at ho;unfold XG at ha;split at ho
 case h_15=>cases ho
 all_goals
  rename_i e;rw [e] at ha;dsimp only at ha
  repeat' split at ha
  all_goals first
   | exact ZkF ha
   | exact Zon ha
   | (cases ha;done)
   | (cases ha;exact⟨rfl,rfl⟩)
   | (rw [Bool.cond_eq_ite] at ha;split at ha <;> first | exact Zgb ha | exact ZkF ha | (cases ha;done) | (cases ha;exact⟨rfl,rfl⟩) | (split at ha <;> first | (cases ha;done) | (cases ha;exact⟨rfl,rfl⟩)))
def ZtM (X:Ctx) (YK:FuncId ->Bool) (ih:Qg ->Option YF) (wm:Nat) (free:Bool) (ops:List Oper) (o:Oper) (fr:Fr) (h:H):Option (Option Nat×Value×H):=
 bif !okG ops o fr then none else bif YR ops o fr then
  match XG X h (Y5 fr) o with
  | some (nx,E)=>match E.apply wm h with
    | some h1=>match nx with
      | .val v=>some (E.tgt,v,h1)
      | .skip=>some (E.tgt,undef,h1)
      | .enter f args=>match Zih (free || YK f || E.tgt.isSome) wm args h1 with
        | some x=>match ih (.call f args x h1) with
          | some (.fin (.ret v) h2)=>some (some x,v,h2)
          | _=>none
        | none=>match ih (.call f args (bif free && !YK f then wm else h1.size) h1) with
          | some (.fin (.ret v) h2)=>bif YK f && plain v then some (E.tgt,v,h1) else some (E.tgt,v,h2)
          | _=>none
      | .round l args=>bif free then match ih (.round l args wm h1) with
          | some (.fin (.ret v) h2)=>some (E.tgt,v,h2)
          | _=>none
        else none
      | _=>none
    | none=>none
  | none=>none
 else some (none,undef,h)
theorem Zmc {X:Ctx} {YK:FuncId ->Bool} {ih:Qg ->Option YF} {n wm:Nat} {wr:Option Nat} {free:Bool} {ops:List Oper} {o:Oper} {fr:Fr} {h:H} {r:Option Nat×Value×H}
 (hs:Q9 X YK ih n wm wr free ops o fr h=some r) (g:H):Q9 X YK ih n wm wr free ops o fr g=ZtM X YK ih wm free ops o fr g:=by
 unfold Q9 at hs ⊢;cases e:o.dst with
 | none=>rfl
 | some d=>
   rw [e] at hs;dsimp only at hs ⊢;cases hb:(Nat.blt d n && allowed wr d) <;> rw [hb] at hs
   ·cases hs
   ·rfl
theorem Qy {X:Ctx} {YK:FuncId ->Bool} {ih:Qg ->Option YF} {n wm:Nat} {wr:Option Nat} {free:Bool} {ops:List Oper} {o:Oper} {fr:Fr} {h h1:H} {t:Option Nat} {v:Value} (ho:Yd o=true)
 (hs:Q9 X YK ih n wm wr free ops o fr h=some (t,v,h1)):t=none∧h1=h∧∀ g,Q9 X YK ih n wm wr free ops o fr g=some (none,v,g):=by
 have hin:=Zmc hs;simp only [hin] at hs ⊢;clear hin;unfold ZtM at hs ⊢;cases hok:okG ops o fr <;> rw [hok] at hs <;> simp only [Bool.not_false,Bool.not_true,Cq1,Cq0] at hs ⊢
 ·cases hs
 cases hwt:YR ops o fr <;> rw [hwt] at hs <;> simp only [Cq1,Cq0] at hs ⊢
 ·cases hs;exact⟨rfl,rfl,fun g=>rfl⟩
 ·have hap:∀ g,Eff.apply wm g .none=some g:=fun _=>rfl
  split at hs
  ·rename_i nx E ha;obtain⟨rfl,hq⟩:=ZqI ho ha;rw [hap] at hs;dsimp only at hs;cases nx with
   | val v'=>
     cases hs;refine⟨rfl,rfl,fun g=>?_⟩;rw [Zd6 h g ho,ha];dsimp only;rw [hap];rfl
   | panic v'=>cases hs
   | skip=>cases hq
   | enter f Yr=>cases hq
   | round l Yr=>cases hq
   | dfr d=>cases hq
   | Zif=>cases hq
  ·cases hs
def Zbr (X:Ctx) (YK:FuncId ->Bool) (ih:Qg ->Option YF) (n wm:Nat) (wr:Option Nat) (ops:List Oper):List Oper ->List (List Nat) ->List (List Nat) ->Fr ->H ->Option (List (Option Nat×Nat)×List (Fr×H×Value)×Fr×H)
 | [],_,_,fr,h=>some ([],[],fr,h)
 | o::l,inc::ZW,X'::Xs,fr,h=>
   match Q9 X YK ih n wm wr (Qj ops o inc) ops o fr (mask X' h) with
   | some (t,v,h1)=>match Zbr X YK ih n wm wr ops l ZW Xs (QZ fr o.dst v) (X0 X' h h1) with
     | some (tl,st,QD,h2)=>some ((t,h.size)::tl,(fr,h,v)::st,QD,h2)
     | none=>none
   | none=>none
 | _::_,_,_,_,_=>none
def Zyl (t:Option Nat) (X:List Nat):Bool:=
 match t with
 | none=>true
 | some x=>!X.contains x
def tIn (soft:Bool) (tl:List (Option Nat×Nat)) (n n1:Nat) (X:List Nat) (j:Nat):Bool:=
 match(tl.getD j (none,0)).1 with
 | none=>true
 | some x=>(Nat.blt x n && (soft || X.contains x)) || Nat.ble n1 x
def ZrN (rest:List (Option Nat×Nat)) (nm:Nat):Nat:=
 match rest with
 | (_,n)::_=>n
 | []=>nm
def ckF (soft:Bool) (ops:List Oper) (tl:List (Option Nat×Nat)) (nm:Nat):List Oper ->List (Option Nat×Nat) ->List (List Nat) ->List (List Nat) ->Bool
 | o::os,(t,n)::rest,inc::ZW,X::Xs=>(bif Yd o then true else bif inc.all (hlAt ops) then X.isEmpty else Zyl t X && inc.all (tIn soft tl n (ZrN rest nm) X)) && ckF soft ops tl nm os rest ZW Xs
 | [],_,_,_=>true
 | _,_,_,_=>false
def ZoH (a b:Value):Bool:=
 match a,b with
 | .int k n,.int k' m=>decide (k=k') && decide (n=m)
 | .bool x,.bool y=>x==y
 | .string s,.string s'=>decide (s.data.toList=s'.data.toList)
 | .pointer none,.pointer none=>true
 | .slice none 0 0,.slice none 0 0=>true
 | .map none,.map none=>true
 | .nilIface,.nilIface=>true
 | _,_=>false
theorem ZkR {a b:Value} (h:ZoH a b=true):b=a:=by
 unfold ZoH at h;split at h
 ·rw [Ba0,decide_eq_true_iff,decide_eq_true_iff] at h;rw [h.1,h.2]
 ·rw [eq_of_beq h]
 ·rw [decide_eq_true_iff] at h;rename_i s s';congr 1;cases s;cases s';congr 1;exact(Array.toList_inj.1 h).symm
 all_goals first | rfl | cases h
def Zf7:List Value ->List Value ->Bool
 | [],[]=>true
 | a::Yr,b::bs=>ZoH a b && Zf7 Yr bs
 | _,_=>false
theorem Zf6:∀ {Yr bs:List Value},Zf7 Yr bs=true ->bs=Yr
 | [],[],_=>rfl
 | a::Yr,b::bs,h=>by
   simp only [Zf7,Ba0] at h;rw [ZkR h.1,Zf6 h.2]
 | [],_::_,h=>by simp [Zf7] at h
 | _::_,[],h=>by simp [Zf7] at h
def Zrt (a b:Value):Bool:=
 match a,b with
 | .agg xs,.agg ys=>Zf7 xs.toList ys.toList
 | .tuple xs,.tuple ys=>Zf7 xs.toList ys.toList
 | a,b=>ZoH a b
theorem Zrs {a b:Value} (h:Zrt a b=true):b=a:=by
 unfold Zrt at h;split at h
 ·congr 1;exact Array.toList_inj.1 (Zf6 h)
 ·congr 1;exact Array.toList_inj.1 (Zf6 h)
 ·exact ZkR h
def KD:YN ->Bool
 | .row cs _ _=>cs.all plain
 | .map es _=>es.all fun e=>plain e.val
 | _=>false
theorem QW.ZoO {ρ ρ':Ren} {w:World} {b d:Nat} {l:Nat×Nat} {A:YN} (hp:KD A=true) (h:QW ρ w b d l A):QW ρ' w b d l A:=by
 cases A with
 | row cs own sz=>
   obtain⟨cc,el,fz,a,b,c,e⟩:=h;refine⟨cc,el,fz,a,b,c,fun k v v' x y=>?_⟩;unfold KD at hp;rw [List.all_eq_true] at hp;have hv:=hp v (List.mem_of_getElem? x);rw [VR.YZ hv (e k v v' x y)];exact VR.Z0 hv
 | map es clock=>
   obtain⟨a,es',b,c⟩:=h;refine⟨a,es',b,?_⟩;unfold KD at hp;rw [List.all_eq_true] at hp;unfold EsR at c ⊢;generalize es'.toList=l at c ⊢;clear b
   induction c with
   | nil=>exact .nil
   | cons hk hq hb hv _ ih=>
     have h1:=hp _ (List.mem_cons_self ..);refine .cons hk hq hb ?_ (ih fun x hx=>hp x (List.mem_cons_of_mem _ hx));rw [VR.YZ h1 hv];exact VR.Z0 h1
 | _=>simp [KD] at hp
def ZmS (tl:List (Option Nat×Nat)) (n:Nat) (X:List Nat) (j:Nat):Option (Nat×Nat):=
 match(tl.getD j (none,0)).1 with
 | some x=>bif Nat.blt x n && !X.contains x then some (x,j) else none
 | none=>none
def Ze8 (tl:List (Option Nat×Nat)) (n:Nat) (X inc:List Nat):List (Nat×Nat):=inc.filterMap (ZmS tl n X)
def hAt (st:List (Fr×H×Value)) (hf:H) (k:Nat):H:=
 match st[k]? with
 | some (_,h,_)=>h
 | none=>hf
def Zw5 (X:Ctx) (YK:FuncId ->Bool) (ih:Qg ->Option YF) (n wm:Nat) (wr:Option Nat) (ops:List Oper) (o:Oper) (fr:Fr) (g:H) (v:Value):Bool:=
 match Q9 X YK ih n wm wr false ops o fr g with
 | some (none,v',h1)=>Nat.beq h1.size g.size && Zrt v v'
 | _=>false
def Zi5 (X:Ctx) (YK:FuncId ->Bool) (ih:Qg ->Option YF) (n wm:Nat) (wr:Option Nat) (ops:List Oper) (Xs:List (List Nat)) (tl:List (Option Nat×Nat)) (st:List (Fr×H×Value)) (hf:H) (i x j:Nat):Bool:=
 match ops[i]?,st[i]? with
 | some o,some (fr,h,v)=>Nat.blt i j && (tl.getD i (none,0)).1.isNone && Nat.beq (hAt st hf (i + 1)).size h.size && KD (h.at x) && KD ((hAt st hf (j + 1)).at x) &&
    Zw5 X YK ih n wm wr ops o fr ((mask (Xs.getD i []) h).put x ((hAt st hf (j + 1)).at x)) v
 | _,_=>false
def ZmR (tl:List (Option Nat×Nat)) (Xs ZW:List (List Nat)) (i:Nat):Option (Nat×Nat):=
 bif(ZW.getD i []).isEmpty then none else(Ze8 tl (tl.getD i (none,0)).2 (Xs.getD i []) (ZW.getD i [])).head?
def Zrj (X:Ctx) (YK:FuncId ->Bool) (ih:Qg ->Option YF) (n wm:Nat) (wr:Option Nat) (ops:List Oper) (ZW Xs:List (List Nat)) (tl:List (Option Nat×Nat)) (st:List (Fr×H×Value)) (hf:H) (i:Nat):Bool:=
 bif(ZW.getD i []).isEmpty then true else
 match Ze8 tl (tl.getD i (none,0)).2 (Xs.getD i []) (ZW.getD i []) with
 | []=>true
 | p::q=>bif q.isEmpty then Zi5 X YK ih n wm wr ops Xs tl st hf i p.1 p.2 else false
def Jo (X:Ctx) (YK:FuncId ->Bool) (ih:Qg ->Option YF) (n wm:Nat) (soft:Bool) (ops:List Oper) (ZW Xs:List (List Nat)) (s:Fs):Option (List (Option Nat×Nat)×Bool×Fs):=
 match Zbr X YK ih n wm s.wr ops ops ZW Xs s.fr s.h with
 | some (tl,st,fr,h)=>some (tl,ckF soft ops tl h.size ops tl ZW Xs && (bif soft then(List.range ops.length).all (Zrj X YK ih n wm s.wr ops ZW Xs tl st h) else true),{s with fr:=fr,h:=h})
 | none=>none
def Zdl (tl:List (Option Nat×Nat)) (inc:List Nat):List Nat:=inc.filterMap fun j=>(tl.getD j (none,0)).1
def ZyH (o:Oper):Bool:=
 match o.op with
 | .lookup .. =>true
 | _=>false
def Zri (tl:List (Option Nat×Nat)):List Oper ->List (List Nat) ->List (List Nat)
 | o::ops,inc::ZW=>(bif ZyH o then [] else Zdl tl inc)::Zri tl ops ZW
 | _,_=>[]
def ZrG (r:Option (List (Option Nat×Nat)×Bool×Fs)) (k:Option Fs):Option Fs:=
 match r with
 | some (_,true,s)=>some s
 | _=>k
def ZtU (fr:Fr) (o:Oper):Option Nat:=
 o.op.operands.toList.findSome? fun x=>match Y5 fr x with
   | some (.slice (some a) _ _)=>some a.block
   | _=>none
def Zrr (X:Ctx) (YK:FuncId ->Bool) (ih:Qg ->Option YF) (n wm:Nat) (wr:Option Nat) (ops:List Oper):List Oper ->List (List Nat) ->Fr ->H ->Option (List (Option Nat×Nat×Bool))
 | o::l,inc::ZW,fr,h=>
   match Q9 X YK ih n wm wr (Qj ops o inc) ops o fr h with
   | some (t,v,h1)=>match Zrr X YK ih n wm wr ops l ZW (QZ fr o.dst v) h1 with
     | some tl=>some ((t,h.size,false)::tl)
     | none=>none
   | none=>match Q9 X YK ih n wm wr true ops o fr h with
     | some (_,v,h1)=>match Zrr X YK ih n wm wr ops l ZW (QZ fr o.dst v) h1 with
       | some tl=>some ((ZtU fr o,h.size,true)::tl)
       | none=>none
     | none=>none
 | _,_,_,_=>some []
def upTo:Nat ->Nat ->List Nat
 | 0,_=>[]
 | k + 1,y=>y::upTo k (y + 1)
def Zje (tl:List (Option Nat×Nat)):List (Option Nat×Nat×Bool) ->List (List Nat) ->List (List Nat)
 | (some x,n,true)::l,inc::ZW=>(Zdl tl (inc.filter fun j=>match(tl.getD j (none,0)).1 with | some y=>Nat.blt y x | none=>false) ++ upTo (n - (x + 1)) (x + 1))::Zje tl l ZW
 | _::l,inc::ZW=>Zdl tl inc::Zje tl l ZW
 | _,_=>[]
def ZpE (X:Ctx) (YK:FuncId ->Bool) (ih:Qg ->Option YF) (n wm:Nat) (ops:List Oper) (s:Fs):Option Fs:=
 match plan ops with
 | some ZW=>match Jo X YK ih n wm false ops ZW (ZW.map fun _=>[]) s with
   | some (tl,ok,s')=>bif ok then some s' else ZrG (Jo X YK ih n wm false ops ZW (ZW.map (Zdl tl)) s) (ZrG (Jo X YK ih n wm true ops ZW (Zri tl ops ZW) s) none)
   | none=>match Zrr X YK ih n wm s.wr ops ops ZW s.fr s.h with
     | some tl=>ZrG (Jo X YK ih n wm false ops ZW (Zje (tl.map fun p=>(p.1,p.2.1)) tl ZW) s) none
     | none=>none
 | none=>none
theorem Zeo {r:Option (List (Option Nat×Nat)×Bool×Fs)} {k:Option Fs} {s:Fs} (h:ZrG r k=some s):(∃ tl,r=some (tl,true,s))∨k=some s:=by
 unfold ZrG at h;split at h
 ·cases h;exact .inl ⟨_,rfl⟩
 ·exact .inr h
theorem ZcX {X:Ctx} {YK:FuncId ->Bool} {ih:Qg ->Option YF} {n wm:Nat} {ops:List Oper} {s s':Fs} (h:ZpE X YK ih n wm ops s=some s'):
 ∃ soft ZW Xs tl,plan ops=some ZW∧Jo X YK ih n wm soft ops ZW Xs s=some (tl,true,s'):=by
 unfold ZpE at h;split at h
 ·rename_i ZW hp;split at h
  ·rename_i tl ok s1 h1;cases ok with
   | true=>cases h;exact⟨_,_,_,_,hp,h1⟩
   | false=>
     rcases Zeo h with⟨tl,h⟩ | h
     ·exact⟨_,_,_,_,hp,h⟩
     ·rcases Zeo h with⟨tl,h⟩ | h
      ·exact⟨_,_,_,_,hp,h⟩
      ·cases h
  ·split at h
   ·rcases Zeo h with⟨tl,h⟩ | h
    ·exact⟨_,_,_,_,hp,h⟩
    ·cases h
   ·cases h
 ·cases h
variable {X:Ctx} {YK:FuncId ->Bool} {ih:Qg ->Option YF}
theorem Zqy {n wm:Nat} {wr:Option Nat} {ops:List Oper}:∀ (l:List Oper) (ZW Xs:List (List Nat)) (fr fr':Fr) (h h':H) (tl:List (Option Nat×Nat)) (st:List (Fr×H×Value)),Zbr X YK ih n wm wr ops l ZW Xs fr h=some (tl,st,fr',h') ->
 ∃ (hs:Nat ->H) (fs:Nat ->Fr) (vs:Nat ->Value),hs 0=h∧fs 0=fr∧hs l.length=h'∧fs l.length=fr'∧tl.length=l.length∧st.length=l.length∧(∀ k,k < l.length ->st[k]? =some (fs k,hs k,vs k))∧
   ∀ k o,l[k]? =some o ->∃ t h1,tl[k]? =some (t,(hs k).size)∧Q9 X YK ih n wm wr (Qj ops o (ZW.getD k [])) ops o (fs k) (mask (Xs.getD k []) (hs k))=some (t,vs k,h1)∧
     hs (k + 1)=X0 (Xs.getD k []) (hs k) h1∧fs (k + 1)=QZ (fs k) o.dst (vs k):=by
 intro l
 induction l with
 | nil=>
   intro ZW Xs fr fr' h h' tl st hr;simp only [Zbr,Option.some.injEq,Prod.mk.injEq] at hr;obtain⟨rfl,rfl,rfl,rfl⟩:=hr;exact⟨fun _=>h,fun _=>fr,fun _=>undef,rfl,rfl,rfl,rfl,rfl,rfl,fun k hk=>by simp at hk,fun k o e=>by simp at e⟩
 | cons o l ih'=>
   intro ZW Xs fr fr' h h' tl st hr
   match ZW,Xs,hr with
   | inc::ZW,X'::Xs,hr=>
     simp only [Zbr] at hr;split at hr
     ·rename_i t v h1 hd;split at hr
      ·rename_i tl2 st2 QD h2 hr2;cases hr;obtain⟨hs,fs,vs,e1,e2,e3,e4,e5,e7,e8,e6⟩:=ih' ZW Xs _ _ _ _ _ _ hr2;refine⟨fun k=>match k with | 0=>h | k + 1=>hs k,fun k=>match k with | 0=>fr | k + 1=>fs k,fun k=>match k with | 0=>v | k + 1=>vs k,rfl,rfl,e3,e4,by simp [e5],by simp [e7],?_,?_⟩
       ·intro k hk;cases k with
        | zero=>rfl
        | succ k=>exact e8 k (by simpa using hk)
       intro k o' ho';cases k with
       | zero=>
         simp at ho';subst ho';exact⟨t,h1,rfl,hd,e1,e2⟩
       | succ k=>
         obtain⟨t',h1',q1,q2,q3,q4⟩:=e6 k o' (by simpa using ho');exact⟨t',h1',q1,q2,q3,q4⟩
      ·cases hr
     ·cases hr
   | [],_,hr=>simp [Zbr] at hr
   | _::_,[],hr=>simp [Zbr] at hr
theorem Zmi {soft:Bool} {ops:List Oper} {tl:List (Option Nat×Nat)} {nm:Nat}:∀ (os:List Oper) (rest:List (Option Nat×Nat)) (ZW Xs:List (List Nat)),ckF soft ops tl nm os rest ZW Xs=true ->∀ k t n o,rest[k]? =some (t,n) ->os[k]? =some o ->
 Yd o=true∨(Qj ops o (ZW.getD k [])=true∧(Xs.getD k [])= [])∨(Yd o=false∧Qj ops o (ZW.getD k [])=false∧Zyl t (Xs.getD k [])=true∧∀ j ∈ ZW.getD k [],tIn soft tl n (ZrN (rest.drop (k + 1)) nm) (Xs.getD k []) j=true):=by
 intro os
 induction os with
 | nil=>intro rest ZW Xs _ k t n o _ h;simp at h
 | cons o0 os ih'=>
   intro rest ZW Xs hc k t n o hk ho
   match rest,ZW,Xs,hc with
   | (t0,n0)::rest,inc::ZW,X'::Xs,hc=>
     simp only [ckF,Ba0] at hc;cases k with
     | zero=>
       simp at hk ho;obtain⟨rfl,rfl⟩:=hk;subst ho;simp only [List.getD_cons_zero,Nat.zero_add,List.drop_succ_cons,List.drop_zero];cases hh:Yd o0 with
       | true=>exact .inl rfl
       | false=>
         right;rw [hh] at hc;simp only [Cq0] at hc;unfold Qj;rw [hh];cases he:inc.all (hlAt ops) with
         | true=>left;rw [he] at hc;exact⟨rfl,by simpa using hc.1⟩
         | false=>
           right;rw [he] at hc;simp only [Cq0,Ba0,List.all_eq_true] at hc;exact⟨rfl,rfl,hc.1.1,hc.1.2⟩
     | succ k=>
       simpa using ih' rest ZW Xs hc.2 k t n o (by simpa using hk) (by simpa using ho)
   | [],_,_,hc=>simp [ckF] at hc
   | _::_,[],_,hc=>simp [ckF] at hc
   | _::_,_::_,[],hc=>simp [ckF] at hc
theorem Kg {ps:List Nat} {i k:Nat} (h:comp ps i k=true):bit (ps.getD i 0) k=true∨bit (ps.getD k 0) i=true:=by
 unfold comp at h;cases hb:Nat.blt i k <;> rw [hb] at h
 ·exact .inl h
 ·exact .inr h
theorem Qb.same {P:Program} {wm:Nat} {rd:Option Nat} {ops:Array Oper} {o:Oper} {fr:Fr} {h h':H} {v:Value} (hst:Qb P wm rd ops o (fun _=>False) fr h v h') (hs:h'.size=h.size) (km:JL (fun _=>False) h h'):
 Qb P wm rd ops o (fun _=>False) fr h v h:=by
 intro ρ a w F K Q r ZQ hf hF hK
 have hat:∀ i,h'.at i=h.at i:=by
  intro i;by_cases hi:i < h.size
  ·exact km.keep i hi fun z=>z
  ·rw [H.KU (by omega),H.KU (by omega)]
 refine hst ρ a w F K Q r ZQ hf hF fun ρ' v' w' hv hr st=>hK ρ' v' w' hv ⟨fun i b d e=>?_,fun i b d e=>?_,fun i j b d d' e e' h1 h2=>?_⟩ st
 ·rw [← hs];exact hr.dom i b d e
 ·rw [← hat];exact hr.obj i b d e
 ·rw [← hat] at h1 h2;exact hr.inj i j b d d' e e' h1 h2
theorem Zok (HI:∀ j r,ih j=some r ->Yu X j r) (HK:∀ j r,ih j=some r ->QM j r) {n wm:Nat} {rd:Option Nat} {soft:Bool} {ops:Array Oper} {ZW Xs:List (List Nat)} {s s':Fs} {tl:List (Option Nat×Nat)}
 (hp:plan ops.toList=some ZW) (hr:Jo X YK ih n wm soft ops.toList ZW Xs s=some (tl,true,s')) (ZQ:wm <=s.h.size):
 ∃ D:Data X.P n wm rd ops,D.hs 0=s.h∧D.fs 0=s.fr∧D.hs ops.size=s'.h∧D.fs ops.size=s'.fr∧s'.ds=s.ds:=by
 unfold Jo at hr;split at hr
 ·rename_i tl' st' fr' h' hd;simp only [Option.some.injEq,Prod.mk.injEq] at hr;obtain⟨rfl,hck,rfl⟩:=hr;rw [Ba0] at hck;obtain⟨hck,ZyS⟩:=hck;obtain⟨hs,fs,vs,e1,e2,e3,e4,e5,e7,e8,e6⟩:=Zqy _ _ _ _ _ _ _ _ _ hd;unfold plan ZoM at hp;cases hall:(Q5 ZcO ops.toList 0 && Q5 (ZcA ops.toList (Xp ops.toList 0 [])) ops.toList 0 && Q5 (Zhh ops.toList) ops.toList 0) <;> rw [hall] at hp <;> simp only [Cq1,Cq0] at hp
  ·cases hp
  simp only [Option.some.injEq] at hp;rw [Ba0,Ba0] at hall;obtain⟨⟨Zbe,Zbc⟩,hdst⟩:=hall;have Zbe:=YP _ _ Zbe;have Zbc:=YP _ _ Zbc;have hdst:=YP _ _ hdst;have hget:∀ {k:Nat} {o:Oper},ops[k]? =some o ->ops.toList[k]? =some o:=fun h=>by rwa [Array.getElem?_toList]
  have hlt:∀ {k:Nat} {o:Oper},ops[k]? =some o ->k < ops.size:=fun h=>(Array.getElem?_eq_some_iff.1 h).1
  have hpos:∀ {k:Nat},k < ops.size ->∃ o,ops[k]? =some o:=fun{k} h=>⟨ops[k],by simp [h]⟩
  have hinc:∀ i,i < ops.size ->ZW.getD i []=Zgy (Xp ops.toList 0 []) ops.toList.length i:=by
   intro i hi;rw [← hp,List.getD_eq_getElem?_getD];simp [hi]
  have hspec:= (Za5 ops.toList 0 [] rfl).2
  have hsz:∀ k,k <=ops.size ->wm <= (hs k).size∧s.h.size <= (hs k).size:=by
   intro k
   induction k with
   | zero=>intro _;rw [e1];exact⟨ZQ,Nat.le_refl _⟩
   | succ k ihk=>
     intro hk;obtain⟨o,ho⟩:=hpos (show k < ops.size by omega);obtain⟨t,h1,q1,q2,q3,q4⟩:=e6 k o (hget ho);obtain⟨km,_,_⟩:=Xe HK q2 (by rw [ZJ];exact(ihk (by omega)).1);have:=km.size;rw [ZJ] at this;rw [q3,YO];have:=ihk (by omega);omega
  have htl:∀ {k:Nat} {t:Option Nat} {m:Nat},tl'[k]? =some (t,m) ->(tl'.getD k (none,0)).1=t:=by
   intro k t m h;rw [List.getD_eq_getElem?_getD,h];rfl
  have htn:∀ {k:Nat} {t:Option Nat} {m:Nat},tl'[k]? =some (t,m) ->(tl'.getD k (none,0)).2=m:=by
   intro k t m h;rw [List.getD_eq_getElem?_getD,h];rfl
  have ZCP:∀ k,k <=ops.size ->hAt st' h' k=hs k:=by
   intro k hk;unfold hAt;by_cases hk':k < ops.size
   ·rw [e8 k (by simpa using hk')]
   ·have:k=ops.toList.length:=by simp;omega
    rw [List.getElem?_eq_none (by rw [e7];omega),this,e3]
  have ZoZ:soft=true ->∀ i,i < ops.size ->(ZW.getD i []).isEmpty=false ->Ze8 tl' (tl'.getD i (none,0)).2 (Xs.getD i []) (ZW.getD i [])= []∨
   ∃ p,Ze8 tl' (tl'.getD i (none,0)).2 (Xs.getD i []) (ZW.getD i [])= [p]∧Zi5 X YK ih n wm s.wr ops.toList Xs tl' st' h' i p.1 p.2=true:=by
   intro hs1 i hi hne;rw [hs1] at ZyS;simp only [Cq1,List.all_eq_true] at ZyS;have:=ZyS i (by simpa using hi);unfold Zrj at this;rw [hne] at this;simp only [Cq0] at this;split at this
   ·rename_i e;exact .inl e
   ·rename_i p q e;cases q with
    | nil=>exact .inr ⟨p,e,this⟩
    | cons _ _=>cases this
  refine⟨{hs:=hs,fs:=fs,vs:=vs,mo:=fun k=>KZ (match ops[k]? with | some o=>Qj ops.toList o (ZW.getD k []) | none=>true) wm (tl'.getD k (none,0)).1,Xs:=fun k=>Xs.getD k [],hl:=hlAt ops.toList,soft:=fun k=>bif soft then ZmR tl' Xs ZW k else none,Pb:=fun j k=>bit ((Xp ops.toList 0 []).getD j 0) k=true,
          Zie:=by rw [e1];exact ZQ,step:= ?_,wmM:= ?_,dst:= ?_,ZbO:= ?_,ZiH:= ?_,inc:= ?_,ZvI:= ?_,Zi6:= ?_,MX:= ?_,looks:= ?_,ZtL:= ?_},e1,e2,by rw [← e3];simp,by rw [← e4];simp,rfl⟩
  ·intro k o ho;obtain⟨t,h1,q1,q2,q3,q4⟩:=e6 k o (hget ho);have hw:= (hsz k (Nat.le_of_lt (hlt ho))).1;obtain⟨km,_,_⟩:=Xe HK q2 (by rw [ZJ];exact hw);rw [htl q1,ho];exact⟨h1,Jm HI HK q2,km,q3,q4⟩
  ·intro k x hk hx;obtain⟨o,ho⟩:=hpos hk;obtain⟨t,h1,q1,q2,q3,q4⟩:=e6 k o (hget ho);have hw:= (hsz k (Nat.le_of_lt hk)).1;obtain⟨_,hm,_⟩:=Xe HK q2 (by rw [ZJ];exact hw);rw [htl q1,ho] at hx;exact hm x hx
  ·intro k o d ho hd;obtain⟨t,h1,q1,q2,q3,q4⟩:=e6 k o (hget ho);have hw:= (hsz k (Nat.le_of_lt (hlt ho))).1;obtain⟨_,_,h3⟩:=Xe HK q2 (by rw [ZJ];exact hw);exact(h3 d hd).1
  ·intro j k h;obtain⟨o,ho,e,he,hb,hk⟩:=hspec j k (Nat.zero_le _) h;exact⟨o,e,by rw [← Array.getElem?_toList];simpa using ho,by simpa using he,hb,hk⟩
  ·intro j o e ho he hb;have:=Zbe j o (hget ho);unfold ZcO at this;rw [List.all_eq_true] at this;have:=this e (by simpa using he);rw [hb] at this
   simpa [Nat.blt_eq] using this
  ·intro i j hi hj hne h1 h2 hhl x hx hxj;obtain⟨o,ho⟩:=hpos hi;obtain⟨t,h3,q1,q2,q3,q4⟩:=e6 i o (hget ho)
   have hnc:comp (Xp ops.toList 0 []) i j=false:=by
    rw [Bool.eq_false_iff];intro hc;rcases Kg hc with z | z
    ·exact h1 z
    ·exact h2 z
   have hnc':comp (Xp ops.toList 0 []) j i=false:=by
    rw [Bool.eq_false_iff];intro hc;rcases Kg hc with z | z
    ·exact h2 z
    ·exact h1 z
   have hmem:j ∈ ZW.getD i []:=by
    rw [hinc i hi];unfold Zgy;rw [List.mem_filter];have hb:Nat.beq i j=false:=by rw [Qp];simpa using hne
    exact⟨by simpa using hj,by rw [hb,hnc];rfl⟩
   have hmem':i ∈ ZW.getD j []:=by
    rw [hinc j hj];unfold Zgy;rw [List.mem_filter];have hb:Nat.beq j i=false:=by rw [Qp];simpa using Ne.symm hne
    exact⟨by simpa using hi,by rw [hb,hnc'];rfl⟩
   have hhi:Yd o=false:=by
    unfold hlAt at hhl
    rwa [hget ho] at hhl
   obtain⟨oj,hoj⟩:=hpos hj
   have hjf:Qj ops.toList oj (ZW.getD j [])=false:=by
    unfold Qj;rw [Bool.and_eq_false_iff];right;rw [Bool.eq_false_iff];intro hall;rw [List.all_eq_true] at hall;rw [hall i hmem'] at hhl;cases hhl
   rw [hoj] at hx;dsimp only at hx;unfold KZ at hx;rw [if_neg (by rw [hjf];simp)] at hx;rcases Zmi _ _ _ _ hck i t _ o q1 (hget ho) with z | ⟨z,_⟩ | ⟨_,_,_,z⟩
   ·rw [hhi] at z;cases z
   ·unfold Qj at z;rw [Ba0,List.all_eq_true] at z;have zj:=z.2 j hmem;unfold hlAt at zj;rw [hget hoj] at zj;obtain⟨tj,hj1,r1,r2,r3,r4⟩:=e6 j oj (hget hoj);have:= (Qy zj r2).1;rw [htl r1,this] at hx;cases hx
   ·have:=z j hmem;unfold tIn at this;rw [hx] at this;simp only [Bool.or_eq_true,Ba0,Nat.blt_eq,List.contains_iff_mem] at this;refine this.imp (fun h4=>⟨h4.1,?_⟩) fun h4=>?_
    ·by_cases hXx:x ∈ Xs.getD i []
     ·exact .inl hXx
     refine .inr ?_;have hs1:soft=true:=h4.2.resolve_right hXx
     have hif:(ZW.getD i []).isEmpty=false:=by
      cases hh:ZW.getD i [] with
      | nil=>rw [hh] at hmem;cases hmem
      | cons _ _=>rfl
     have hin:(x,j) ∈ Ze8 tl' (tl'.getD i (none,0)).2 (Xs.getD i []) (ZW.getD i []):=by
      unfold Ze8;rw [List.mem_filterMap];refine⟨j,hmem,?_⟩;unfold ZmS;rw [hx,htn q1]
      have:(Nat.blt x (hs i).size && !(Xs.getD i []).contains x)=true:=by
       rw [Ba0,Nat.blt_eq,Bool.not_eq_true'];exact⟨h4.1,by rw [Bool.eq_false_iff];intro z;rw [List.contains_iff_mem] at z;exact hXx z⟩
      simp only [this,Cq1]
     simp only [hs1,Cq1];unfold ZmR;rw [hif];simp only [Cq0];rcases ZoZ hs1 i hi hif with z | ⟨p,z,_⟩
     ·rw [z] at hin;cases hin
     ·rw [z] at hin ⊢;rw [List.mem_singleton] at hin;rw [← hin];rfl
    have h5:=Nl0 h4
    have hn:ZrN (tl'.drop (i + 1)) h'.size= (hs (i + 1)).size:=by
     by_cases hi1:i + 1 < ops.size
     ·obtain⟨o',ho'⟩:=hpos hi1;obtain⟨t',_,r1,_⟩:=e6 (i + 1) o' (hget ho')
      have:tl'.drop (i + 1)= (t',(hs (i + 1)).size)::tl'.drop (i + 2):=by
       obtain⟨hl,he⟩:=Li0 r1;rw [List.drop_eq_getElem_cons hl,he]
      rw [this];rfl
     ·have hlen:i + 1=ops.toList.length:=by simp;omega
      have:tl'.drop (i + 1)= []:=by rw [List.drop_eq_nil_iff,e5];omega
      rw [this,hlen,e3];rfl
    rw [hn] at h5;exact h5
  ·intro i o ho hh;have hi:=hlt ho;obtain⟨t,h3,q1,q2,q3,q4⟩:=e6 i o (hget ho);have hho:Yd o=true:=by unfold hlAt at hh;rwa [hget ho] at hh
   obtain⟨rfl,rfl,hg⟩:=Qy hho q2;have hfr:Qj ops.toList o (ZW.getD i [])=false:=by unfold Qj;rw [hho];rfl
   have hM:KZ false wm none=fun _=>False:=by
    funext x;unfold KZ;rw [if_neg (by simp)];simp
   refine⟨fun y hy=>?_,?_,fun g=>?_⟩
   ·rw [htl q1,ho] at hy;dsimp only at hy;rw [hfr,hM] at hy;exact hy
   ·rw [q3,YO,ZJ]
   ·have hst:=Jm (rd:=rd) HI HK (hg g);rw [hfr,hM] at hst;exact hst
  ·intro i o x j ho hso;have hi:=hlt ho;obtain⟨t,h3,q1,q2,q3,q4⟩:=e6 i o (hget ho);have hs1:soft=true:=by cases soft with | true=>rfl | false=>cases hso
   simp only [hs1,Cq1] at hso;unfold ZmR at hso;cases hif:(ZW.getD i []).isEmpty <;> rw [hif] at hso <;> simp only [Cq1,Cq0] at hso
   case true=>cases hso
   rcases ZoZ hs1 i hi hif with z | ⟨p,z,hone⟩
   ·rw [z] at hso;cases hso
   rw [z] at hso;cases hso;have hmem:(x,j) ∈ Ze8 tl' (tl'.getD i (none,0)).2 (Xs.getD i []) (ZW.getD i []):=by rw [z];simp
   unfold Ze8 at hmem;rw [List.mem_filterMap] at hmem;obtain⟨j',hj',hm⟩:=hmem;unfold ZmS at hm;split at hm
   case h_2=>cases hm
   rename_i x' hx';cases hbb:(Nat.blt x' (tl'.getD i (none,0)).2 && !(Xs.getD i []).contains x') <;> rw [hbb] at hm <;> simp only [Cq1,Cq0] at hm
   ·cases hm
   cases hm;rw [Ba0,Nat.blt_eq,htn q1] at hbb
   have hjm:j < ops.size:=by
    rcases Nat.lt_or_ge j ops.size with z | z
    ·exact z
    ·rw [List.getD_eq_getElem?_getD,List.getElem?_eq_none (by rw [e5];simpa using z)] at hx';cases hx'
   unfold Zi5 at hone;rw [hget ho,e8 i (by simpa using hi)] at hone;simp only [Ba0,Nat.blt_eq,ZCP (i + 1) (by omega),ZCP (j + 1) (by omega)] at hone;obtain⟨⟨⟨⟨⟨o1,o2⟩,o3⟩,o4⟩,o5⟩,o6⟩:=hone;have ht:t=none:=by rw [htl q1] at o2;simpa using o2
   subst ht
   have hff:Qj ops.toList o (ZW.getD i [])=false:=by
    rw [Bool.eq_false_iff];intro hf;unfold Qj at hf;rw [Ba0,List.all_eq_true] at hf;have zj:=hf.2 j hj';obtain⟨oj,hoj⟩:=hpos hjm;unfold hlAt at zj;rw [hget hoj] at zj;obtain⟨tj,hj1,r1,r2,r3,r4⟩:=e6 j oj (hget hoj);rw [htl r1,(Qy zj r2).1] at hx';cases hx'
   rw [hff] at q2
   have hM:KZ false wm none=fun _=>False:=by
    funext x;unfold KZ;rw [if_neg (by simp)];simp
   have hw:= (hsz i (Nat.le_of_lt hi)).1;refine⟨o1,hjm,hbb.1,fun y hy=>?_,Nb0 o3,fun _ _ _ _ _ _ h=>h.ZoO o4,fun _ _ _ _ _ _ h=>h.ZoO o5,?_,?_⟩
   ·rw [htl q1,ho] at hy;dsimp only at hy;rw [hff,hM] at hy;exact hy
   ·have km:= (Xe HK q2 (by rw [ZJ];exact hw)).1;have hst:=Jm (rd:=rd) HI HK q2;rw [hM] at km hst
    have hsz1:h3.size= (mask (Xs.getD i []) (hs i)).size:=by
     have:=Nb0 o3;rw [q3,YO] at this;rw [ZJ];exact this
    exact hst.same hsz1 km
   ·unfold Zw5 at o6;split at o6
    case h_2=>cases o6
    rename_i v' h4 hd4;rw [Ba0] at o6;obtain⟨p1,p2⟩:=o6;rw [Zrs p2] at hd4;have km:= (Xe HK hd4 (by rw [H.size_put,ZJ];exact hw)).1;have hst:=Jm (rd:=rd) HI HK hd4;rw [hM] at km hst;exact hst.same (Nb0 p1) km
  ·intro i x hi hx hxi;obtain⟨o,ho⟩:=hpos hi;obtain⟨t,h3,q1,q2,q3,q4⟩:=e6 i o (hget ho);rw [ho] at hx;dsimp only at hx;rcases Zmi _ _ _ _ hck i t _ o q1 (hget ho) with z | ⟨z1,z2⟩ | ⟨_,z1,z2,_⟩
   ·have hfr:Qj ops.toList o (ZW.getD i [])=false:=by unfold Qj;rw [z];rfl
    rw [hfr] at hx;unfold KZ at hx;rw [if_neg (by simp),htl q1,(Qy z q2).1] at hx;cases hx
   ·rw [z2];simp
   ·unfold KZ at hx;rw [if_neg (by rw [z1];simp),htl q1] at hx;subst hx;unfold Zyl at z2
    simpa using z2
  ·intro i o t ho ht k o' ho' hd;have:=Zbc i o (hget ho);unfold ZcA at this;rw [List.all_eq_true] at this;have:=YP _ _ (this t ht) k o' (hget ho');rw [ZbV.2 hd] at this;simp only [Cq1,Bool.or_eq_true,Nat.zero_add] at this;rcases this with z | z
   ·exact .inl (Nb0 z)
   ·exact .inr (Kg z)
  ·intro i j o o' t ho ho' hd hd';have:=hdst i o (hget ho);unfold Zhh at this;rw [hd] at this;have:=YP _ _ this j o' (hget ho');rw [ZbV.2 hd'] at this;simp only [Cq1,Nat.zero_add] at this;exact(Nb0 this).symm
 ·cases hr
theorem Zh1 (HK:∀ j r,ih j=some r ->QM j r) {n wm:Nat} {soft:Bool} {ops:List Oper} {ZW Xs:List (List Nat)} {s s':Fs} {tl:List (Option Nat×Nat)} {ok:Bool}
 (hr:Jo X YK ih n wm soft ops ZW Xs s=some (tl,ok,s')) (ZQ:wm <=s.h.size):Yp wm s.h s'.h:=by
 have main:∀ (wr:Option Nat) (l:List Oper) (ZW Xs:List (List Nat)) (fr fr':Fr) (h h':H) (tl:List (Option Nat×Nat)) (st:List (Fr×H×Value)),Zbr X YK ih n wm wr ops l ZW Xs fr h=some (tl,st,fr',h') ->wm <=h.size ->Yp wm h h':=by
  intro wr l
  induction l with
  | nil=>intro ZW Xs fr fr' h h' tl st hr _;simp only [Zbr,Option.some.injEq,Prod.mk.injEq] at hr;obtain⟨_,_,_,rfl⟩:=hr;exact Yp.refl _ _
  | cons o l ihl=>
    intro ZW Xs fr fr' h h' tl st hr hw
    match ZW,Xs,hr with
    | inc::ZW,X'::Xs,hr=>
      simp only [Zbr] at hr;split at hr
      ·rename_i t v h1 hd;split at hr
       ·rename_i tl2 st2 QD h2 hr2;cases hr;obtain⟨km,hm,_⟩:=Xe HK hd (by rw [ZJ];exact hw);have hsz:=km.size;rw [ZJ] at hsz
        have k1:Yp wm h (X0 X' h h1):=by
         refine⟨by rw [YO];exact hsz,fun i hi=>?_,fun i hi ho=>?_,fun i hi ho=>?_⟩
         ·rw [XA _ _ _ hsz];by_cases hX:i ∈ X'∧i < h.size
          ·rw [if_pos hX]
          ·rw [if_neg hX,km.keep i (by rw [ZJ];omega) (fun z=>by have:=hm i z;omega),Xd,if_neg fun z=>hX ⟨z,by omega⟩]
         ·rw [XA _ _ _ hsz] at ho;by_cases hX:i ∈ X'∧i < h.size
          ·rwa [if_pos hX] at ho
          ·rw [if_neg hX] at ho;have:=km.own i (by rw [ZJ];exact hi) ho;rw [Xd,if_neg fun z=>hX ⟨z,hi⟩] at this;exact this
         ·rw [XA _ _ _ hsz] at ho;by_cases hX:i ∈ X'∧i < h.size
          ·rwa [if_pos hX] at ho
          ·rw [if_neg hX] at ho;have:=km.live i (by rw [ZJ];exact hi) ho;rw [Xd,if_neg fun z=>hX ⟨z,hi⟩] at this;exact this
        exact k1.next hw (ihl _ _ _ _ _ _ _ _ hr2)
       ·cases hr
      ·cases hr
    | [],_,hr=>simp [Zbr] at hr
    | _::_,[],hr=>simp [Zbr] at hr
 unfold Jo at hr;split at hr
 ·rename_i tl' st' fr' h' hd;simp only [Option.some.injEq,Prod.mk.injEq] at hr;obtain⟨_,_,rfl⟩:=hr;exact main _ _ _ _ _ _ _ _ _ _ hd ZQ
 ·cases hr
inductive Ul where
 | lst (l:List Nat)
 | all (n:Nat) (R:List Nat)
def Ul.get (wm:Nat):Ul ->List Nat
 | .lst l=>l
 | .all n R=>(upTo (n - wm) wm).filter fun x=>!R.contains x
theorem Zr6:∀ (k y x:Nat),x ∈ upTo k y↔y <=x∧x < y + k:=by
 intro k
 induction k with
 | zero=>
   intro y x
   constructor
   ·intro h;cases h
   ·intro h;omega
 | succ k ih=>intro y x;rw [upTo,List.mem_cons,ih];omega
theorem Ul.Zve {wm n x:Nat} {R:List Nat}:x ∈ (Ul.all n R).get wm↔(wm <=x∧x < n)∧x ∉ R:=by
 show x ∈ (upTo (n - wm) wm).filter _↔_;rw [List.mem_filter,Zr6]
 constructor
 ·rintro⟨h1,h2⟩;refine⟨by omega,fun z=>?_⟩;rw [List.contains_iff_mem.2 z] at h2;cases h2
 ·rintro⟨h1,h2⟩;refine⟨by omega,?_⟩;rw [Bool.not_eq_true',Bool.eq_false_iff];exact fun z=>h2 (List.contains_iff_mem.1 z)
def Ww (w:Bool) (o:Oper):Bool:=w && !Yd o
def UM (X:Ctx) (YK:FuncId ->Bool) (ih:Qg ->Option YF) (n wm:Nat) (wr:Option Nat) (ops:List Oper):List Oper ->List (List Nat) ->List (Ul×Bool) ->Fr ->H ->Option (List (Option Nat×Nat)×Fr×H)
 | [],_,_,fr,h=>some ([],fr,h)
 | o::l,inc::ZW,sp::Qu,fr,h=>
   match Q9 X YK ih n wm wr (Qj ops o inc || Ww sp.2 o) ops o fr (mask (sp.1.get wm) h) with
   | some (t,v,h1)=>match UM X YK ih n wm wr ops l ZW Qu (QZ fr o.dst v) (X0 (sp.1.get wm) h h1) with
     | some (tl,QD,h2)=>some ((t,h.size)::tl,QD,h2)
     | none=>none
   | none=>none
 | _::_,_,_,_,_=>none
def xAt (Qu:List (Ul×Bool)) (j:Nat):Ul:= (Qu.getD j (.lst [],false)).1
def wAt (ops:List Oper) (Qu:List (Ul×Bool)) (j:Nat):Bool:=
 match ops[j]? with
 | some o=>Ww (Qu.getD j (.lst [],false)).2 o
 | none=>false
def eqL:List Nat ->List Nat ->Bool
 | [],[]=>true
 | a::l,b::m=>Nat.beq a b && eqL l m
 | _,_=>false
theorem ZtJ:∀ {l m:List Nat},eqL l m=true ->l=m
 | [],[],_=>rfl
 | a::l,b::m,h=>by
   unfold eqL at h;rw [Ba0] at h;rw [Nb0 h.1,ZtJ h.2]
 | [],_::_,h=>by cases h
 | _::_,[],h=>by cases h
def nAt (tl:List (Option Nat×Nat)) (nm k:Nat):Nat:=
 match tl[k]? with
 | some p=>p.2
 | none=>nm
def ckJ (wm:Nat) (ops:List Oper) (Qu:List (Ul×Bool)) (tl:List (Option Nat×Nat)) (nm i j:Nat):Bool:=
 bif wAt ops Qu j then(match xAt Qu i,xAt Qu j with
  | .all n R,.lst R'=>Nat.beq n (nAt tl nm j) && eqL R R' && Nat.beq (nAt tl nm (i + 1)) (nAt tl nm i)
  | _,_=>false)
 else match(tl.getD j (none,0)).1 with
  | none=>true
  | some x=>(Nat.blt x (nAt tl nm i) && ((xAt Qu i).get wm).contains x) || Nat.ble (nAt tl nm (i + 1)) x
def ckI (wm:Nat) (ops:List Oper) (ZW:List (List Nat)) (Qu:List (Ul×Bool)) (tl:List (Option Nat×Nat)) (nm i:Nat):Bool:=
 match ops[i]? with
 | some o=>Yd o || Qj ops o (ZW.getD i []) || (bif wAt ops Qu i then(ZW.getD i []).all (fun j=>hlAt ops j || (!wAt ops Qu j && (tl.getD j (none,0)).1.isNone)) else(ZW.getD i []).all (ckJ wm ops Qu tl nm i))
 | none=>false
def ZmV (X:Ctx) (YK:FuncId ->Bool) (ih:Qg ->Option YF) (n wm:Nat) (wr:Option Nat) (ops:List Oper):List Oper ->List (List Nat) ->Fr ->H ->Option (List (Option Nat×Nat×Bool)×Fr)
 | o::l,inc::ZW,fr,h=>
   match Q9 X YK ih n wm wr (Qj ops o inc) ops o fr h with
   | some (t,v,h1)=>match ZmV X YK ih n wm wr ops l ZW (QZ fr o.dst v) h1 with
     | some (tl,QD)=>some ((t,h.size,false)::tl,QD)
     | none=>none
   | none=>match Q9 X YK ih n wm wr true ops o fr h with
     | some (_,v,h1)=>match ZmV X YK ih n wm wr ops l ZW (QZ fr o.dst v) h1 with
       | some (tl,QD)=>some ((none,h.size,true)::tl,QD)
       | none=>none
     | none=>none
 | _,_,fr,_=>some ([],fr)
def Zww (fr:Fr) (x:Operand):Option Nat:=
 match Y5 fr x with
 | some (.pointer (some a))=>some a.block
 | some (.slice (some a) _ _)=>some a.block
 | some (.map (some b))=>some b
 | _=>none
def Zxm (ops:List Oper) (fr:Fr) (inc:List Nat):List Nat:=
 inc.flatMap fun j=>match ops[j]? with
  | some o=>bif Yd o then [] else o.op.operands.toList.filterMap (Zww fr)
  | none=>[]
def specs (ops:List Oper) (tl:List (Option Nat×Nat×Bool)) (fr:Fr) (ZW:List (List Nat)):List Oper ->List (List Nat) ->List (Option Nat×Nat×Bool) ->List (Ul×Bool)
 | o::l,inc::is,(_,_,w)::tr=>(bif w then(.lst (Zxm ops fr inc),true) else match inc.find? fun j=>(tl.getD j (none,0,false)).2.2 with
    | some j=>bif Yd o then(.lst [],false) else(.all (tl.getD j (none,0,false)).2.1 (Zxm ops fr (ZW.getD j [])),false)
    | none=>(.lst (Zdl (tl.map fun p=>(p.1,p.2.1)) inc),false))::specs ops tl fr ZW l is tr
 | _,_,_=>[]
def Zfq (X:Ctx) (YK:FuncId ->Bool) (ih:Qg ->Option YF) (n wm:Nat) (ops:List Oper) (ZW:List (List Nat)) (Qu:List (Ul×Bool)) (s:Fs):Option Fs:=
 match UM X YK ih n wm s.wr ops ops ZW Qu s.fr s.h with
 | some (tl,fr,h)=>bif(List.range ops.length).all (ckI wm ops ZW Qu tl h.size) then some {s with fr:=fr,h:=h} else none
 | none=>none
def Zks (X:Ctx) (YK:FuncId ->Bool) (ih:Qg ->Option YF) (n wm:Nat) (ops:List Oper) (s:Fs):Option Fs:=
 match plan ops with
 | some ZW=>match ZmV X YK ih n wm s.wr ops ops ZW s.fr s.h with
   | some (tl,fr)=>Zfq X YK ih n wm ops ZW (specs ops tl fr ZW ops ZW tl) s
   | none=>none
 | none=>none
def Ze2 (X:Ctx) (YK:FuncId ->Bool) (ih:Qg ->Option YF) (n wm:Nat) (ops:List Oper) (s:Fs):Option Fs:=
 match ZpE X YK ih n wm ops s with
 | some s'=>some s'
 | none=>Zks X YK ih n wm ops s
theorem ZbD {n wm:Nat} {ops:List Oper} {s s':Fs} (h:Zks X YK ih n wm ops s=some s'):∃ ZW Qu,plan ops=some ZW∧Zfq X YK ih n wm ops ZW Qu s=some s':=by
 unfold Zks at h;split at h
 ·rename_i ZW hp;split at h
  ·exact⟨ZW,_,hp,h⟩
  ·cases h
 ·cases h
theorem ZnV {n wm:Nat} {wr:Option Nat} {ops:List Oper}:∀ (l:List Oper) (ZW:List (List Nat)) (Qu:List (Ul×Bool)) (fr fr':Fr) (h h':H) (tl:List (Option Nat×Nat)),UM X YK ih n wm wr ops l ZW Qu fr h=some (tl,fr',h') ->
 ∃ (hs:Nat ->H) (fs:Nat ->Fr) (vs:Nat ->Value),hs 0=h∧fs 0=fr∧hs l.length=h'∧fs l.length=fr'∧tl.length=l.length∧
   ∀ k o,l[k]? =some o ->∃ t h1,tl[k]? =some (t,(hs k).size)∧Q9 X YK ih n wm wr (Qj ops o (ZW.getD k []) || Ww (Qu.getD k (.lst [],false)).2 o) ops o (fs k) (mask ((xAt Qu k).get wm) (hs k))=some (t,vs k,h1)∧
     hs (k + 1)=X0 ((xAt Qu k).get wm) (hs k) h1∧fs (k + 1)=QZ (fs k) o.dst (vs k):=by
 intro l
 induction l with
 | nil=>
   intro ZW Qu fr fr' h h' tl hr;simp only [UM,Option.some.injEq,Prod.mk.injEq] at hr;obtain⟨rfl,rfl,rfl⟩:=hr;exact⟨fun _=>h,fun _=>fr,fun _=>undef,rfl,rfl,rfl,rfl,rfl,fun k o e=>by simp at e⟩
 | cons o l ih'=>
   intro ZW Qu fr fr' h h' tl hr
   match ZW,Qu,hr with
   | inc::ZW,sp::Qu,hr=>
     simp only [UM] at hr;split at hr
     ·rename_i t v h1 hd;split at hr
      ·rename_i tl2 QD h2 hr2;cases hr;obtain⟨hs,fs,vs,e1,e2,e3,e4,e5,e6⟩:=ih' ZW Qu _ _ _ _ _ hr2;refine⟨fun k=>match k with | 0=>h | k + 1=>hs k,fun k=>match k with | 0=>fr | k + 1=>fs k,fun k=>match k with | 0=>v | k + 1=>vs k,rfl,rfl,e3,e4,by simp [e5],?_⟩;intro k o' ho';cases k with
       | zero=>
         simp at ho';subst ho';exact⟨t,h1,rfl,hd,e1,e2⟩
       | succ k=>
         obtain⟨t',h1',q1,q2,q3,q4⟩:=e6 k o' (by simpa using ho');exact⟨t',h1',q1,q2,q3,q4⟩
      ·cases hr
     ·cases hr
   | [],_,hr=>simp [UM] at hr
   | _::_,[],hr=>simp [UM] at hr
theorem Zp9 {a:YN} (h:¬ a.live=true):a= .dead:=by cases a <;> first | rfl | exact absurd rfl h
theorem Qb.hide {P:Program} {wm:Nat} {rd:Option Nat} {ops:Array Oper} {o:Oper} {M:Nat ->Prop} {fr:Fr} {X':List Nat} {h h':H} {v:Value} (hst:Qb P wm rd ops o M fr (mask X' h) v h'):
 Qb P wm rd ops o (fun x=>M x∧x ∉ X') fr (mask X' h) v h':=by
 intro ρ a w F K Q r ZQ hf hF hK
 have hown:∀ i,((mask X' h).at i).own=true ->i ∉ X':=fun i ho hX=>by
  rw [Xd,if_pos hX] at ho;cases ho
 exact hst ρ a w F K Q r ZQ hf hF fun ρ' v' w' hv hr st=>hK ρ' v' w' hv hr
  ⟨st.ext,st.os,st.tape,st.output,st.Y9,fun b hb hno=>st.frame b hb fun i d hi hr' ho=>hno i d ⟨hi,hown i ho⟩ hr' ho,
   fun i b d e e'=>let⟨x,y⟩:=st.JF i b d e e';⟨x,y.imp id fun⟨j,d',p,q,r'⟩=>⟨j,d',⟨p,hown j r'⟩,q,r'⟩⟩⟩
theorem JL.hide {M:Nat ->Prop} {X':List Nat} {h h':H} (km:JL M (mask X' h) h'):JL (fun x=>M x∧x ∉ X') (mask X' h) h':=
 ⟨km.size,fun i hi hn=>by
   by_cases hX:i ∈ X'
   ·have hd:(mask X' h).at i= .dead:=by rw [Xd,if_pos hX]
    rw [hd];refine Zp9 fun hl=>?_
    have:=km.live i hi hl;rw [hd] at this;cases this
   ·exact km.keep i hi fun hm=>hn ⟨hm,hX⟩,km.own,km.live⟩
theorem ZmD (HI:∀ j r,ih j=some r ->Yu X j r) (HK:∀ j r,ih j=some r ->QM j r) {n wm:Nat} {rd:Option Nat} {ops:Array Oper} {ZW:List (List Nat)} {Qu:List (Ul×Bool)} {s s':Fs}
 (hp:plan ops.toList=some ZW) (hr:Zfq X YK ih n wm ops.toList ZW Qu s=some s') (ZQ:wm <=s.h.size):
 ∃ D:Data X.P n wm rd ops,D.hs 0=s.h∧D.fs 0=s.fr∧D.hs ops.size=s'.h∧D.fs ops.size=s'.fr∧s'.ds=s.ds:=by
 unfold Zfq at hr;split at hr
 ·rename_i tl' fr' h' hd;cases hck:(List.range ops.toList.length).all (ckI wm ops.toList ZW Qu tl' h'.size) <;> rw [hck] at hr <;> simp only [Cq1,Cq0] at hr
  ·cases hr
  cases hr;rw [List.all_eq_true] at hck;obtain⟨hs,fs,vs,e1,e2,e3,e4,e5,e6⟩:=ZnV _ _ _ _ _ _ _ _ hd;unfold plan ZoM at hp;cases hall:(Q5 ZcO ops.toList 0 && Q5 (ZcA ops.toList (Xp ops.toList 0 [])) ops.toList 0 && Q5 (Zhh ops.toList) ops.toList 0) <;> rw [hall] at hp <;> simp only [Cq1,Cq0] at hp
  ·cases hp
  simp only [Option.some.injEq] at hp;rw [Ba0,Ba0] at hall;obtain⟨⟨Zbe,Zbc⟩,hdst⟩:=hall;have Zbe:=YP _ _ Zbe;have Zbc:=YP _ _ Zbc;have hdst:=YP _ _ hdst;have hget:∀ {k:Nat} {o:Oper},ops[k]? =some o ->ops.toList[k]? =some o:=fun h=>by rwa [Array.getElem?_toList]
  have hlt:∀ {k:Nat} {o:Oper},ops[k]? =some o ->k < ops.size:=fun h=>(Array.getElem?_eq_some_iff.1 h).1
  have hpos:∀ {k:Nat},k < ops.size ->∃ o,ops[k]? =some o:=fun{k} h=>⟨ops[k],by simp [h]⟩
  have hinc:∀ i,i < ops.size ->ZW.getD i []=Zgy (Xp ops.toList 0 []) ops.toList.length i:=by
   intro i hi;rw [← hp,List.getD_eq_getElem?_getD];simp [hi]
  have hspec:= (Za5 ops.toList 0 [] rfl).2
  have hsz:∀ k,k <=ops.size ->wm <= (hs k).size∧s.h.size <= (hs k).size:=by
   intro k
   induction k with
   | zero=>intro _;rw [e1];exact⟨ZQ,Nat.le_refl _⟩
   | succ k ihk=>
     intro hk;obtain⟨o,ho⟩:=hpos (show k < ops.size by omega);obtain⟨t,h1,q1,q2,q3,q4⟩:=e6 k o (hget ho);obtain⟨km,_,_⟩:=Xe HK q2 (by rw [ZJ];exact(ihk (by omega)).1);have:=km.size;rw [ZJ] at this;rw [q3,YO];have:=ihk (by omega);omega
  have htl:∀ {k:Nat} {t:Option Nat} {m:Nat},tl'[k]? =some (t,m) ->(tl'.getD k (none,0)).1=t:=by
   intro k t m h;rw [List.getD_eq_getElem?_getD,h];rfl
  have ZsD:∀ k,k <=ops.size ->nAt tl' h'.size k= (hs k).size:=by
   intro k hk;unfold nAt;by_cases hk':k < ops.size
   ·obtain⟨o,ho⟩:=hpos hk';obtain⟨t,_,q1,_⟩:=e6 k o (hget ho);rw [q1]
   ·have:k=ops.toList.length:=by simp;omega
    rw [List.getElem?_eq_none (by rw [e5];omega),this,e3]
  have hwA:∀ {k:Nat} {o:Oper},ops[k]? =some o ->wAt ops.toList Qu k=Ww (Qu.getD k (.lst [],false)).2 o:=fun{k o} ho=>by
   unfold wAt;rw [hget ho]
  have hless:∀ {k:Nat} {o:Oper} {x:Nat},ops[k]? =some o ->Yd o=true ->¬ KZ (Qj ops.toList o (ZW.getD k []) || Ww (Qu.getD k (.lst [],false)).2 o) wm (tl'.getD k (none,0)).1 x:=by
   intro k o x ho hh hx;obtain⟨t,h1,q1,q2,q3,q4⟩:=e6 k o (hget ho)
   have hf:(Qj ops.toList o (ZW.getD k []) || Ww (Qu.getD k (.lst [],false)).2 o)=false:=by
    unfold Qj Ww;rw [hh];simp
   rw [hf] at hx;unfold KZ at hx;rw [if_neg (by simp),htl q1,(Qy hh q2).1] at hx;cases hx
  refine⟨{hs:=hs,fs:=fs,vs:=vs,mo:=fun k x=>KZ (match ops[k]? with | some o=>(Qj ops.toList o (ZW.getD k []) || Ww (Qu.getD k (.lst [],false)).2 o) | none=>true) wm (tl'.getD k (none,0)).1 x∧x ∉ (xAt Qu k).get wm,Xs:=fun k=>(xAt Qu k).get wm,hl:=hlAt ops.toList,soft:=fun k=>none,Pb:=fun j k=>bit ((Xp ops.toList 0 []).getD j 0) k=true,
          Zie:=by rw [e1];exact ZQ,step:= ?_,wmM:= ?_,dst:= ?_,ZbO:= ?_,ZiH:= ?_,inc:= ?_,ZvI:= ?_,Zi6:= ?_,MX:= ?_,looks:= ?_,ZtL:= ?_},e1,e2,by rw [← e3];simp,by rw [← e4];simp,rfl⟩
  ·intro k o ho;obtain⟨t,h1,q1,q2,q3,q4⟩:=e6 k o (hget ho);have hw:= (hsz k (Nat.le_of_lt (hlt ho))).1;obtain⟨km,_,_⟩:=Xe HK q2 (by rw [ZJ];exact hw);rw [htl q1,ho];exact⟨h1,(Jm HI HK q2).hide,km.hide,q3,q4⟩
  ·intro k x hk hx;obtain⟨o,ho⟩:=hpos hk;obtain⟨t,h1,q1,q2,q3,q4⟩:=e6 k o (hget ho);have hw:= (hsz k (Nat.le_of_lt hk)).1;obtain⟨_,hm,_⟩:=Xe HK q2 (by rw [ZJ];exact hw);rw [htl q1,ho] at hx;exact hm x hx.1
  ·intro k o d ho hd;obtain⟨t,h1,q1,q2,q3,q4⟩:=e6 k o (hget ho);have hw:= (hsz k (Nat.le_of_lt (hlt ho))).1;obtain⟨_,_,h3⟩:=Xe HK q2 (by rw [ZJ];exact hw);exact(h3 d hd).1
  ·intro j k h;obtain⟨o,ho,e,he,hb,hk⟩:=hspec j k (Nat.zero_le _) h;exact⟨o,e,by rw [← Array.getElem?_toList];simpa using ho,by simpa using he,hb,hk⟩
  ·intro j o e ho he hb;have:=Zbe j o (hget ho);unfold ZcO at this;rw [List.all_eq_true] at this;have:=this e (by simpa using he);rw [hb] at this
   simpa [Nat.blt_eq] using this
  ·intro i j hi hj hne h1 h2 hhl x hx hxj;obtain⟨o,ho⟩:=hpos hi;obtain⟨t,h3,q1,q2,q3,q4⟩:=e6 i o (hget ho)
   have hnc:comp (Xp ops.toList 0 []) i j=false:=by
    rw [Bool.eq_false_iff];intro hc;rcases Kg hc with z | z
    ·exact h1 z
    ·exact h2 z
   have hnc':comp (Xp ops.toList 0 []) j i=false:=by
    rw [Bool.eq_false_iff];intro hc;rcases Kg hc with z | z
    ·exact h2 z
    ·exact h1 z
   have hmem:j ∈ ZW.getD i []:=by
    rw [hinc i hi];unfold Zgy;rw [List.mem_filter];have hb:Nat.beq i j=false:=by rw [Qp];simpa using hne
    exact⟨by simpa using hj,by rw [hb,hnc];rfl⟩
   have hmem':i ∈ ZW.getD j []:=by
    rw [hinc j hj];unfold Zgy;rw [List.mem_filter];have hb:Nat.beq j i=false:=by rw [Qp];simpa using Ne.symm hne
    exact⟨by simpa using hi,by rw [hb,hnc'];rfl⟩
   have hhi:Yd o=false:=by
    unfold hlAt at hhl
    rwa [hget ho] at hhl
   obtain⟨oj,hoj⟩:=hpos hj
   have hjf:Qj ops.toList oj (ZW.getD j [])=false:=by
    unfold Qj;rw [Bool.and_eq_false_iff];right;rw [Bool.eq_false_iff];intro hall;rw [List.all_eq_true] at hall;rw [hall i hmem'] at hhl;cases hhl
   rw [hoj] at hx;dsimp only at hx;obtain⟨hx,hxX⟩:=hx;have hck:=hck i (by simpa using hi);unfold ckI at hck;rw [hget ho] at hck;simp only [hhi,Bool.false_or,Bool.or_eq_true] at hck;rcases hck with hck | hck
   ·-- nothing beside it looks at the heap
    unfold Qj at hck;rw [Ba0,List.all_eq_true] at hck;have zj:=hck.2 j hmem;unfold hlAt at zj;rw [hget hoj] at zj;exact absurd hx (hless hoj zj)
   ·cases hwi:wAt ops.toList Qu i <;> rw [hwi] at hck <;> simp only [Cq1,Cq0,List.all_eq_true] at hck
    ·have zj:=hck j hmem;unfold ckJ at zj;rw [hwA hoj] at zj;cases hwj:Ww (Qu.getD j (.lst [],false)).2 oj <;> rw [hwj] at zj hx <;> simp only [Cq1,Cq0] at zj
     ·rw [hjf] at hx;unfold KZ at hx;rw [if_neg (by simp)] at hx;rw [hx] at zj;simp only [Bool.or_eq_true,Ba0,Nat.blt_eq,List.contains_iff_mem,ZsD i (by omega),ZsD (i + 1) (by omega)] at zj;exact zj.imp (fun z=>⟨z.1,.inl z.2⟩) Nl0
     ·split at zj
      ·rename_i m R R' hxi ZGr;rw [Ba0,Ba0] at zj;obtain⟨⟨z1,z2⟩,z3⟩:=zj;have z1:=Nb0 z1;have z2:=ZtJ z2;have z3:=Nb0 z3;rw [ZsD j (by omega)] at z1;rw [ZsD i (by omega),ZsD (i + 1) (by omega)] at z3
       have hwx:wm <=x:=by
        rw [hjf] at hx;unfold KZ at hx
        rwa [if_pos (by simp)] at hx
       rw [ZGr] at hxX;have hxR:x ∉ R:=by rw [z2];exact hxX
       rcases Nat.lt_or_ge x (hs i).size with q | q
       ·left;refine⟨q,.inl ?_⟩;show x ∈ (xAt Qu i).get wm;rw [hxi,Ul.Zve];exact⟨⟨hwx,by rw [z1];exact hxj⟩,hxR⟩
       ·right;rw [z3];exact q
      ·cases zj
    ·have zj:=hck j hmem;rw [Bool.or_eq_true] at zj;rcases zj with zj | zj
     ·unfold hlAt at zj;rw [hget hoj] at zj;exact absurd hx (hless hoj zj)
     ·rw [Ba0,hwA hoj,Bool.not_eq_true'] at zj;rw [hjf,zj.1] at hx;unfold KZ at hx;rw [if_neg (by simp)] at hx;rw [hx] at zj;cases zj.2
  ·intro i o ho hh;have hi:=hlt ho;obtain⟨t,h3,q1,q2,q3,q4⟩:=e6 i o (hget ho);have hho:Yd o=true:=by unfold hlAt at hh;rwa [hget ho] at hh
   obtain⟨rfl,rfl,hg⟩:=Qy hho q2;have hfr:(Qj ops.toList o (ZW.getD i []) || Ww (Qu.getD i (.lst [],false)).2 o)=false:=by unfold Qj Ww;rw [hho];simp
   have hM:KZ false wm none=fun _=>False:=by
    funext x;unfold KZ;rw [if_neg (by simp)];simp
   refine⟨fun y hy=>?_,?_,fun g=>?_⟩
   ·rw [htl q1,ho] at hy;dsimp only at hy;rw [hfr,hM] at hy;exact hy.1
   ·rw [q3,YO,ZJ]
   ·have hst:=Jm (rd:=rd) HI HK (hg g);rw [hfr,hM] at hst;exact hst
  ·intro i o x j ho hso;cases hso
  ·intro i x hi hx hxi;exact hx.2
  ·intro i o t ho ht k o' ho' hd;have:=Zbc i o (hget ho);unfold ZcA at this;rw [List.all_eq_true] at this;have:=YP _ _ (this t ht) k o' (hget ho');rw [ZbV.2 hd] at this;simp only [Cq1,Bool.or_eq_true,Nat.zero_add] at this;rcases this with z | z
   ·exact .inl (Nb0 z)
   ·exact .inr (Kg z)
  ·intro i j o o' t ho ho' hd hd';have:=hdst i o (hget ho);unfold Zhh at this;rw [hd] at this;have:=YP _ _ this j o' (hget ho');rw [ZbV.2 hd'] at this;simp only [Cq1,Nat.zero_add] at this;exact(Nb0 this).symm
 ·cases hr
theorem ZnW (HK:∀ j r,ih j=some r ->QM j r) {n wm:Nat} {ops:List Oper} {ZW:List (List Nat)} {Qu:List (Ul×Bool)} {s s':Fs}
 (hr:Zfq X YK ih n wm ops ZW Qu s=some s') (ZQ:wm <=s.h.size):Yp wm s.h s'.h:=by
 have main:∀ (wr:Option Nat) (l:List Oper) (ZW:List (List Nat)) (Qu:List (Ul×Bool)) (fr fr':Fr) (h h':H) (tl:List (Option Nat×Nat)),UM X YK ih n wm wr ops l ZW Qu fr h=some (tl,fr',h') ->wm <=h.size ->Yp wm h h':=by
  intro wr l
  induction l with
  | nil=>intro ZW Qu fr fr' h h' tl hr _;simp only [UM,Option.some.injEq,Prod.mk.injEq] at hr;obtain⟨_,_,rfl⟩:=hr;exact Yp.refl _ _
  | cons o l ihl=>
    intro ZW Qu fr fr' h h' tl hr hw
    match ZW,Qu,hr with
    | inc::ZW,sp::Qu,hr=>
      simp only [UM] at hr;split at hr
      ·rename_i t v h1 hd;split at hr
       ·rename_i tl2 QD h2 hr2;cases hr;obtain⟨km,hm,_⟩:=Xe HK hd (by rw [ZJ];exact hw);generalize sp.1.get wm=X' at *;have hsz:=km.size;rw [ZJ] at hsz
        have k1:Yp wm h (X0 X' h h1):=by
         refine⟨by rw [YO];exact hsz,fun i hi=>?_,fun i hi ho=>?_,fun i hi ho=>?_⟩
         ·rw [XA _ _ _ hsz];by_cases hX:i ∈ X'∧i < h.size
          ·rw [if_pos hX]
          ·rw [if_neg hX,km.keep i (by rw [ZJ];omega) (fun z=>by have:=hm i z;omega),Xd,if_neg fun z=>hX ⟨z,by omega⟩]
         ·rw [XA _ _ _ hsz] at ho;by_cases hX:i ∈ X'∧i < h.size
          ·rwa [if_pos hX] at ho
          ·rw [if_neg hX] at ho;have:=km.own i (by rw [ZJ];exact hi) ho;rw [Xd,if_neg fun z=>hX ⟨z,hi⟩] at this;exact this
         ·rw [XA _ _ _ hsz] at ho;by_cases hX:i ∈ X'∧i < h.size
          ·rwa [if_pos hX] at ho
          ·rw [if_neg hX] at ho;have:=km.live i (by rw [ZJ];exact hi) ho;rw [Xd,if_neg fun z=>hX ⟨z,hi⟩] at this;exact this
        exact k1.next hw (ihl _ _ _ _ _ _ _ hr2)
       ·cases hr
      ·cases hr
    | [],_,hr=>simp [UM] at hr
    | _::_,[],hr=>simp [UM] at hr
 unfold Zfq at hr;split at hr
 ·rename_i tl' fr' h' hd;cases hck:(List.range ops.length).all (ckI wm ops ZW Qu tl' h'.size) <;> rw [hck] at hr <;> simp only [Cq1,Cq0] at hr
  ·cases hr
  cases hr;exact main _ _ _ _ _ _ _ _ _ hd ZQ
 ·cases hr
theorem ZbE {n wm:Nat} {ops:List Oper} {s s':Fs} (h:Ze2 X YK ih n wm ops s=some s'):ZpE X YK ih n wm ops s=some s'∨Zks X YK ih n wm ops s=some s':=by
 unfold Ze2 at h;split at h
 ·rename_i s1 e;cases h;exact .inl e
 ·exact .inr h
theorem ZmE (HI:∀ j r,ih j=some r ->Yu X j r) (HK:∀ j r,ih j=some r ->QM j r) {n wm:Nat} {rd:Option Nat} {ops:Array Oper} {s s':Fs}
 (hr:Ze2 X YK ih n wm ops.toList s=some s') (ZQ:wm <=s.h.size):
 ∃ D:Data X.P n wm rd ops,D.hs 0=s.h∧D.fs 0=s.fr∧D.hs ops.size=s'.h∧D.fs ops.size=s'.fr∧s'.ds=s.ds:=by
 rcases ZbE hr with h | h
 ·obtain⟨soft,ZW,Xs,tl,hp,h1⟩:=ZcX h;exact Zok HI HK hp h1 ZQ
 ·obtain⟨ZW,Qu,hp,h1⟩:=ZbD h;exact ZmD HI HK hp h1 ZQ
def cfg (X:Ctx) (YK:FuncId ->Bool):Cfg:= ⟨X,YK,fun ih n wm _ ops s=>Ze2 X YK ih n wm ops s⟩
theorem ZtT:ZhA (cfg X YK):=by
 intro ih HK n wm rd ops s s' hr ZQ;rcases ZbE (X:=X) (YK:=YK) hr with h | h
 ·obtain⟨_,_,_,_,_,h1⟩:=ZcX (X:=X) (YK:=YK) h;exact Zh1 HK h1 ZQ
 ·obtain⟨_,_,_,h1⟩:=ZbD (X:=X) (YK:=YK) h;exact ZnW HK h1 ZQ
end Go.Yj
end
end
section
noncomputable section
namespace Go.Yj
variable {X:Ctx} {ih:Qg ->Option YF}
structure KA (s s':Fs):Prop where
 wr:s'.wr=s.wr
 fr:∀ t,allowed s.wr t=false ->s'.fr.at t=s.fr.at t
 ds:∃ l,s'.ds=l ++ s.ds
theorem KA.refl (s:Fs):KA s s:= ⟨rfl,fun _ _=>rfl,[],rfl⟩
theorem KA.trans {a b c:Fs} (h:KA a b) (k:KA b c):KA a c:=by
 refine⟨k.wr.trans h.wr,fun t ht=>(k.fr t (by rw [h.wr];exact ht)).trans (h.fr t ht),?_⟩;obtain⟨l,e⟩:=h.ds;obtain⟨l',e'⟩:=k.ds;exact⟨l' ++ l,by rw [e',e,List.append_assoc]⟩
theorem KA.heap (s:Fs) (h:H):KA s {s with h:=h}:= ⟨rfl,fun _ _=>rfl,[],rfl⟩
theorem Zt6 {n:Nat} {s s':Fs} {dst:Option Tmp} {v:Value} (h:ZfC n s dst v=some s'):KA s s':=by
 rw [ZfU] at h;split at h
 ·cases h;exact KA.refl _
 ·rename_i d;cases hd:(Nat.blt d n && allowed s.wr d) <;> rw [hd] at h <;> simp only [Cq1,Cq0] at h
  ·cases h
  ·cases h;rw [Ba0] at hd;refine⟨rfl,fun t ht=>?_,[],rfl⟩;have:t ≠ d:=fun e=>by rw [e,hd.2] at ht;cases ht
   simp [Fr.at,Tr.QI,this]
def Zuw:Qg ->YF ->Prop
 | .code _ _ _ _ s,r=>∀ e s',r= .code e s' ->KA s s'
 | .loop _ _ _ _ s,r=>∀ e s',r= .code e s' ->KA s s'
 | _,_=>True
theorem ZwA {YK:FuncId ->Bool} {n wm:Nat} {rd:Option Nat} {dst:Option Tmp} {s s':Fs} {nx:AN} {h':H} {e:XX} (h:Kh YK ih n wm rd dst s nx h'=some (e,s')):KA s s':=by
 have go:∀ {s1:Fs} {v:Value},KA s s1 ->(match ZfC n s1 dst v with | some s=>some (XX.normal,s) | none=>none)=some (e,s') ->KA s s':=by
  intro s1 v hw hh;split at hh
  ·rename_i s2 hp;cases hh;exact hw.trans (Zt6 hp)
  ·cases hh
 unfold Kh at h;dsimp only [J9] at h;split at h
 ·exact go (KA.heap _ _) h
 ·exact go (KA.heap _ _) h
 ·rename_i f args;cases hp:YK f <;> rw [hp] at h <;> simp only [Cq1,Cq0] at h
  ·split at h
   ·exact go (KA.heap _ _) h
   ·cases h;exact KA.heap _ _
   ·cases h
  ·split at h
   ·rename_i v h2 hc;cases hpl:plain v <;> rw [hpl] at h <;> simp only [Cq1,Cq0] at h
    ·cases h
    ·exact go (KA.heap _ _) h
   ·cases h
 ·split at h
  ·exact go (KA.heap _ _) h
  ·cases h;exact KA.heap _ _
  ·cases h
 ·split at h
  ·refine go ?_ h;exact⟨rfl,fun _ _=>rfl,[_],rfl⟩
  ·cases h
 ·cases h
 ·cases h;exact KA.heap _ _
theorem Zoe {YK:FuncId ->Bool} {n wm:Nat} {rd:Option Nat} {ops:List Oper}:∀ (l:List Oper) (s s':Fs) (e:XX),Zh5 X YK ih n wm rd ops l s=some (e,s') ->KA s s':=by
 have step:∀ (o:Oper) (s s':Fs) (e:XX),Uv X YK ih n wm rd ops o s=some (e,s') ->KA s s':=by
  intro o s s' e h;unfold Uv at h;cases hok:okG ops o s.fr <;> rw [hok] at h <;> simp only [Bool.not_false,Bool.not_true,Cq1,Cq0] at h
  ·cases h
  cases hwt:YR ops o s.fr <;> rw [hwt] at h <;> simp only [Cq1,Cq0] at h
  ·split at h
   ·rename_i s2 hp;cases h;exact Zt6 hp
   ·cases h
  ·split at h
   ·split at h
    ·exact ZwA h
    ·cases h
   ·cases h
 intro l
 induction l with
 | nil=>intro s s' e h;cases h;exact KA.refl _
 | cons o l ihl=>
   intro s s' e h;simp only [Zh5] at h;split at h
   ·rename_i s1 h1;exact(step o s s1 _ h1).trans (ihl s1 s' e h)
   ·rename_i v s1 h1;cases h;exact step o s s' _ h1
   ·cases h
theorem ZnX {YK:FuncId ->Bool} {n wm:Nat} {soft:Bool} {ops:List Oper} {ZW Xs:List (List Nat)} {s s':Fs} {tl:List (Option Nat×Nat)} {ok:Bool} (hr:Jo X YK ih n wm soft ops ZW Xs s=some (tl,ok,s')):KA s s':=by
 have main:∀ (wr:Option Nat) (l:List Oper) (ZW Xs:List (List Nat)) (fr fr':Fr) (h h':H) (tl:List (Option Nat×Nat)) (st:List (Fr×H×Value)),Zbr X YK ih n wm wr ops l ZW Xs fr h=some (tl,st,fr',h') ->∀ t,allowed wr t=false ->fr'.at t=fr.at t:=by
  intro wr l
  induction l with
  | nil=>intro ZW Xs fr fr' h h' tl st hr t _;simp only [Zbr,Option.some.injEq,Prod.mk.injEq] at hr;obtain⟨_,_,rfl,_⟩:=hr;rfl
  | cons o l ihl=>
    intro ZW Xs fr fr' h h' tl st hr t ht
    match ZW,Xs,hr with
    | inc::ZW,X'::Xs,hr=>
      simp only [Zbr] at hr;split at hr
      ·rename_i tt v h1 hd;split at hr
       ·rename_i tl2 st2 QD h2 hr2;cases hr;rw [ihl _ _ _ _ _ _ _ _ hr2 t ht,K6,if_neg fun e=>by rw [Zpv hd t e] at ht;cases ht]
       ·cases hr
      ·cases hr
    | [],_,hr=>simp [Zbr] at hr
    | _::_,[],hr=>simp [Zbr] at hr
 unfold Jo at hr;split at hr
 ·rename_i tl' st' fr' h' hd;simp only [Option.some.injEq,Prod.mk.injEq] at hr;obtain⟨_,_,rfl⟩:=hr;exact⟨rfl,main _ _ _ _ _ _ _ _ _ _ hd,[],rfl⟩
 ·cases hr
theorem Zwl {YK:FuncId ->Bool} {n wm:Nat} {ops:List Oper} {ZW:List (List Nat)} {Qu:List (Ul×Bool)} {s s':Fs} (hr:Zfq X YK ih n wm ops ZW Qu s=some s'):KA s s':=by
 have main:∀ (wr:Option Nat) (l:List Oper) (ZW:List (List Nat)) (Qu:List (Ul×Bool)) (fr fr':Fr) (h h':H) (tl:List (Option Nat×Nat)),UM X YK ih n wm wr ops l ZW Qu fr h=some (tl,fr',h') ->∀ t,allowed wr t=false ->fr'.at t=fr.at t:=by
  intro wr l
  induction l with
  | nil=>intro ZW Qu fr fr' h h' tl hr t _;simp only [UM,Option.some.injEq,Prod.mk.injEq] at hr;obtain⟨_,rfl,_⟩:=hr;rfl
  | cons o l ihl=>
    intro ZW Qu fr fr' h h' tl hr t ht
    match ZW,Qu,hr with
    | inc::ZW,sp::Qu,hr=>
      simp only [UM] at hr;split at hr
      ·rename_i tt v h1 hd;split at hr
       ·rename_i tl2 QD h2 hr2;cases hr;rw [ihl _ _ _ _ _ _ _ hr2 t ht,K6,if_neg fun e=>by rw [Zpv hd t e] at ht;cases ht]
       ·cases hr
      ·cases hr
    | [],_,hr=>simp [UM] at hr
    | _::_,[],hr=>simp [UM] at hr
 unfold Zfq at hr;split at hr
 ·rename_i tl' fr' h' hd;cases hck:(List.range ops.length).all (ckI wm ops ZW Qu tl' h'.size) <;> rw [hck] at hr <;> simp only [Cq1,Cq0] at hr
  ·cases hr
  cases hr;exact⟨rfl,main _ _ _ _ _ _ _ _ _ hd,[],rfl⟩
 ·cases hr
theorem ZwF {YK:FuncId ->Bool} {n wm:Nat} {ops:List Oper} {s s':Fs} (hr:Ze2 X YK ih n wm ops s=some s'):KA s s':=by
 rcases ZbE hr with h | h
 ·obtain⟨_,_,_,_,_,h1⟩:=ZcX h;exact ZnX h1
 ·obtain⟨_,_,_,h1⟩:=ZbD h;exact Zwl h1
theorem ZqE {T:List Nat} {t:Nat}:bit (Za9 T) t=true↔t ∈ T:=by
 induction T with
 | nil=>simp [Za9,Zhn]
 | cons x T ih=>simp only [Za9,Zki,Bool.or_eq_true,ih,ZpB,List.mem_cons];exact⟨fun h=>h.imp Eq.symm id,fun h=>h.imp Eq.symm id⟩
theorem Xi {T:List Nat} {fr:Fr} {t:Nat}:(Yq T fr).at t=if t ∈ T then ZqM else fr.at t:=by
 induction T generalizing fr with
 | nil=>simp [Yq]
 | cons x T ih=>
   rw [Yq,ih];by_cases h:t ∈ T
   ·simp [h]
   ·by_cases hx:t=x
    ·subst hx;simp [h,Fr.at,Tr.QI]
    ·simp [h,hx,Fr.at,Tr.QI]
section
variable (HI:∀ j r,ih j=some r ->Zuw j r)
include HI
theorem ZeU {c:Code} {n wm:Nat} {rd:Option Nat} {s s':Fs} {e:XX} (hc:ih (.code c n wm rd s)=some (.code e s')):KA s s':=HI _ _ hc e s' rfl
theorem Zl6 {C:Cfg} {mi:MI} {n wm:Nat} {rd:Option Nat} {s s':Fs} {e:XX} (h:WT C ih mi n wm rd s=some (.code e s')):KA s s':=by
 unfold WT at h;split at h
 ·rename_i s1 h1;exact(Zoe _ _ _ _ h1).trans (ZeU HI h)
 ·rename_i e' s1 _ h1;cases h;exact Zoe _ _ _ _ h1
 ·cases h
theorem Zkf {c:Code} {n wm:Nat} {rd:Option Nat} {s:Fs} {k:XX ->Fs ->Option YF} {r:YF} (h:Zd1 k (ih (.code c n wm rd s))=some r)
 (hk:∀ e s1 r,k e s1=some r ->∀ e' s',r= .code e' s' ->KA s1 s'):∀ e' s',r= .code e' s' ->KA s s':=by
 obtain⟨e,s1,h1,h2⟩:=QJ h;intro e' s' hr;exact(ZeU HI h1).trans (hk e s1 r h2 e' s' hr)
omit HI in
theorem Jy {e:XX} {s:Fs} {r:YF} (h:some (.code e s)=some r):∀ e' s',r= .code e' s' ->KA s s':=by
 cases h;intro e' s' h;cases h;exact KA.refl _
theorem Zwf {C:Cfg} {mi:MI} {c:Code} {n wm:Nat} {rd:Option Nat} {s:Fs} {r:YF} (h:Zhd C ih mi c n wm rd s=some r):∀ e s',r= .code e s' ->KA s s':=by
 unfold Zhd Zj1 at h;generalize hb:Zim mi n wm ((ZeS c).filter (allowed s.wr))=b at h;cases b with
 | false=>cases h
 | true=>
   obtain⟨_,_,_,_,_,d,hd,_,hdT⟩:=Zcz hb;simp only [Cq1] at h;generalize Zae C ih mi n rd _ _ s mi.es=b2 at h;cases b2 with
   | false=>cases h
   | true=>
     simp only [Cq1] at h;split at h
     ·rename_i e s2 h2;have w2:=Zl6 HI h2
      have w1:KA s {s with fr:=QZ (Yq ((ZeS c).filter (allowed s.wr)) s.fr) mi.o.dst Jw,h:=s.h.put mi.it .dead}:=by
       refine⟨rfl,fun t ht=>?_,[],rfl⟩;have hnt:t ∉ (ZeS c).filter (allowed s.wr):=fun z=>by rw [List.mem_filter] at z;rw [z.2] at ht;cases ht
       show(QZ _ _ _).at t=_;rw [K6,if_neg,Xi,if_neg hnt];intro e;rw [e] at hd;cases hd;exact hnt hdT
      have w:=w1.trans w2;cases e with
      | normal=>cases h
      | exit _=>cases h;intro e' s' h;cases h;exact w
      | goto _=>cases h;intro e' s' h;cases h;exact w
      | ret=>cases h;intro e' s' h;cases h;exact w
      | panic _=>cases h;intro e' s' h;cases h;exact w
     ·cases h
theorem Zhc {C:Cfg} {g:Operand} {n wm:Nat} {rd:Option Nat} {l:Nat} {s:Fs} {r:YF} (h:X8 C ih g n wm rd l s=some r):∀ e s',r= .code e s' ->KA s s':=by
 unfold X8 at h;split at h
 ·split at h
  ·unfold JI at h;split at h
   ·split at h
    ·rename_i st pd fr n' ps Yr bd df hat;cases hst:(st==LoopState.busy) <;> rw [hst] at h <;> simp only [Cq1,Cq0] at h
     ·split at h
      ·cases h;intro e s' h;cases h;exact KA.heap _ _
      ·intro e s' hr;subst hr;exact(KA.heap _ _).trans (ZeU HI h)
     ·cases h
    ·cases h
   ·cases h;intro e s' h;cases h;exact KA.heap _ _
   ·cases h
  ·cases h
 ·cases h
theorem ZEo {X:Ctx} {YK:FuncId ->Bool} (j:Qg) (r:YF) (h:evF (cfg X YK) ih j=some r):Zuw j r:=by
 cases j with
 | code c n wm rd s=>
   simp only [evF] at h;cases c with
   | skip=>exact Jy h
   | label l=>exact Jy h
   | ret=>exact Jy h
   | exit id=>exact Jy h
   | goto l=>exact Jy h
   | seq a b=>
     refine Zkf HI h fun e s1 r hk=>?_
     cases e with
     | normal=>intro e' s' hr;subst hr;exact ZeU HI hk
     | exit _=>exact Jy hk
     | goto _=>exact Jy hk
     | ret=>exact Jy hk
     | panic _=>exact Jy hk
   | cond c a b=>
     simp only [U1,Zhf] at h;split at h
     ·rename_i t _;intro e' s' hr;subst hr;cases t with
      | true=>exact ZeU HI h
      | false=>exact ZeU HI h
     ·cases h
   | block id c=>
     refine Zkf HI h fun e s1 r hk=>?_
     cases e with
     | exit k=>
       dsimp only at hk;cases hb:Nat.beq k id <;> rw [hb] at hk <;> exact Jy hk
     | normal=>exact Jy hk
     | goto _=>exact Jy hk
     | ret=>exact Jy hk
     | panic _=>exact Jy hk
   | scope c=>
     refine Zkf HI h fun e s1 r hk=>?_
     cases e with
     | exit k=>exact Jy hk
     | normal=>exact Jy hk
     | goto _=>cases hk
     | ret=>exact Jy hk
     | panic _=>exact Jy hk
   | loop c=>intro e s' hr;subst hr;exact HI _ _ h e s' rfl
   | refuse _=>cases h
   | rangeFunc g ps Yr bd=>
     simp only [U1,ZdU] at h;intro e s' hr;split at h
     ·have:=Zhc HI h e s' hr;refine KA.trans ?_ this;exact⟨rfl,fun _ _=>rfl,[_],rfl⟩
     ·split at h
      ·exact(KA.heap _ _).trans (Zhc HI h e s' hr)
      ·cases h
   | region id ops d=>
     cases d with
     | true=>
       simp only [U1,Cq1,Zj2] at h;split at h
       ·rename_i s1 hs;cases h;intro e s' hr;cases hr;exact ZwF (X:=X) (YK:=YK) hs
       ·cases h
     | false=>
       simp only [U1,Cq0,ZdT] at h;split at h
       ·rename_i e s1 hs;cases h;intro e s' hr;cases hr;exact Zoe _ _ _ _ hs
       ·cases h
 | loop c n wm rd s=>
   simp only [evF,ZdW] at h
   have hL:Zhe ih c n wm rd s=some r ->Zuw (.loop c n wm rd s) r:=by
    intro h;refine Zkf HI h fun e s1 r hk=>?_
    cases e with
    | normal=>intro e' s' hr;subst hr;exact HI _ _ hk e' s' rfl
    | exit _=>exact Jy hk
    | goto _=>exact Jy hk
    | ret=>exact Jy hk
    | panic _=>exact Jy hk
   split at h
   ·split at h
    ·rename_i r' hr;cases h;exact Zwf HI hr
    ·exact hL h
   ·exact hL h
 | _=>trivial
end
theorem ZHb {X:Ctx} {YK:FuncId ->Bool}:∀ (n:Nat) (j:Qg) (r:YF),ev (cfg X YK) n j=some r ->Zuw j r:=by
 intro n
 induction n with
 | zero=>intro j r h;cases h
 | succ n ihn=>intro j r h;exact ZEo ihn j r h
end Go.Yj
end
end
