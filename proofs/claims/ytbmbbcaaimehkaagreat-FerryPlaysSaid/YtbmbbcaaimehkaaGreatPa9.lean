/- Plays Part 9 of the proof. -/
import Derived.Test.YtbmbbcaaimehkaaGreatPa8
set_option linter.all false
set_option maxHeartbeats 2000000
section
noncomputable section
namespace Go.YT
open Go.Lf
variable {X:Ctx} {n wm:Nat} {rd:Option Nat} {ops:Array Oper} {ol:List Oper} {fr:Fr} {ds:List Deferred} {h h0:H} {ty:TypeId} {p:String} {af:Array Edge} {g:Option (Nat×Bool)} {T:Nat ->Prop} {G Gr:List (Ast wm)} {d l df:Nat} {LO:Xz} {ps:Array Tmp} {YF bd:Code}
theorem ZiU {α β:Type} {body:α ->(α ->Option β) ->Option β} (C:α ->β ->Prop) (hb:∀ next:α ->Option β,(∀ x r,next x=some r ->C x r) ->∀ x r,body x next=some r ->C x r):∀ F x r,loop F body x=some r ->C x r:=by
 intro F
 induction F with
 | zero=>intro x r h;cases h
 | succ F ih=>intro x r h;exact hb _ ih x r h
def dne (c:Code):Xz ->Xz
 | .loop _ _ fr n ps YF bd df=>.loop .done (some c) fr n ps YF bd df
 | A=>A
def lst (b:Bool) (c:Code) (A:Xz):Xz:=bif b then dne c A else A
inductive Zvt:XX ->Code ->Prop
 | ret:Zvt .ret .ret
 | exit (id:Nat):Zvt (.exit id) (.exit id)
structure BdS (n lo l:Nat) (fr:Fr) (ps:Array Tmp) (YF bd:Code) (df:Nat) (R:Bool ->H ->Prop) (e:XX) (s:Fs):Prop where
 out:s.h.at l= .loop .busy none fr n ps YF bd df∧
  ((e= .normal∧∀ h',(lo <=l ->Up lo (fun i=>i=l) s.h h') ->h'.at l= .loop .ready none fr n ps YF bd df ->R true h')∨
   (∃ c,Zvt e c∧∀ h',(lo <=l ->Up lo (fun i=>i=l) s.h h') ->h'.at l= .loop .done (some c) fr n ps YF bd df ->R false h'))
structure AsS (X:Ctx) (n wm lo l:Nat) (fr:Fr) (ps:Array Tmp) (YF bd:Code) (df:Nat) (R:Bool ->H ->Prop) (e:XX) (s:Fs):Prop where
 out:e= .normal∧s.h.at l= .loop .ready none fr n ps YF bd df∧∀ h1,(lo <=l ->Up lo (fun i=>i=l) s.h h1) ->h1.at l= .loop .busy none fr n ps YF bd df ->WC X n wm (some l) bd ⟨s.fr,s.ds,h1,s.wr⟩ (BdS n lo l fr ps YF bd df R)
theorem ZtL.mkS {l:Nat} {args:List Value} {fr fr1:Fr} {ps:Array Tmp} {YF bd:Code} {df:Nat} {R:Bool ->H ->Prop} (lo:Nat) (hat:h.at l= .loop .ready none fr n ps YF bd df) (hw:wm <=l) (hl:Nat.beq args.length ps.toList.length=true) (hs:Qo (ps.toList.zip args) n fr=some fr1)
 (k:WC X n wm (some l) YF ⟨fr1,[],h,none⟩ (AsS X n wm lo l fr ps YF bd df R)):ZtL X l args.toArray wm h R:=by
 obtain⟨e1,s1,⟨rfl,h1,k1⟩,j1⟩:=k;have o1:(s1.h.at l).own=true:=by rw [h1];rfl
 have s1l:=XM h1 rfl;obtain⟨e2,s2,⟨h2,k2⟩,j2⟩:=k1 (s1.h.put l (.loop .busy none fr n ps YF bd df)) (fun hl=>Up.put hl o1) (YH s1l _);have o2:(s2.h.at l).own=true:=by rw [h2];rfl
 have s2l:=XM h2 rfl
 have key:∃ b A,R b (s2.h.put l A)∧WW l e2 s2=some (.fin (.ret (.bool b)) (s2.h.put l A)):=by
  rcases k2 with⟨rfl,k2⟩ | ⟨c,hx,k2⟩
  ·refine⟨true,_,k2 _ (fun hl=>Up.put hl o2) (YH s2l _),?_⟩;unfold WW;rw [h2]
  ·refine⟨false,_,k2 _ (fun hl=>Up.put hl o2) (YH s2l _),?_⟩;unfold WW;rw [h2];cases hx <;> rfl
 obtain⟨b,A,hR,hev⟩:=key;refine⟨b,s2.h.put l A,hR,?_⟩
 classical
 let ih:Jq ->Option Xd:=fun j=>if j= .code YF n wm (some l) ⟨fr1,[],h,none⟩ then some (.code .normal s1) else ZaJ (.code bd n wm (some l) {s1 with h:=s1.h.put l (.loop .busy none fr n ps YF bd df)}) (.code e2 s2) j
 have HI:∀ j r,ih j=some r ->Y1 X j r:=by
  intro j r e;dsimp only [ih] at e;split at e
  ·rename_i hj;cases e;rw [hj];exact j1
  ·exact Ut (X:=X) j2 j r e
 refine ZaO (C:=cfg X fun _=>false) (ih:=ih) HI ?_;unfold ZdE;rw [hat];have hl':Nat.beq args.toArray.toList.length ps.toList.length=true:=hl;dsimp only;rw [Nm0 hw,hl'];simp only [Bool.and_self,Cq1];have hs':Qo (ps.toList.zip args.toArray.toList) n fr=some fr1:=hs;rw [hs'];dsimp only;have i1:ih (.code YF n wm (some l) {fr:=fr1,ds:= [],h:=h})=some (.code .normal s1):=by dsimp only [ih];rw [if_pos rfl]
 rw [i1];show Zab ih l bd n wm .normal s1=_;unfold Zab;dsimp only;rw [h1];dsimp only
 have i2:ih (.code bd n wm (some l) {s1 with h:=s1.h.put l (.loop .busy none fr n ps YF bd df)})=some (.code e2 s2):=by
  dsimp only [ih];split
  ·rename_i hj;exfalso;injection hj with _ _ _ _ hs
   have:({s1 with h:=s1.h.put l (.loop .busy none fr n ps YF bd df)}:Fs).h.at l=h.at l:=by rw [hs]
   dsimp only at this;rw [YH s1l,hat] at this;cases this
  ·exact Uu _ _
 rw [i2];exact hev
theorem WO.ZSX {Q:XX ->Fs ->Prop} {fo:Operand} {xs:Array Operand} {ts:Array TypeId} {vs:List Value} {n2:Nat} {XV fr1:Fr} {as2 bd2:Code} (hg:Yt ops ⟨some d,.call {callee:= .value fo,args:=xs,argTypes:=ts},ty,p,af,g⟩ fr) (hd:Nat.blt d n=true) (hf:YB fr fo=some (.func (.yield l) #[] #[])) (hx:evs (YB fr) xs.toList=some vs)
 (hS:Sp wm T h0 G h) (pk:Pk G (ob wm l LO) Gr) (hLO:LO= .loop .ready none XV n2 ps as2 bd2 df) (hl:Nat.beq vs.length ps.toList.length=true) (hs:Qo (ps.toList.zip vs) n2 XV=some fr1)
 (k:WC X n2 wm (some l) as2 ⟨fr1,[],h,none⟩ (AsS X n2 wm wm l XV ps as2 bd2 df (fun b h'=>WO X n wm rd ops ol ⟨Tr.set fr d (.bool b),ds,h',none⟩ Q))):
 WO X n wm rd ops (⟨some d,.call {callee:= .value fo,args:=xs,argTypes:=ts},ty,p,af,g⟩::ol) ⟨fr,ds,h,none⟩ Q:=by
 obtain⟨h1,h2,h3⟩:=hS.get pk;have hat:=h1.trans hLO;exact WO.yld hg hd hf hx hat (Nb0 hl) (ZtL.mkS (lo:=wm) hat h2 hl hs k) fun b h' hk=>hk
theorem AsS.sp {XV:Fr} {R:Bool ->H ->Prop} (hLO:LO= .loop .ready none fr n ps YF bd df) (hS:Sp wm T h0 G h) (pk:Pk G (ob wm l LO) Gr) (k:∀ h1,Sp wm T h0 (ob wm l (bsy LO)::Gr) h1 ->WC X n wm (some l) bd ⟨XV,ds,h1,none⟩ (BdS n wm l fr ps YF bd df R)):AsS X n wm wm l fr ps YF bd df R .normal ⟨XV,ds,h,none⟩:=by
 obtain⟨h1,h2,h3⟩:=hS.get pk;refine⟨⟨rfl,h1.trans hLO,fun h' u e=>k h' ?_⟩⟩;exact hS.one pk (u h2) (fun _ q=>q) ⟨by rw [e,hLO];rfl,h2,by rw [hLO];rfl⟩ fun _ q=>.inl q
theorem BdS.sp {XV:Fr} {R:Bool ->H ->Prop} (hLO:LO= .loop .ready none fr n ps YF bd df) (hS:Sp wm T h0 G h) (pk:Pk G (ob wm l (bsy LO)) Gr) (k:∀ h1,Sp wm T h0 (ob wm l LO::Gr) h1 ->R true h1):BdS n wm l fr ps YF bd df R .normal ⟨XV,ds,h,none⟩:=by
 obtain⟨h1,h2,h3⟩:=hS.get pk;refine⟨⟨h1.trans (by rw [hLO];rfl),.inl ⟨rfl,fun h' u e=>k h' ?_⟩⟩⟩;exact hS.one pk (u h2) (fun _ q=>q) ⟨by rw [e,hLO],h2,by rw [hLO];rfl⟩ fun _ q=>.inl q
theorem BdS.stop {XV:Fr} {R:Bool ->H ->Prop} {e:XX} {c:Code} (hx:Zvt e c) (hLO:LO= .loop .ready none fr n ps YF bd df) (hS:Sp wm T h0 G h) (pk:Pk G (ob wm l (bsy LO)) Gr) (k:∀ h1,Sp wm T h0 (ob wm l (lst true c LO)::Gr) h1 ->R false h1):BdS n wm l fr ps YF bd df R e ⟨XV,ds,h,none⟩:=by
 obtain⟨h1,h2,h3⟩:=hS.get pk;refine⟨⟨h1.trans (by rw [hLO];rfl),.inr ⟨c,hx,fun h' u e=>k h' ?_⟩⟩⟩;exact hS.one pk (u h2) (fun _ q=>q) ⟨by rw [e,hLO];rfl,h2,by rw [hLO];rfl⟩ fun _ q=>.inl q
structure RgS (X:Ctx) (wm l:Nat) (fr:Fr) (n:Nat) (ps:Array Tmp) (YF bd:Code) (df:Nat) (ds:List Deferred) (Q:XX ->Fs ->Prop) (h:H):Prop where
 low:wm <=l
 k:(h.at l= .loop .ready none fr n ps YF bd df∧∀ h',Up wm (fun i=>i=l) h h' ->Q .normal ⟨fr,⟨.collected df,#[]⟩::ds,h',none⟩)∨
  (∃ c,h.at l= .loop .done (some c) fr n ps YF bd df∧∀ h',Up wm (fun i=>i=l) h h' ->WC X n wm none c ⟨fr,⟨.collected df,#[]⟩::ds,h',none⟩ Q)
theorem RgS.sp {Q:XX ->Fs ->Prop} (hLO:LO= .loop .ready none fr n ps YF bd df) (hS:Sp wm T h0 G h) (pk:Pk G (ob wm l LO) Gr) (k:∀ h',Sp wm T h0 Gr h' ->Q .normal ⟨fr,⟨.collected df,#[]⟩::ds,h',none⟩):RgS X wm l fr n ps YF bd df ds Q h:=by
 obtain⟨h1,h2,h3⟩:=hS.get pk;refine⟨h2,.inl ⟨h1.trans hLO,fun h' u=>k h' ?_⟩⟩;exact Sp.step (Ga:= [ob wm l LO]) (Gb:= []) (hS.perm pk.perm) u (fun i e=>⟨_,List.mem_singleton.2 rfl,e⟩) Yc.nil fun i ⟨A,m,f⟩=>by simp at m
theorem RgS.stop {Q:XX ->Fs ->Prop} {c:Code} (hLO:LO= .loop .ready none fr n ps YF bd df) (hS:Sp wm T h0 G h) (pk:Pk G (ob wm l (lst true c LO)) Gr) (k:∀ h',Sp wm T h0 Gr h' ->WC X n wm none c ⟨fr,⟨.collected df,#[]⟩::ds,h',none⟩ Q):RgS X wm l fr n ps YF bd df ds Q h:=by
 obtain⟨h1,h2,h3⟩:=hS.get pk;refine⟨h2,.inr ⟨c,h1.trans (by rw [hLO];rfl),fun h' u=>k h' ?_⟩⟩;exact Sp.step (Ga:= [ob wm l (lst true c LO)]) (Gb:= []) (hS.perm pk.perm) u (fun i e=>⟨_,List.mem_singleton.2 rfl,e⟩) Yc.nil fun i ⟨A,m,f⟩=>by simp at m
theorem WC.ZH0 {Q:XX ->Fs ->Prop} {gg:Operand} {f:FuncId} {first cap:List Value} (hS:Sp wm T h0 G h) (hg:YB fr gg=some (.func (.func f) first.toArray cap.toArray)) (hf:(X.fns.get f).isSome=true)
 (k:∀ h' l df LO,LO=Xz.loop .ready none fr n ps YF bd df ->Sp wm T h0 (ob wm l LO::ob wm df .deferred::G) h' ->WR X f (first ++ ([Value.func (.yield l) #[] #[]] ++ cap)).toArray wm h' (fun _ h2=>RgS X wm l fr n ps YF bd df ds Q h2)):
 WC X n wm none (.rangeFunc gg ps YF bd) ⟨fr,ds,h,none⟩ Q:=by
 have s1:Sp wm T h0 (ob wm h.size .deferred::G) (h.push .deferred):=ZmR rfl hS
 have s2:Sp wm T h0 (ob wm (h.size + 1) (.loop .ready none fr n ps YF bd h.size)::ob wm h.size .deferred::G) ((h.push .deferred).push (.loop .ready none fr n ps YF bd h.size)):=by
  have:=ZmR (A:= .loop .ready none fr n ps YF bd h.size) rfl s1
  rwa [H.size_push] at this
 obtain⟨fn,hf⟩:=Option.isSome_iff_exists.1 hf;obtain⟨e,h3,⟨v,rfl,hr⟩,hj⟩:=k _ _ _ _ rfl s2
 have hac:Kr (cfg X fun _=>false).X ((h.push .deferred).push (.loop .ready none fr n ps YF bd h.size)) (.func (.func f) first.toArray cap.toArray) [Value.func (.yield (h.size + 1)) #[] #[]]=some (.enter f (first ++ ([Value.func (.yield (h.size + 1)) #[] #[]] ++ cap)).toArray,.none):=by
  unfold Kr;have:(cfg X fun _=>false).X.fns.get f=some fn:=hf;dsimp only;rw [this];simp only [List.append_assoc]
 rcases hr.k with⟨hat,hk⟩ | ⟨c,hat,hk⟩
 ·refine⟨.normal,_,hk (h3.put (h.size + 1) (.loop .exhausted none fr n ps YF bd h.size)) (Up.put hr.low (by rw [hat];rfl)),?_⟩;refine XP.2 (Ww (C:=cfg X fun _=>false) (ih:=ZaJ (.call f _ wm _) (.fin (.ret v) h3)) (Ut hj) ?_);show Qz (cfg X fun _=>false) _ gg n wm none (h.size + 1) ⟨fr,⟨.collected h.size,#[]⟩::ds,(h.push .deferred).push (.loop .ready none fr n ps YF bd h.size),none⟩=_;unfold Qz;dsimp only;rw [hg];dsimp only;rw [hac];dsimp only;unfold UK;rw [Uu];dsimp only;rw [hat]
  rfl
 ·obtain⟨e2,s2,hq,hj2⟩:=hk (h3.put (h.size + 1) (.loop .exhausted (some c) fr n ps YF bd h.size)) (Up.put hr.low (by rw [hat];rfl));refine⟨e2,s2,hq,?_⟩
  classical
  let ih:Jq ->Option Xd:=fun j=>if j= .code c n wm none ⟨fr,⟨.collected h.size,#[]⟩::ds,h3.put (h.size + 1) (.loop .exhausted (some c) fr n ps YF bd h.size),none⟩ then some (.code e2 s2) else ZaJ (.call f (first ++ ([Value.func (.yield (h.size + 1)) #[] #[]] ++ cap)).toArray wm ((h.push .deferred).push (.loop .ready none fr n ps YF bd h.size))) (.fin (.ret v) h3) j
  have HI:∀ j r,ih j=some r ->Y1 X j r:=by
   intro j r e;dsimp only [ih] at e;split at e
   ·rename_i hj';cases e;rw [hj'];exact hj2
   ·exact Ut (X:=X) hj j r e
  refine XP.2 (Ww (C:=cfg X fun _=>false) (ih:=ih) HI ?_);show Qz (cfg X fun _=>false) _ gg n wm none (h.size + 1) ⟨fr,⟨.collected h.size,#[]⟩::ds,(h.push .deferred).push (.loop .ready none fr n ps YF bd h.size),none⟩=_;unfold Qz;dsimp only;rw [hg];dsimp only;rw [hac];dsimp only;unfold UK
  have i1:ih (.call f (first ++ ([Value.func (.yield (h.size + 1)) #[] #[]] ++ cap)).toArray wm ((h.push .deferred).push (.loop .ready none fr n ps YF bd h.size)))=some (.fin (.ret v) h3):=by
   dsimp only [ih];split
   ·rename_i hj';cases hj'
   ·exact Uu _ _
  rw [i1];dsimp only;rw [hat];show ih (.code c n wm none _)=_;dsimp only [ih];rw [if_pos rfl]
theorem ZoI {ev:Operand ->Option Value} {d:Option Tmp} {f:FuncId} {xs ys:Array Operand} {vs us:List Value} (hy:evs ev ys.toList=some us) (hx:evs ev xs.toList=some vs):XY X h ev ⟨d,.makeFunc (.func f) ys xs,ty,p,af,g⟩=some (.val (.func (.func f) us.toArray vs.toArray),.none):=by
 show(bif Zin (.func f) then none else match evs ev ys.toList,evs ev xs.toList with | some vs,some us=>some (AN.val (.func (.func f) vs.toArray us.toArray),Eff.none) | _,_=>none)=_;rw [hx,hy];rfl
theorem Zyc {κ ν:Type} [DecidableEq κ] {kv:κ ->Value} {vv:ν ->Value} {kt vt:TypeId} {i:Nat} {ll:List (κ×ν)} {t:TypeId} {x y z:Operand} {k:κ} {v:ν} (hS:Sp wm T h0 G h) (pk:Pk G (mp wm kv vv (some i) ll) Gr) (K:ZkX X.P kt kv) (hu:X.P.underlying t=some (.map kt vt)) (hx:YB fr x=some (.map (some i))) (hy:YB fr y=some (kv k)) (hz:YB fr z=some (vv v)):
 HU X wm ⟨none,.insert t x y z,ty,p,af,g⟩ fr h (fun j=>j=i) (fun h'=>Sp wm T h0 (mp wm kv vv (some i) (Zan ll k v)::Gr) h'):=
 ZMV (ty:=ty) (p:=p) (af:=af) (g:=g) hS pk K hu hx hy hz
section
variable {sf:ST} {m:Nat}
theorem WX.ZcW {Q:Fr ->H ->Prop} {o:Oper} {c:Bool} (_:Zw ops o fr c) (h1:c=true ->WX X n wm rd ops sf m h (o::ol) fr Q) (h2:c=false ->WX X n wm rd ops sf m h (o::ol) fr Q):WX X n wm rd ops sf m h (o::ol) fr Q:=by
 cases c
 ·exact h2 rfl
 ·exact h1 rfl
theorem WX.hv0 {Q:Fr ->H ->Prop} {op:Op} {T:Nat ->Prop} {K:Value ->H ->Prop} (hg:Yt ops ⟨some d,op,ty,p,af,g⟩ fr) (hd:Nat.blt d n=true) (s:HV X wm ⟨some d,op,ty,p,af,g⟩ fr h T K) (h0:∀ x,T x ->False)
 (k:∀ v h',K v h' ->WX X n wm rd ops sf (m + 1) h' ol (Tr.set fr d v) Q) (hh:Ym ⟨some d,op,ty,p,af,g⟩=false) (hM:okM ops sf m ⟨some d,op,ty,p,af,g⟩=true):
 WX X n wm rd ops sf m h (⟨some d,op,ty,p,af,g⟩::ol) fr Q:=by
 obtain⟨v,E,h1,ha,hE,hT,hz,hk⟩:=s;refine⟨fun hb=>?_⟩;by_cases hw:wm <=h.size
 ·have hs:=ZaW (wm:=wm) (rd:=rd) hg (.inl ha) hE
  exact WE.cons (T:=fun x=>E.tgt=some x) (xs0:= []) (h2:=h1) (v:=v) [] [] none ⟨fun _=>⟨h1,rfl,hs.1,hs.2.1 hw⟩,hs.2.2 hw,fun d' e=>(by cases e;rwa [Nat.blt_eq] at hd),fun q=>Bool.noConfusion (hh.symm.trans q),fun _ _ _ z=>by simp at z⟩ (fun _ z=>by simp at z) (fun x hx=>(h0 x (hT x hx)).elim)
   (fun x hx=>(h0 x (hT x hx)).elim) (fun hh q hq=>.inl (UD hM hh q hq)) (fun x j C z=>by cases z) ((k v h1 hk).out fun q hq x hx=>Nat.lt_of_lt_of_le (hb q hq x hx) hz)
 ·exact WE.cons (T:=fun _=>False) (xs0:= []) (h2:=h1) (v:=v) [] [] none ⟨fun z=>absurd z hw,fun _ z=>z.elim,fun d' e=>(by cases e;rwa [Nat.blt_eq] at hd),fun q=>Bool.noConfusion (hh.symm.trans q),fun _ z=>z.elim⟩ (fun _ z=>by simp at z) (fun x hx=>hx.elim)
   (fun x hx=>hx.elim) (fun hh q hq=>.inl (UD hM hh q hq)) (fun x j C z=>by cases z) ((k v h1 hk).out fun q hq x hx=>Nat.lt_of_lt_of_le (hb q hq x hx) hz)
theorem Sp.djs {T0:Nat ->Prop} {G Ga Gr:List (Ast wm)} {B:Ast wm} (s:Sp wm T0 h0 G h) (p:Sel G (B::Ga) Gr):∀ x,Qk Ga x ->¬ B.fp x:=fun x ⟨A,hA,fa⟩ fb=>
 (List.pairwise_cons.1 (s.Ziq p).dis).1 A hA x fb fa
inductive Lk (ops:Array Oper) (m:Nat) (R:Nat ->Prop):List (Nat×(Nat ->Prop)) ->Prop
 | n:Lk ops m R []
 | o {q:Nat×(Nat ->Prop)} {r:List (Nat×(Nat ->Prop))} (h:comp (Qm ops.toList 0 []) q.1 m=true):Lk ops m R r ->Lk ops m R (q::r)
 | d {q:Nat×(Nat ->Prop)} {r:List (Nat×(Nat ->Prop))} (h:∀ x,q.2 x ->¬ R x):Lk ops m R r ->Lk ops m R (q::r)
theorem Lk.get {R:Nat ->Prop} {r:List (Nat×(Nat ->Prop))} (h:Lk ops m R r):∀ q ∈ r,Cmp ops q.1 m∨∀ x,q.2 x ->¬ R x:=by
 induction h with
 | n=>intro q hq;simp at hq
 | o h1 _ ih=>intro q hq;rcases List.mem_cons.1 hq with z | z
              ·subst z;exact .inl h1
              ·exact ih q z
 | d h1 _ ih=>intro q hq;rcases List.mem_cons.1 hq with z | z
              ·subst z;exact .inr h1
              ·exact ih q z
theorem WX.wrM {Q:Fr ->H ->Prop} {T0:Nat ->Prop} {G:List (Ast wm)} {op:Op} {v:Value} (R:Nat ->Prop) (hS:Sp wm T0 h0 G h) (hg:Yt ops ⟨some d,op,ty,p,af,g⟩ fr) (hd:Nat.blt d n=true) (ha:∀ g':H,g'.size=h.size ->(∀ x,R x ->g'.at x=h.at x) ->XY X g' (YB fr) ⟨some d,op,ty,p,af,g⟩=some (.val v,.none))
 (k:∀ h',h'.size=h.size ->Sp wm T0 h0 G h' ->WX X n wm rd ops ⟨(m,fun x=>¬ R x)::sf.s,sf.m,sf.p⟩ (m + 1) h' ol (Tr.set fr d v) Q) (hh:Ym ⟨some d,op,ty,p,af,g⟩=false) (hM:Lk ops m R sf.m):
 WX X n wm rd ops sf m h (⟨some d,op,ty,p,af,g⟩::ol) fr Q:=by
 have hsz:(Ql (XE h R) h (mask (XE h R) h)).size=h.size:=by rw [Xm,ZW]
 have hvv:∀ x,¬ R x ->VV h (Ql (XE h R) h (mask (XE h R) h)) (XE h R) x:=fun x hx=>by
  rcases Nat.lt_or_ge x h.size with z | z
  ·exact .inl ⟨z,ZbG.2 ⟨z,hx⟩⟩
  ·exact .inr (by rw [hsz];exact z)
 refine⟨fun hb=>WE.cons (T:=fun _=>False) (xs0:=XE h R) (h2:=Ql (XE h R) h (mask (XE h R) h)) (v:=v) [(m,fun x=>¬ R x)] [] none ?_ (fun q hq=>?_) (fun _ z=>z.elim) (fun _ z=>z.elim) (fun hh q hq=>(hM.get q hq).imp id fun z x hx=>hvv x (z x hx)) (fun x j C z=>by cases z) ((k _ hsz (hS.up (Up.hide wm _ h))).out fun q hq x hx=>by rw [hsz];exact hb q hq x hx)⟩
 ·have:=ZaW (wm:=wm) (rd:=rd) hg (.inl (ha _ (ZW _ _) fun x hx=>Zz4 hx)) (h1:=mask (XE h R) h) rfl;have t0:(fun x:Nat=>Eff.tgt Eff.none=some x)=fun _=>False:=by funext x;simp [Eff.tgt]
  rw [t0] at this;exact⟨fun hw=>⟨_,rfl,this.1,this.2.1 (by rw [ZW];exact hw)⟩,fun _ z=>z.elim,fun d' e=>(by cases e;rwa [Nat.blt_eq] at hd),fun q=>Bool.noConfusion (hh.symm.trans q),fun _ z=>z.elim⟩
 ·rw [List.mem_singleton.1 hq];exact⟨rfl,fun x hx=>hvv x hx⟩
theorem Zif {x:Nat} (h:Xy none x):False:=by obtain⟨o,e⟩:=h;cases e
theorem WX.ZcM {Q:Fr ->H ->Prop} {op:Op} {c:Bool} (hg:Zw ops ⟨some d,op,ty,p,af,g⟩ fr c) (hc:c=false) (hd:Nat.blt d n=true) (k:WX X n wm rd ops sf (m + 1) h ol (Tr.set fr d undef) Q) (hM:okM ops sf m ⟨some d,op,ty,p,af,g⟩=true):WX X n wm rd ops sf m h (⟨some d,op,ty,p,af,g⟩::ol) fr Q:=WX.off (hg.off hc) hd k hM
end
theorem ZFk {β:Type} {b:Bool} {x:Option β} {r:β} (h:(bif b then none else x)=some r):b=false∧x=some r:=by
 cases b
 ·exact⟨rfl,h⟩
 ·cases h
theorem ZbO (b:Bool):b=true∨b=false:=by cases b <;> simp
end Go.YT
end
end
section
end
section
namespace Go.Proofs.YtbmbbcaaimehkaaGreat
structure Zz where
 here:Bool
 ZX:Int
 age:Int
 deriving DecidableEq,Inhabited
structure Zq where
 msg:Int
 place:Int
 from_:Int
 age:Int
 hops:Int
 deriving DecidableEq,Inhabited
structure Zf where
 kind:Int
 ZX:Int
 ZV:Zq
 qV:(List Int)
 Yd:(List Int)
 place:Int
 at_:Int
 age:Int
 deriving DecidableEq,Inhabited
structure Zb where
 Zx:(List Int)
 qK:(List (List Int))
 qQ:(List (List Zz))
 qJ:(List (List Zq))
 qG:(List Zf)
 said:Int
 deriving DecidableEq,Inhabited
structure Zj where
 deed:Int
 place:Int
 at_:Int
 n:Int
 hops:Int
 deriving DecidableEq,Inhabited
structure ZF where
 act:Int
 a:Int
 b:Int
 deriving DecidableEq,Inhabited
structure XR where
 at_:Int
 age:Int
 letter:Int
 is:Bool
 deriving DecidableEq,Inhabited
structure YA where
 machine:Int
 here:Bool
 age:Int
 deriving DecidableEq,Inhabited
structure ZY where
 Za:Zb
 Xg:(List YA)
 deriving DecidableEq,Inhabited
structure Yb where
 Za:Zb
 qX:(List Zj)
 deriving DecidableEq,Inhabited
def QA (x y:Zz):Bool:= [x.here==y.here,x.ZX==y.ZX,x.age==y.age].all id
def Xw (x y:Zq):Bool:= [x.msg==y.msg,x.place==y.place,x.from_==y.from_,x.age==y.age,x.hops==y.hops].all id
def KD (x y:Zj):Bool:= [x.deed==y.deed,x.place==y.place,x.at_==y.at_,x.n==y.n,x.hops==y.hops].all id
def ZfA (x y:YA):Bool:= [x.machine==y.machine,x.here==y.here,x.age==y.age].all id
def ZFb:Option Bool:=some true
def ZsW (p0:List Int):Option (List Int):=bif Nat.ble p0.length 1000000 then some (p0.mergeSort fun x y=>decide (x <=y)) else none
end Go.Proofs.YtbmbbcaaimehkaaGreat
end
section
set_option maxRecDepth 100000
noncomputable section
namespace Go.Proofs.YtbmbbcaaimehkaaGreat
open Go.YT Go.Lf
def Zc:Jy Zz where
 sz:=3
 pos:=by decide
 Par:=Unit
 dflt:= ()
 sh:=fun _ x=>[.bool x.here,.int .i64 x.ZX,.int .i64 x.age]
 len:=fun _ _=>rfl
 one:=fun _ _=>rfl
 F:=fun _ _ _ _=>True
 mono:=fun _ x=>x
 up:=fun _ x=>x
def Ze:Jy Zq where
 sz:=5
 pos:=by decide
 Par:=Unit
 dflt:= ()
 sh:=fun _ x=>[.int .i64 x.msg,.int .i64 x.place,.int .i64 x.from_,.int .i64 x.age,.int .i64 x.hops]
 len:=fun _ _=>rfl
 one:=fun _ _=>rfl
 F:=fun _ _ _ _=>True
 mono:=fun _ x=>x
 up:=fun _ x=>x
def Zd:Jy Zf where
 sz:=12
 pos:=by decide
 Par:= (Option Addr×Nat)×(Option Addr×Nat)
 dflt:= ((none,0),(none,0))
 sh:=fun p x=>[.int .i64 x.kind,.int .i64 x.ZX,.int .i64 x.ZV.msg,.int .i64 x.ZV.place,.int .i64 x.ZV.from_,.int .i64 x.ZV.age,.int .i64 x.ZV.hops,.slice p.1.1 x.qV.length p.1.2,.slice p.2.1 x.Yd.length p.2.2,.int .i64 x.place,.int .i64 x.at_,.int .i64 x.age]
 len:=fun _ _=>rfl
 one:=fun _ _=>rfl
 F:=fun wm h p x=>Sl (Zr .i64) wm h p.1.1 p.1.2 x.qV∧Sl (Zr .i64) wm h p.2.1 p.2.2 x.Yd
 mono:=fun f ⟨y0,y1⟩=>⟨y0.mono f,y1.mono f⟩
 up:=fun f ⟨y0,y1⟩=>⟨y0.up f,y1.up f⟩
def ZpG:Jy Zb where
 sz:=6
 pos:=by decide
 Par:= (Option Addr×Nat)×(Option Addr×Nat)×(Option Addr×Nat)×(Option Addr×Nat)×(Option Addr×Nat)
 dflt:= ((none,0),(none,0),(none,0),(none,0),(none,0))
 sh:=fun p x=>[.slice p.1.1 x.Zx.length p.1.2,.slice p.2.1.1 x.qK.length p.2.1.2,.slice p.2.2.1.1 x.qQ.length p.2.2.1.2,.slice p.2.2.2.1.1 x.qJ.length p.2.2.2.1.2,.slice p.2.2.2.2.1 x.qG.length p.2.2.2.2.2,.int .i64 x.said]
 len:=fun _ _=>rfl
 one:=fun _ _=>rfl
 F:=fun wm h p x=>Sl (Zr .i64) wm h p.1.1 p.1.2 x.Zx∧Sl (ZJ (Zr .i64)) wm h p.2.1.1 p.2.1.2 x.qK∧Sl (ZJ Zc) wm h p.2.2.1.1 p.2.2.1.2 x.qQ∧Sl (ZJ Ze) wm h p.2.2.2.1.1 p.2.2.2.1.2 x.qJ∧Sl Zd wm h p.2.2.2.2.1 p.2.2.2.2.2 x.qG
 mono:=fun f ⟨y0,y1,y2,y3,y4⟩=>⟨y0.mono f,y1.mono f,y2.mono f,y3.mono f,y4.mono f⟩
 up:=fun f ⟨y0,y1,y2,y3,y4⟩=>⟨y0.up f,y1.up f,y2.up f,y3.up f,y4.up f⟩
def Zy:Jy Zj where
 sz:=5
 pos:=by decide
 Par:=Unit
 dflt:= ()
 sh:=fun _ x=>[.int .i64 x.deed,.int .i64 x.place,.int .i64 x.at_,.int .i64 x.n,.int .i64 x.hops]
 len:=fun _ _=>rfl
 one:=fun _ _=>rfl
 F:=fun _ _ _ _=>True
 mono:=fun _ x=>x
 up:=fun _ x=>x
def Wi:Jy ZF where
 sz:=3
 pos:=by decide
 Par:=Unit
 dflt:= ()
 sh:=fun _ x=>[.int .i64 x.act,.int .i64 x.a,.int .i64 x.b]
 len:=fun _ _=>rfl
 one:=fun _ _=>rfl
 F:=fun _ _ _ _=>True
 mono:=fun _ x=>x
 up:=fun _ x=>x
def ZcB:Jy XR where
 sz:=4
 pos:=by decide
 Par:=Unit
 dflt:= ()
 sh:=fun _ x=>[.int .i64 x.at_,.int .i64 x.age,.int .i64 x.letter,.bool x.is]
 len:=fun _ _=>rfl
 one:=fun _ _=>rfl
 F:=fun _ _ _ _=>True
 mono:=fun _ x=>x
 up:=fun _ x=>x
def XO:Jy YA where
 sz:=3
 pos:=by decide
 Par:=Unit
 dflt:= ()
 sh:=fun _ x=>[.int .i64 x.machine,.bool x.here,.int .i64 x.age]
 len:=fun _ _=>rfl
 one:=fun _ _=>rfl
 F:=fun _ _ _ _=>True
 mono:=fun _ x=>x
 up:=fun _ x=>x
theorem ZDo:XX.P.underlying 4=some .bool:=Kq0
theorem XL:XX.P.underlying 22=some (.slice 3):=Kq0
theorem Zhf:XX.P.underlying 24=some (.slice 22):=Kq0
theorem ZeW:XX.P.underlying 25=some (.slice 64):=Kq0
theorem ZeV:XX.P.underlying 26=some (.slice 90):=Kq0
theorem UZ:XX.P.underlying 27=some (.slice 95):=Kq0
theorem ZeU:XX.P.underlying 41=some (.slice 67):=Kq0
theorem ZMP:XX.P.underlying 46=some (.slice 40):=Kq0
theorem WJ:XX.P.underlying 64=some (.slice 63):=Kq0
theorem ZaY:XX.P.underlying 90=some (.slice 92):=Kq0
theorem KQ:XX.P.underlying 102=some (.slice 104):=Kq0
theorem ZmH:XX.P.underlying 110=some (.slice 4):=Kq0
theorem ZrV:XX.P.underlying 124=some (.slice 120):=Kq0
theorem Zf6:XX.P.underlying 143=some (.map 93 142):=Kq0
theorem W9:YV XX.P 3=some false:=Kq0
theorem ZFL:YV XX.P 4=some false:=Kq0
theorem ZHq:YV XX.P 22=some false:=Kq0
theorem ZkK:YV XX.P 24=some false:=Kq0
theorem Zri:YV XX.P 25=some false:=Kq0
theorem ZkJ:YV XX.P 26=some false:=Kq0
theorem ZCu:YV XX.P 27=some false:=Kq0
theorem ZfM:YV XX.P 29=some true:=Kq0
theorem Zb5:YV XX.P 30=some false:=Kq0
theorem ZR4:YV XX.P 38=some false:=Kq0
theorem ZCt:YV XX.P 40=some true:=Kq0
theorem ZHp:YV XX.P 41=some false:=Kq0
theorem Zb4:YV XX.P 63=some true:=Kq0
theorem ZR3:YV XX.P 64=some false:=Kq0
theorem ZR2:YV XX.P 65=some false:=Kq0
theorem ZCs:YV XX.P 67=some true:=Kq0
theorem ZR1:YV XX.P 90=some false:=Kq0
theorem ZfL:YV XX.P 92=some true:=Kq0
theorem ZR0:YV XX.P 93=some false:=Kq0
theorem WZ:YV XX.P 95=some true:=Kq0
theorem ZkL:YV XX.P 104=some true:=Kq0
theorem ZLY:YV XX.P 116=some false:=Kq0
theorem ZoP:YV XX.P 120=some true:=Kq0
theorem ZCv:YV XX.P 124=some false:=Kq0
theorem XA:Yy XX.P 3=some 1:=Kq0
theorem Zpr:Yy XX.P 4=some 1:=Kq0
theorem Uh:Yy XX.P 22=some 1:=Kq0
theorem Zx3:Yy XX.P 24=some 1:=Kq0
theorem Zx2:Yy XX.P 25=some 1:=Kq0
theorem Zx1:Yy XX.P 26=some 1:=Kq0
theorem Zbv:Yy XX.P 27=some 1:=Kq0
theorem KT:Yy XX.P 29=some 6:=Kq0
theorem ZHW:Yy XX.P 30=some 1:=Kq0
theorem Zr1:Yy XX.P 40=some 3:=Kq0
theorem ZmM:Yy XX.P 41=some 1:=Kq0
theorem Y3:Yy XX.P 63=some 3:=Kq0
theorem Zbu:Yy XX.P 64=some 1:=Kq0
theorem KS:Yy XX.P 67=some 5:=Kq0
theorem Ug:Yy XX.P 90=some 1:=Kq0
theorem JA:Yy XX.P 92=some 5:=Kq0
theorem Xj:Yy XX.P 95=some 12:=Kq0
theorem Qq:Yy XX.P 104=some 4:=Kq0
theorem ZDw:Yy XX.P 116=some 1:=Kq0
theorem Zas:Yy XX.P 120=some 3:=Kq0
theorem ZE9:ZT XX.P 29 0 0:=ZT.of Kq0
theorem Zu9:ZT XX.P 29 1 1:=ZT.of Kq0
theorem Zu8:ZT XX.P 29 2 2:=ZT.of Kq0
theorem Zu7:ZT XX.P 29 3 3:=ZT.of Kq0
theorem KC:ZT XX.P 29 4 4:=ZT.of Kq0
theorem ZE8:ZT XX.P 29 5 5:=ZT.of Kq0
theorem ZE7:ZT XX.P 40 0 0:=ZT.of Kq0
theorem ZE6:ZT XX.P 40 1 1:=ZT.of Kq0
theorem Zu6:ZT XX.P 40 2 2:=ZT.of Kq0
theorem ZE5:ZT XX.P 63 0 0:=ZT.of Kq0
theorem ZE4:ZT XX.P 63 1 1:=ZT.of Kq0
theorem ZE3:ZT XX.P 63 2 2:=ZT.of Kq0
theorem ZE2:ZT XX.P 67 0 0:=ZT.of Kq0
theorem ZE1:ZT XX.P 67 1 1:=ZT.of Kq0
theorem ZE0:ZT XX.P 67 2 2:=ZT.of Kq0
theorem ZEZ:ZT XX.P 67 3 3:=ZT.of Kq0
theorem ZEY:ZT XX.P 67 4 4:=ZT.of Kq0
theorem ZEX:ZT XX.P 92 0 0:=ZT.of Kq0
theorem ZEW:ZT XX.P 92 1 1:=ZT.of Kq0
theorem ZEV:ZT XX.P 92 2 2:=ZT.of Kq0
theorem ZEU:ZT XX.P 92 3 3:=ZT.of Kq0
theorem ZET:ZT XX.P 92 4 4:=ZT.of Kq0
theorem ZES:ZT XX.P 95 0 0:=ZT.of Kq0
theorem ZER:ZT XX.P 95 1 1:=ZT.of Kq0
theorem ZEQ:ZT XX.P 95 2 2:=ZT.of Kq0
theorem ZEP:ZT XX.P 95 3 7:=ZT.of Kq0
theorem ZnJ:ZT XX.P 95 4 8:=ZT.of Kq0
theorem ZEO:ZT XX.P 95 5 9:=ZT.of Kq0
theorem Zu5:ZT XX.P 95 6 10:=ZT.of Kq0
theorem Zu4:ZT XX.P 95 7 11:=ZT.of Kq0
theorem Zfu:ZT XX.P 100 0 0:=ZT.of Kq0
theorem Zft:ZT XX.P 100 1 6:=ZT.of Kq0
theorem ZBr:ZT XX.P 104 0 0:=ZT.of Kq0
theorem ZBq:ZT XX.P 104 1 1:=ZT.of Kq0
theorem ZBp:ZT XX.P 104 2 2:=ZT.of Kq0
theorem ZBo:ZT XX.P 104 3 3:=ZT.of Kq0
theorem ZBn:ZT XX.P 120 0 0:=ZT.of Kq0
theorem ZBm:ZT XX.P 120 1 1:=ZT.of Kq0
theorem ZBl:ZT XX.P 120 2 2:=ZT.of Kq0
theorem ZBk:ZT XX.P 126 0 0:=ZT.of Kq0
theorem ZBj:ZT XX.P 126 1 6:=ZT.of Kq0
theorem UY:Xl XX.P 3=some (.int .i64 0):=Kq0
theorem ZF4:Xl XX.P 4=some (.bool false):=Kq0
theorem ZrF:Xl XX.P 22=some (.slice none 0 0):=Kq0
theorem ZrE:Xl XX.P 29=some (.agg #[.slice none 0 0,.slice none 0 0,.slice none 0 0,.slice none 0 0,.slice none 0 0,.int .i64 0]):=Kq0
theorem ZHy:Xl XX.P 30=some (.int .i64 0):=Kq0
theorem ZHx:Xl XX.P 40=some (.agg #[.int .i64 0,.int .i64 0,.int .i64 0]):=Kq0
theorem Zbo:Xl XX.P 63=some (.agg #[.bool false,.int .i64 0,.int .i64 0]):=Kq0
theorem ZrD:Xl XX.P 64=some (.slice none 0 0):=Kq0
theorem ZaF:Xl XX.P 67=some (.agg #[.int .i64 0,.int .i64 0,.int .i64 0,.int .i64 0,.int .i64 0]):=Kq0
theorem ZrC:Xl XX.P 90=some (.slice none 0 0):=Kq0
theorem Zcj:Xl XX.P 92=some (.agg #[.int .i64 0,.int .i64 0,.int .i64 0,.int .i64 0,.int .i64 0]):=Kq0
theorem U5:Xl XX.P 95=some (.agg #[.int .i64 0,.int .i64 0,.int .i64 0,.int .i64 0,.int .i64 0,.int .i64 0,.int .i64 0,.slice none 0 0,.slice none 0 0,.int .i64 0,.int .i64 0,.int .i64 0]):=Kq0
theorem ZtS:Xl XX.P 100=some (.agg #[.slice none 0 0,.slice none 0 0,.slice none 0 0,.slice none 0 0,.slice none 0 0,.int .i64 0,.slice none 0 0]):=Kq0
theorem Zmv:Xl XX.P 104=some (.agg #[.int .i64 0,.int .i64 0,.int .i64 0,.bool false]):=Kq0
theorem ZC5:Xl XX.P 116=some (.nilFunc):=Kq0
theorem Zmu:Xl XX.P 120=some (.agg #[.int .i64 0,.bool false,.int .i64 0]):=Kq0
theorem ZtR:Xl XX.P 126=some (.agg #[.slice none 0 0,.slice none 0 0,.slice none 0 0,.slice none 0 0,.slice none 0 0,.int .i64 0,.slice none 0 0]):=Kq0
theorem Zib:Xl XX.P 142=some (.nilFunc):=Kq0
theorem Zmo:WA XX.P 29 [.slice none 0 0,.slice none 0 0,.slice none 0 0,.slice none 0 0,.slice none 0 0,.int .i64 0] [(0,1),(1,1),(2,1),(3,1),(4,1),(5,1)]:= ⟨_,_,ZrE,rfl,Tryz.underlying29,by kernel_rfl⟩
theorem ZkE:WA XX.P 63 [.bool false,.int .i64 0,.int .i64 0] [(0,1),(1,1),(2,1)]:= ⟨_,_,Zbo,rfl,Tryz.underlying63,by kernel_rfl⟩
theorem ZhQ:WA XX.P 67 [.int .i64 0,.int .i64 0,.int .i64 0,.int .i64 0,.int .i64 0] [(0,1),(1,1),(2,1),(3,1),(4,1)]:= ⟨_,_,ZaF,rfl,Tryz.underlying67,by kernel_rfl⟩
theorem ZCc:WA XX.P 92 [.int .i64 0,.int .i64 0,.int .i64 0,.int .i64 0,.int .i64 0] [(0,1),(1,1),(2,1),(3,1),(4,1)]:= ⟨_,_,Zcj,rfl,Tryz.underlying92,by kernel_rfl⟩
theorem ZfG:WA XX.P 95 [.int .i64 0,.int .i64 0,.int .i64 0,.int .i64 0,.int .i64 0,.int .i64 0,.int .i64 0,.slice none 0 0,.slice none 0 0,.int .i64 0,.int .i64 0,.int .i64 0] [(0,1),(1,1),(2,5),(7,1),(8,1),(9,1),(10,1),(11,1)]:= ⟨_,_,U5,rfl,Tryz.underlying95,by kernel_rfl⟩
theorem ZLR:WA XX.P 100 [.slice none 0 0,.slice none 0 0,.slice none 0 0,.slice none 0 0,.slice none 0 0,.int .i64 0,.slice none 0 0] [(0,6),(6,1)]:= ⟨_,_,ZtS,rfl,Tryz.underlying100,by kernel_rfl⟩
theorem ZCd:WA XX.P 104 [.int .i64 0,.int .i64 0,.int .i64 0,.bool false] [(0,1),(1,1),(2,1),(3,1)]:= ⟨_,_,Zmv,rfl,Tryz.underlying104,by kernel_rfl⟩
theorem Ztt:WA XX.P 120 [.int .i64 0,.bool false,.int .i64 0] [(0,1),(1,1),(2,1)]:= ⟨_,_,Zmu,rfl,Tryz.underlying120,by kernel_rfl⟩
theorem ZLQ:WA XX.P 126 [.slice none 0 0,.slice none 0 0,.slice none 0 0,.slice none 0 0,.slice none 0 0,.int .i64 0,.slice none 0 0] [(0,6),(6,1)]:= ⟨_,_,ZtR,rfl,Tryz.underlying126,by kernel_rfl⟩
theorem Xe:Zbm XX.P #[22,22] 1 8:= ⟨3,.int .i64 0,by kernel_rfl⟩
theorem Zrd:Zbm XX.P #[24,24] 1 24:= ⟨22,.slice none 0 0,by kernel_rfl⟩
theorem Zrc:Zbm XX.P #[25,25] 1 24:= ⟨64,.slice none 0 0,by kernel_rfl⟩
theorem Zrb:Zbm XX.P #[26,26] 1 24:= ⟨90,.slice none 0 0,by kernel_rfl⟩
theorem Q5:Zbm XX.P #[27,27] 12 128:= ⟨95,.agg #[.int .i64 0,.int .i64 0,.int .i64 0,.int .i64 0,.int .i64 0,.int .i64 0,.int .i64 0,.slice none 0 0,.slice none 0 0,.int .i64 0,.int .i64 0,.int .i64 0],by kernel_rfl⟩
theorem Zag:Zbm XX.P #[41,41] 5 40:= ⟨67,.agg #[.int .i64 0,.int .i64 0,.int .i64 0,.int .i64 0,.int .i64 0],by kernel_rfl⟩
theorem Zra:Zbm XX.P #[64,64] 3 24:= ⟨63,.agg #[.bool false,.int .i64 0,.int .i64 0],by kernel_rfl⟩
theorem Zaf:Zbm XX.P #[90,90] 5 40:= ⟨92,.agg #[.int .i64 0,.int .i64 0,.int .i64 0,.int .i64 0,.int .i64 0],by kernel_rfl⟩
theorem ZHk (x y:Zz):Zxd XX.P 63 (Zc.sh () x) (Zc.sh () y) (QA x y):=
 ⟨by kernel_rfl,ZdF (d:=9999) (bs:= [x.here==y.here,x.ZX==y.ZX,x.age==y.age]) Tryz.underlying63 Kq0 ⟨⟨by decide,_,_,Yo Kq0 rfl,Yo Kq0 rfl,Zor Kq0⟩,⟨by decide,_,_,Yo Kq0 rfl,Yo Kq0 rfl,eq_int Kq0⟩,⟨by decide,_,_,Yo Kq0 rfl,Yo Kq0 rfl,eq_int Kq0⟩,trivial⟩⟩
theorem ZQ6 (x y:Zj):Zxd XX.P 67 (Zy.sh () x) (Zy.sh () y) (KD x y):=
 ⟨by kernel_rfl,ZdF (d:=9999) (bs:= [x.deed==y.deed,x.place==y.place,x.at_==y.at_,x.n==y.n,x.hops==y.hops]) Tryz.underlying67 Kq0 ⟨⟨by decide,_,_,Yo Kq0 rfl,Yo Kq0 rfl,eq_int Kq0⟩,⟨by decide,_,_,Yo Kq0 rfl,Yo Kq0 rfl,eq_int Kq0⟩,⟨by decide,_,_,Yo Kq0 rfl,Yo Kq0 rfl,eq_int Kq0⟩,⟨by decide,_,_,Yo Kq0 rfl,Yo Kq0 rfl,eq_int Kq0⟩,⟨by decide,_,_,Yo Kq0 rfl,Yo Kq0 rfl,eq_int Kq0⟩,trivial⟩⟩
theorem Zvh (x y:Zq):Zxd XX.P 92 (Ze.sh () x) (Ze.sh () y) (Xw x y):=
 ⟨by kernel_rfl,ZdF (d:=9999) (bs:= [x.msg==y.msg,x.place==y.place,x.from_==y.from_,x.age==y.age,x.hops==y.hops]) Tryz.underlying92 Kq0 ⟨⟨by decide,_,_,Yo Kq0 rfl,Yo Kq0 rfl,eq_int Kq0⟩,⟨by decide,_,_,Yo Kq0 rfl,Yo Kq0 rfl,eq_int Kq0⟩,⟨by decide,_,_,Yo Kq0 rfl,Yo Kq0 rfl,eq_int Kq0⟩,⟨by decide,_,_,Yo Kq0 rfl,Yo Kq0 rfl,eq_int Kq0⟩,⟨by decide,_,_,Yo Kq0 rfl,Yo Kq0 rfl,eq_int Kq0⟩,trivial⟩⟩
theorem ZLv (x y:YA):Zxd XX.P 120 (XO.sh () x) (XO.sh () y) (ZfA x y):=
 ⟨by kernel_rfl,ZdF (d:=9999) (bs:= [x.machine==y.machine,x.here==y.here,x.age==y.age]) Tryz.underlying120 Kq0 ⟨⟨by decide,_,_,Yo Kq0 rfl,Yo Kq0 rfl,eq_int Kq0⟩,⟨by decide,_,_,Yo Kq0 rfl,Yo Kq0 rfl,Zor Kq0⟩,⟨by decide,_,_,Yo Kq0 rfl,Yo Kq0 rfl,eq_int Kq0⟩,trivial⟩⟩
theorem Zl7:ZkX XX.P 93 (Value.int .i64):=ZkX.int Kq0
theorem ZRH:ZbN XX.P 4=some 1:=Kq0
theorem ZFx:ZbN XX.P 104=some 32:=Kq0
theorem ZFw:ZbN XX.P 120=some 24:=Kq0
theorem ZAg:(XX.fns.get 14).isSome=true:=Kq0
theorem ZPr:(XX.fns.get 17).isSome=true:=Kq0
theorem ZGK:(XX.fns.get 18).isSome=true:=Kq0
theorem ZPq:(XX.fns.get 19).isSome=true:=Kq0
theorem ZPp:(XX.fns.get 21).isSome=true:=Kq0
theorem ZPo:(XX.fns.get 22).isSome=true:=Kq0
theorem ZPn:(XX.fns.get 23).isSome=true:=Kq0
theorem ZPm:(XX.fns.get 24).isSome=true:=Kq0
theorem ZPl:(XX.fns.get 25).isSome=true:=Kq0
theorem ZPk:(XX.fns.get 26).isSome=true:=Kq0
theorem Zqk:(XX.fns.get 27).isSome=true:=Kq0
theorem ZPj:(XX.fns.get 36).isSome=true:=Kq0
theorem ZPi:(XX.fns.get 47).isSome=true:=Kq0
theorem ZPh:(XX.fns.get 48).isSome=true:=Kq0
theorem ZPg:(XX.fns.get 49).isSome=true:=Kq0
theorem ZPf:(XX.fns.get 50).isSome=true:=Kq0
theorem ZPe:(XX.fns.get 51).isSome=true:=Kq0
theorem Zju:(XX.fns.get 52).isSome=true:=Kq0
theorem ZAf:(XX.fns.get 53).isSome=true:=Kq0
theorem ZGJ:(XX.fns.get 54).isSome=true:=Kq0
theorem ZPd:(XX.fns.get 55).isSome=true:=Kq0
theorem Zjt:(XX.fns.get 56).isSome=true:=Kq0
theorem ZPc:(XX.fns.get 57).isSome=true:=Kq0
theorem ZPb:(XX.fns.get 58).isSome=true:=Kq0
theorem ZPa:(XX.fns.get 59).isSome=true:=Kq0
theorem ZAe:(XX.fns.get 60).isSome=true:=Kq0
theorem ZAd:(XX.fns.get 61).isSome=true:=Kq0
theorem ZO9:(XX.fns.get 62).isSome=true:=Kq0
theorem ZO8:(XX.fns.get 65).isSome=true:=Kq0
theorem ZhB:(XX.fns.get 67).isSome=true:=Kq0
theorem ZO7:(XX.fns.get 68).isSome=true:=Kq0
theorem ZO6:(XX.fns.get 69).isSome=true:=Kq0
theorem ZO5:(XX.fns.get 70).isSome=true:=Kq0
theorem ZO4:(XX.fns.get 71).isSome=true:=Kq0
theorem ZO3:(XX.fns.get 72).isSome=true:=Kq0
theorem ZO2:(XX.fns.get 73).isSome=true:=Kq0
theorem ZGI:(XX.fns.get 74).isSome=true:=Kq0
theorem ZuO:(XX.fns.get 75).isSome=true:=Kq0
theorem ZGH:(XX.fns.get 76).isSome=true:=Kq0
theorem ZAc:(XX.fns.get 77).isSome=true:=Kq0
theorem ZAb:(XX.fns.get 78).isSome=true:=Kq0
theorem ZGG:(XX.fns.get 79).isSome=true:=Kq0
theorem ZuN:(XX.fns.get 80).isSome=true:=Kq0
theorem ZO1:(XX.fns.get 81).isSome=true:=Kq0
theorem ZO0:(XX.fns.get 82).isSome=true:=Kq0
theorem ZOZ:(XX.fns.get 83).isSome=true:=Kq0
theorem ZGF:(XX.fns.get 84).isSome=true:=Kq0
theorem ZOY:(XX.fns.get 85).isSome=true:=Kq0
theorem ZOX:(XX.fns.get 86).isSome=true:=Kq0
theorem ZOW:(XX.fns.get 88).isSome=true:=Kq0
theorem ZOV:(XX.fns.get 89).isSome=true:=Kq0
theorem ZOU:(XX.fns.get 90).isSome=true:=Kq0
theorem ZOT:(XX.fns.get 91).isSome=true:=Kq0
theorem ZOS:(XX.fns.get 92).isSome=true:=Kq0
theorem ZAa:(XX.fns.get 93).isSome=true:=Kq0
theorem ZGE:(XX.fns.get 94).isSome=true:=Kq0
theorem Zz9:(XX.fns.get 95).isSome=true:=Kq0
theorem ZGD:(XX.fns.get 96).isSome=true:=Kq0
theorem Zz8:(XX.fns.get 97).isSome=true:=Kq0
theorem Zjs:(XX.fns.get 98).isSome=true:=Kq0
theorem ZOR:(XX.fns.get 99).isSome=true:=Kq0
theorem ZAi:(XX.fns.get 100).isSome=true:=Kq0
theorem ZJl:(XX.fns.get 101).isSome=true:=Kq0
theorem ZJk:(XX.fns.get 102).isSome=true:=Kq0
theorem ZAh:(XX.fns.get 103).isSome=true:=Kq0
theorem ZJj:(XX.fns.get 104).isSome=true:=Kq0
theorem ZJi:(XX.fns.get 105).isSome=true:=Kq0
theorem ZJh:(XX.fns.get 106).isSome=true:=Kq0
theorem ZJg:(XX.fns.get 109).isSome=true:=Kq0
end Go.Proofs.YtbmbbcaaimehkaaGreat
end
end
section
noncomputable section
namespace Go.YT
open Go.Lf
class Zcg (P:Program) (t:TypeId):Prop where
 out:YV P t=some false
class ZoX (P:Program) (t:TypeId):Prop where
 out:YV P t=some true
class SzF (P:Program) (t:TypeId) (n:outParam Nat):Prop where
 out:Yy P t=some n
class QH (P:Program) (t:TypeId) (f:Nat) (o:outParam Nat):Prop where
 out:ZT P t f o
class ZfQ (P:Program) (t:TypeId) (e:outParam TypeId):Prop where
 out:P.underlying t=some (.slice e)
class ZMd (P:Program) (t:TypeId):Prop where
 out:P.underlying t=some .bool
class ZbU (P:Program) (t:TypeId) (v:outParam Value):Prop where
 out:Xl P t=some v
theorem ia {v:Value} (h:UG v=false):UG v=false:=h
theorem Kg {fr:Fr} {t:Nat} {c:Bool} {v:Value} (h:fr.at t=cond c v undef) (ha:UG v=false) (hc:c=true):YB fr (.tmp t)=some v:=YU h ha hc
section
variable {X:Ctx} {h:H} {fr:Fr} {ty:TypeId} {p':String} {af:Array Edge} {g:Option (Nat×Bool)} {d:Option Tmp} {wm:Nat} {T:Nat ->Prop} {h0:H} {G Gr:List (Ast wm)}
theorem ZRO {x:Operand} {t:TypeId} {f off b o:Nat} [hf:QH X.P t f off] (hx:YB fr x=some (.pointer (some ⟨b,o,none⟩))):XY X h (YB fr) ⟨d,.fieldAddr t x f,ty,p',af,g⟩=some (.val (.pointer (some ⟨b,o + off,none⟩)),.none):=Qf hf.out hx
theorem ZXJ {x:Operand} {t:TypeId} {b oo:Nat} {vs:List Value} {v:Value} [ht:Zcg X.P t] (hx:YB fr x=some (.pointer (some ⟨b,oo,none⟩))) (hS:Sp wm T h0 G h) (pp:Pk G (bx wm b vs) Gr) (hv:vs[oo]? =some v):
 XY X h (YB fr) ⟨d,.load t x,ty,p',af,g⟩=some (.val v,.none):=Y8 ht.out hx (hS.KI pp) (Nat.zero_add _).symm hv
theorem ZRM {x:Operand} {t:TypeId} {b oo sz:Nat} {vs ws:List Value} [ht:ZoX X.P t] [hs:SzF X.P t sz] (hx:YB fr x=some (.pointer (some ⟨b,oo,none⟩))) (hS:Sp wm T h0 G h) (pp:Pk G (bx wm b vs) Gr) (hj:Nat.ble (oo + sz) vs.length=true) (hv:(vs.drop oo).take sz=ws):
 XY X h (YB fr) ⟨d,.load t x,ty,p',af,g⟩=some (.val (.agg ws.toArray),.none):=YJ ht.out hs.out hx (hS.KI pp) (Nat.zero_add _).symm hj hv
theorem ZRP {dd:Tmp} {x:Operand} {t:TypeId} {v:Value} {vs:List Value} (hx:YB fr x=some v) (hS:Sp wm T h0 G h) (hv:v.cells.toList=vs):
 HN X wm ⟨some dd,.box t x,ty,p',af,g⟩ fr h (fun v h'=>∃ b,h.size=b∧v= .pointer (some ⟨b,0,none⟩)∧Sp wm T h0 (bx wm b vs::G) h'):=ZGd hS hx hv
theorem ZRQ {dd:Tmp} {t:TypeId} {v:Value} {vs:List Value} [hz:ZbU X.P t v] (hS:Sp wm T h0 G h) (hv:v.cells.toList=vs):
 HN X wm ⟨some dd,.alloc t,ty,p',af,g⟩ fr h (fun v h'=>∃ b,h.size=b∧v= .pointer (some ⟨b,0,none⟩)∧Sp wm T h0 (bx wm b vs::G) h'):=Zhl hS hz.out hv
theorem ZXI {x y:Operand} {t:TypeId} {b o sz:Nat} {cs cs' vs:List Value} {v:Value} [hs:SzF X.P t sz] (hx:YB fr x=some (.pointer (some ⟨b,o,none⟩))) (hS:Sp wm T h0 G h) (pk:Pk G (bx wm b cs) Gr) (hy:YB fr y=some v)
 (hvs:v.cells.toList=vs) (hn:Nat.beq vs.length sz=true) (hl:Nat.ble (o + sz) cs.length=true) (hc:vs.all Value.oneCell'=true) (hv:splice cs o vs=cs'):
 HU X wm ⟨none,.store t x y,ty,p',af,g⟩ fr h (fun i=>i=b) (fun h'=>Sp wm T h0 (bx wm b cs'::Gr) h'):=Ui hS pk hs.out hx hy hvs hn hl hc hv
theorem ZRN {α:Type} {xs:List α} {v:α} {x y:Operand} {t e:TypeId} {sz b o nn c dd:Nat} {a:Option Addr} {k:Int} [hu:ZfQ X.P t e] [hs:SzF X.P e sz] (hx:YB fr x=some (.slice a nn c)) (hy:YB fr y=some (.int .i64 k)) (hn:nn=xs.length) (ha:a=some ⟨b,o,none⟩) (hk:ZL xs k=some v):
 XY X h (YB fr) ⟨some dd,.indexAddr t x y,ty,p',af,g⟩=some (.val (.pointer (some ⟨b,o + k.toNat * sz,none⟩)),.none):=Yn hu.out hs.out hx hy hn ha hk
theorem ZRL {x:Operand} {t:TypeId} {b o oo j:Nat} {vs:List Value} {v:Value} [ht:Zcg X.P t] (hx:YB fr x=some (.pointer (some ⟨b,oo,none⟩))) (ha:At h b o vs) (ho:oo=o + j) (hv:vs[j]? =some v):
 XY X h (YB fr) ⟨d,.load t x,ty,p',af,g⟩=some (.val v,.none):=Y8 ht.out hx ha ho hv
theorem ZRK {x:Operand} {t e':TypeId} {a:Option Addr} {mm cc dd:Nat} [hu:ZfQ X.P t e'] (hx:YB fr x=some (.slice a mm cc)):
 XY X h (YB fr) ⟨some dd,.call {callee:= .builtin .len,args:=#[x],argTypes:=#[t]},ty,p',af,g⟩=some (.val (.int .i64 (mm:Int)),.none):=ZbR hu.out hx rfl
end
section
variable {X:Ctx} {n wm:Nat} {rd:Option Nat} {ops:Array Oper} {l:List Oper} {fr:Fr} {ds:List Deferred} {h:H} {ty:TypeId} {p:String} {af:Array Edge} {g:Option (Nat×Bool)} {sf:ST} {m:Nat}
theorem WX.w2 {Q:Fr ->H ->Prop} {d:Nat} {op:Op} {v:Value} (hg:Yt ops ⟨some d,op,ty,p,af,g⟩ fr) (hd:Nat.blt d n=true) (hM:okM ops sf m ⟨some d,op,ty,p,af,g⟩=true) (ha:XY X h (YB fr) ⟨some d,op,ty,p,af,g⟩=some (.val v,.none)) (k:WX X n wm rd ops sf (m + 1) h l (Tr.set fr d v) Q):
 WX X n wm rd ops sf m h (⟨some d,op,ty,p,af,g⟩::l) fr Q:=WX.w hg hd ha k hM
theorem WX.gv2 {Q:Fr ->H ->Prop} {d:Nat} {op:Op} {c:Bool} {v:Value} (hg:Zw ops ⟨some d,op,ty,p,af,g⟩ fr c) (hd:Nat.blt d n=true) (hM:okM ops sf m ⟨some d,op,ty,p,af,g⟩=true) (ha:c=true ->XY X h (YB fr) ⟨some d,op,ty,p,af,g⟩=some (.val v,.none)) (k:WX X n wm rd ops sf (m + 1) h l (Tr.set fr d (cond c v undef)) Q):
 WX X n wm rd ops sf m h (⟨some d,op,ty,p,af,g⟩::l) fr Q:=WX.gv hg hd ha k hM
end
structure Kp (q:Prop):Prop where
 out:q
section
variable {X:Ctx} {n wm:Nat} {rd:Option Nat} {Q:XX ->Fs ->Prop}
theorem E0 {p:Prop}(h:p:=by(focus (repeat (first | with_reducible exact fh | ((with_reducible apply Xf);exact rfl) | ((with_reducible apply Y7);exact rfl) | ((with_reducible apply YE);exact rfl) | ((with_reducible apply ZC);exact rfl) | with_reducible assumption));first|done|fail)):p:=h
theorem cn {c:Operand} {a b:Code} {t:Bool} {fr:Fr} {ds:List Deferred} {h:H} {α:Type} {x y r:α} (hL:(bif t then x else y)=r) (h1:t=true ->x=r ->WC X n wm rd a ⟨fr,ds,h,none⟩ Q) (h2:t=false ->y=r ->WC X n wm rd b ⟨fr,ds,h,none⟩ Q) (hc:YB fr c=some (.bool t):=by(first | exact evC rfl | (apply YG;exact E0;(first | exact ia rfl | assumption)) | (apply Kg;exact E0;(first | exact ia rfl | assumption);assumption) | fail)):WC X n wm rd (.cond c a b) ⟨fr,ds,h,none⟩ Q:=
 WC.ZRr hc (fun e=>h1 e (Ua e hL)) (fun e=>h2 e (Ub e hL))
theorem rt {fn:Func} {fr:Fr} {h h0:H} {T:Nat ->Prop} {G G':List (Ast wm)} {wr:Option Nat} {t:Tmp} {β:Type} {x r:β} {g:β ->Value} (hL:some x=some r) (hT:T=Qk G) (hS:Sp wm T h0 G' h) (hr:fn.results.toList= [.tmp t]:=by exact rfl) (hv:YB fr (.tmp t)=some (g x):=by(first | exact evC rfl | (apply YG;exact E0;(first | exact ia rfl | assumption)) | (apply Kg;exact E0;(first | exact ia rfl | assumption);assumption) | fail)):
 Yk X fn (fun e h'=>∃ v,e= .ret v∧CP (fun v Gb=>v=g r∧Gb= []) G h0 v h') .ret ⟨fr,[],h,wr⟩:=by
 cases hL;exact Yk.XI hr (ZU hv ZE) ⟨_,⟨rfl,rfl⟩,hT ▸ hS.only .n⟩
theorem bg {f:FuncId} {fn:Func} {c:Code} {args:List Value} {n:Nat} {K:Value ->List (Ast wm) ->Prop} {G:List (Ast wm)} {h:H} {fr:Fr} (hnt:fn.ntmps=n) (Z0:wm <=h.size) (hO:Yc G h)
 (k:∀ T,T=Qk (wm:=wm) G ->Sp wm T h G h ->WC X n wm none c ⟨fr,[],h,none⟩ (Yk X fn (fun e h'=>∃ v,e= .ret v∧CP K G h v h'))) (hf:X.fns.get f=some fn:=by kernel_rfl) (hb:fn.body=some c:=by exact rfl) (hn:args.length <=n:=by simp)
 (hfr:Qi args 0 .nil=fr:=by(simp only [Z4,Z9,Nat.reduceAdd];exact rfl)):WR X f args.toArray wm h (CP K G h):=by
 subst hfr;exact WF.begin hf hb hnt hn (k _ rfl (Sp.start Z0 hO))
end
theorem lk {p:Prop} (h:p:=by(first | exact evC rfl | (apply YG;exact E0;(first | exact ia rfl | assumption)) | (apply Kg;exact E0;(first | exact ia rfl | assumption);assumption) | fail)):p:=h
theorem lks {p:Prop} (h:p:=by
 repeat (first | exact ZA | (apply Zg;(focus (first | exact evC rfl | (apply YG;exact E0;(first | exact ia rfl | assumption)) | (apply Kg;exact E0;(first | exact ia rfl | assumption);assumption) | fail);done)))
 done):p:=h
theorem Yv {p:Prop} (h:p:=by
 repeat (first | with_reducible exact fh | ((with_reducible apply Xf);exact rfl) | ((with_reducible apply Y7);exact rfl) | ((with_reducible apply YE);exact rfl) | ((with_reducible apply ZC);exact rfl) | with_reducible assumption | refine⟨?_,?_⟩)
 done):p:=h
theorem r1 {p q:Prop} (k:q) (h:Kp q ->p:=by
 intro k
 first
 | refine WO.nil ?_
 | refine ZlG.YQ ?_
 | refine WC.seq ?_
 | refine WC.region ?_
 | ((first | apply WO.w gN rfl | (apply WO.gv;(focus (first | (apply Zw.yes rfl rfl rfl;exact E0) | (apply Zw.no rfl rfl rfl;exact E0) | (apply Zw.Zk5 rfl rfl rfl;exact E0) | (apply Zw.no2 rfl rfl rfl;exact E0) | fail);done);rfl;intro hg) | (apply WX.w2 gN;rfl;rfl) | (apply WX.gv2;(focus (first | (apply Zw.yes rfl rfl rfl;exact E0) | (apply Zw.no rfl rfl rfl;exact E0) | (apply Zw.Zk5 rfl rfl rfl;exact E0) | (apply Zw.no2 rfl rfl rfl;exact E0) | fail);done);rfl;rfl;intro hg));(focus (first
   | ((with_reducible apply ZFD);(first | exact evC rfl | (apply YG;exact E0;(first | exact ia rfl | assumption)) | (apply Kg;exact E0;(first | exact ia rfl | assumption);assumption) | fail))
   | ((with_reducible apply ZXJ);(focus (first | exact evC rfl | (apply YG;exact E0;(first | exact ia rfl | assumption)) | (apply Kg;exact E0;(first | exact ia rfl | assumption);assumption) | fail);done);assumption;(focus (first | exact k0 | exact k1 | exact k2 | exact k3 | exact k4 | exact k5 | exact k6 | exact k7 | (repeat (first | exact k7 | apply Pk.s)));done);rfl)
   | ((with_reducible apply ZRO);(first | exact evC rfl | (apply YG;exact E0;(first | exact ia rfl | assumption)) | (apply Kg;exact E0;(first | exact ia rfl | assumption);assumption) | fail))
   | ((with_reducible apply Zbh);(first | exact evC rfl | (apply YG;exact E0;(first | exact ia rfl | assumption)) | (apply Kg;exact E0;(first | exact ia rfl | assumption);assumption) | fail))
   | ((with_reducible apply Qg);(focus (first | exact evC rfl | (apply YG;exact E0;(first | exact ia rfl | assumption)) | (apply Kg;exact E0;(first | exact ia rfl | assumption);assumption) | fail);done);(focus (first | exact evC rfl | (apply YG;exact E0;(first | exact ia rfl | assumption)) | (apply Kg;exact E0;(first | exact ia rfl | assumption);assumption) | fail);done);(first | with_reducible exact Zw7 | with_reducible exact ZCC | with_reducible exact ZCz | with_reducible exact ZfO | with_reducible exact Zw4 | with_reducible exact ZCA | with_reducible exact ZCB | with_reducible exact ZkP | with_reducible exact Zw5 | with_reducible exact Zw6 ZMd.out | with_reducible exact ZdL ZMd.out))
   | ((with_reducible apply ZRM);(focus (first | exact evC rfl | (apply YG;exact E0;(first | exact ia rfl | assumption)) | (apply Kg;exact E0;(first | exact ia rfl | assumption);assumption) | fail);done);assumption;(focus (first | exact k0 | exact k1 | exact k2 | exact k3 | exact k4 | exact k5 | exact k6 | exact k7 | (repeat (first | exact k7 | apply Pk.s)));done);rfl;(focus simp only [Nat.zero_add,Nat.reduceAdd,List.drop_succ_cons,List.drop_zero,List.take_succ_cons,List.take_zero,List.take_nil];rfl))
   | ((with_reducible apply ZRK);(first | exact evC rfl | (apply YG;exact E0;(first | exact ia rfl | assumption)) | (apply Kg;exact E0;(first | exact ia rfl | assumption);assumption) | fail))
   | ((with_reducible apply ZRN);(focus (first | exact evC rfl | (apply YG;exact E0;(first | exact ia rfl | assumption)) | (apply Kg;exact E0;(first | exact ia rfl | assumption);assumption) | fail);done);(focus (first | exact evC rfl | (apply YG;exact E0;(first | exact ia rfl | assumption)) | (apply Kg;exact E0;(first | exact ia rfl | assumption);assumption) | fail);done);(focus (exact rfl));assumption;assumption)
   | ((with_reducible apply ZRL);(focus (first | exact evC rfl | (apply YG;exact E0;(first | exact ia rfl | assumption)) | (apply Kg;exact E0;(first | exact ia rfl | assumption);assumption) | fail);done);(focus (first | assumption | (apply At.fz;(focus (apply Sp.fz;assumption));assumption;assumption));done);(focus (first | exact(Nat.add_zero _).symm | exact rfl);done);rfl)
   | ((with_reducible apply Ztv);(focus (first | exact evC rfl | (apply YG;exact E0;(first | exact ia rfl | assumption)) | (apply Kg;exact E0;(first | exact ia rfl | assumption);assumption) | fail);done);rfl)
   | ((with_reducible apply ZkG);(first | exact evC rfl | (apply YG;exact E0;(first | exact ia rfl | assumption)) | (apply Kg;exact E0;(first | exact ia rfl | assumption);assumption) | fail))
   | ((with_reducible apply Ki);(first | exact evC rfl | (apply YG;exact E0;(first | exact ia rfl | assumption)) | (apply Kg;exact E0;(first | exact ia rfl | assumption);assumption) | fail))
   | ((with_reducible apply ZkH);(focus (first | exact evC rfl | (apply YG;exact E0;(first | exact ia rfl | assumption)) | (apply Kg;exact E0;(first | exact ia rfl | assumption);assumption) | fail);done);(focus (apply ZQ4;exact E0);done);(first | exact evC rfl | (apply YG;exact E0;(first | exact ia rfl | assumption)) | (apply Kg;exact E0;(first | exact ia rfl | assumption);assumption) | fail))
   | ((with_reducible apply Zq5);(focus (first | exact evC rfl | (apply YG;exact E0;(first | exact ia rfl | assumption)) | (apply Kg;exact E0;(first | exact ia rfl | assumption);assumption) | fail);done);(focus (first | exact evC rfl | (apply YG;exact E0;(first | exact ia rfl | assumption)) | (apply Kg;exact E0;(first | exact ia rfl | assumption);assumption) | fail);done);(apply ZQ4;exact E0))
   | fail)))
 | (apply WO.hu gN;(focus (first | (((with_reducible apply ZXI));(focus (first | exact evC rfl | (apply YG;exact E0;(first | exact ia rfl | assumption)) | (apply Kg;exact E0;(first | exact ia rfl | assumption);assumption) | fail);done);assumption;(focus (first | exact k0 | exact k1 | exact k2 | exact k3 | exact k4 | exact k5 | exact k6 | exact k7 | (repeat (first | exact k7 | apply Pk.s)));done);(focus (first | exact evC rfl | (apply YG;exact E0;(first | exact ia rfl | assumption)) | (apply Kg;exact E0;(first | exact ia rfl | assumption);assumption) | fail);done);(focus (first | (simp only [Zg4,Zez,Zc9,Zg2,Zg3,Zg6,ZbM,cells_func,ZaQ,Zad,Zda];exact rfl) | exact rfl));exact rfl;exact rfl;exact rfl;(focus simp only [splice,List.take_succ_cons,List.take_zero,List.drop_succ_cons,List.drop_zero,List.cons_append,List.nil_append,List.append_nil,List.length_cons,List.length_nil,Nat.reduceAdd,Nat.zero_add,List.take_nil,List.drop_nil];exact rfl)) | fail)))
 | (apply WO.hn gN rfl;(focus (first | (((with_reducible apply ZRP));(focus (first | exact evC rfl | (apply YG;exact E0;(first | exact ia rfl | assumption)) | (apply Kg;exact E0;(first | exact ia rfl | assumption);assumption) | fail);done);assumption;(focus (first | (simp only [Zg4,Zez,Zc9,Zg2,Zg3,Zg6,ZbM,cells_func,ZaQ,Zad,Zda];exact rfl) | exact rfl))) | (((with_reducible apply ZRQ));assumption;(focus (first | (simp only [Zg4,Zez,Zc9,Zg2,Zg3,Zg6,ZbM,cells_func,ZaQ,Zad,Zda];exact rfl) | exact rfl))) | fail)))
 | refine WC.skip ?_
 | refine WC.ret ?_
 | refine WC.block ?_
 | refine WC.exit ?_
 | refine ZlG.ret ?_
 | refine ZlG.exit ?_
 | refine UU.ret ?_
 | refine UU.YQ ?_
 | refine UU.here ?_
 | refine Ya.exit ?_
 | refine Ya.ret ?_
 | refine WX.nil ?_
 | fail
 exact k.out):p:=h ⟨k⟩
theorem sl {p:Prop} (h:p:=by
 repeat (first | exact Sel.n | (apply Sel.c;(focus (first | exact k0 | exact k1 | exact k2 | exact k3 | exact k4 | exact k5 | exact k6 | exact k7 | (repeat (first | exact k7 | apply Pk.s))))))
 done):p:=h
theorem r2 {p q:Prop} (k:q) (h:Kp q ->p:=by
 intro k
 iterate 2 (refine r1 ?_)
 exact k.out):p:=h ⟨k⟩
theorem r3 {p q:Prop} (k:q) (h:Kp q ->p:=by
 intro k
 iterate 3 (refine r1 ?_)
 exact k.out):p:=h ⟨k⟩
theorem r4 {p q:Prop} (k:q) (h:Kp q ->p:=by
 intro k
 iterate 4 (refine r1 ?_)
 exact k.out):p:=h ⟨k⟩
theorem r5 {p q:Prop} (k:q) (h:Kp q ->p:=by
 intro k
 iterate 5 (refine r1 ?_)
 exact k.out):p:=h ⟨k⟩
theorem r6 {p q:Prop} (k:q) (h:Kp q ->p:=by
 intro k
 iterate 6 (refine r1 ?_)
 exact k.out):p:=h ⟨k⟩
theorem r7 {p q:Prop} (k:q) (h:Kp q ->p:=by
 intro k
 iterate 7 (refine r1 ?_)
 exact k.out):p:=h ⟨k⟩
theorem r8 {p q:Prop} (k:q) (h:Kp q ->p:=by
 intro k
 iterate 8 (refine r1 ?_)
 exact k.out):p:=h ⟨k⟩
theorem r9 {p q:Prop} (k:q) (h:Kp q ->p:=by
 intro k
 iterate 9 (refine r1 ?_)
 exact k.out):p:=h ⟨k⟩
theorem r10 {p q:Prop} (k:q) (h:Kp q ->p:=by
 intro k
 iterate 10 (refine r1 ?_)
 exact k.out):p:=h ⟨k⟩
theorem Jv {p q:Prop} (k:q) (h:Kp q ->p:=by
 intro k
 iterate 11 (refine r1 ?_)
 exact k.out):p:=h ⟨k⟩
theorem WN {p q:Prop} (k:q) (h:Kp q ->p:=by
 intro k
 iterate 12 (refine r1 ?_)
 exact k.out):p:=h ⟨k⟩
theorem r13 {p q:Prop} (k:q) (h:Kp q ->p:=by
 intro k
 iterate 13 (refine r1 ?_)
 exact k.out):p:=h ⟨k⟩
theorem r14 {p q:Prop} (k:q) (h:Kp q ->p:=by
 intro k
 iterate 14 (refine r1 ?_)
 exact k.out):p:=h ⟨k⟩
theorem r15 {p q:Prop} (k:q) (h:Kp q ->p:=by
 intro k
 iterate 15 (refine r1 ?_)
 exact k.out):p:=h ⟨k⟩
theorem r16 {p q:Prop} (k:q) (h:Kp q ->p:=by
 intro k
 iterate 16 (refine r1 ?_)
 exact k.out):p:=h ⟨k⟩
end Go.YT
end
end
section
noncomputable section
namespace Go.Proofs.YtbmbbcaaimehkaaGreat
open Go.YT Go.Lf
abbrev cM (x:Zq):List Value:= [.int .i64 x.msg,.int .i64 x.place,.int .i64 x.from_,.int .i64 x.age,.int .i64 x.hops]
abbrev cS (x:ZF):List Value:= [.int .i64 x.act,.int .i64 x.a,.int .i64 x.b]
abbrev cE (x:Zz):List Value:= [.bool x.here,.int .i64 x.ZX,.int .i64 x.age]
abbrev cL (x:Zf) (a:Option Addr) (c:Nat) (b:Option Addr) (d:Nat):List Value:= [.int .i64 x.kind,.int .i64 x.ZX,.int .i64 x.ZV.msg,.int .i64 x.ZV.place,.int .i64 x.ZV.from_,.int .i64 x.ZV.age,.int .i64 x.ZV.hops,.slice a x.qV.length c,.slice b x.Yd.length d,.int .i64 x.place,.int .i64 x.at_,.int .i64 x.age]
abbrev cV (a0:Option Addr) (n0 c0:Nat) (a1:Option Addr) (n1 c1:Nat) (a2:Option Addr) (n2 c2:Nat) (a3:Option Addr) (n3 c3:Nat) (a4:Option Addr) (n4 c4:Nat) (s:Int):List Value:= [.slice a0 n0 c0,.slice a1 n1 c1,.slice a2 n2 c2,.slice a3 n3 c3,.slice a4 n4 c4,.int .i64 s]
abbrev cG (a0:Option Addr) (n0 c0:Nat) (a1:Option Addr) (n1 c1:Nat) (a2:Option Addr) (n2 c2:Nat) (a3:Option Addr) (n3 c3:Nat) (a4:Option Addr) (n4 c4:Nat) (s:Int) (a5:Option Addr) (n5 c5:Nat):List Value:= [.slice a0 n0 c0,.slice a1 n1 c1,.slice a2 n2 c2,.slice a3 n3 c3,.slice a4 n4 c4,.int .i64 s,.slice a5 n5 c5]
abbrev cW (x:Zb) (a0:Option Addr) (c0:Nat) (a1:Option Addr) (c1:Nat) (a2:Option Addr) (c2:Nat) (a3:Option Addr) (c3:Nat) (a4:Option Addr) (c4:Nat):List Value:= [.slice a0 x.Zx.length c0,.slice a1 x.qK.length c1,.slice a2 x.qQ.length c2,.slice a3 x.qJ.length c3,.slice a4 x.qG.length c4,.int .i64 x.said]
abbrev cH (x:Yb) (a0:Option Addr) (c0:Nat) (a1:Option Addr) (c1:Nat) (a2:Option Addr) (c2:Nat) (a3:Option Addr) (c3:Nat) (a4:Option Addr) (c4:Nat) (a5:Option Addr) (c5:Nat):List Value:= [.slice a0 x.Za.Zx.length c0,.slice a1 x.Za.qK.length c1,.slice a2 x.Za.qQ.length c2,.slice a3 x.Za.qJ.length c3,.slice a4 x.Za.qG.length c4,.int .i64 x.Za.said,.slice a5 x.qX.length c5]
instance:Zcg XX.P 3:= ⟨W9⟩
instance:Zcg XX.P 4:= ⟨ZFL⟩
instance:Zcg XX.P 22:= ⟨ZHq⟩
instance:Zcg XX.P 24:= ⟨ZkK⟩
instance:Zcg XX.P 25:= ⟨Zri⟩
instance:Zcg XX.P 26:= ⟨ZkJ⟩
instance:Zcg XX.P 27:= ⟨ZCu⟩
instance:ZoX XX.P 29:= ⟨ZfM⟩
instance:Zcg XX.P 30:= ⟨Zb5⟩
instance:Zcg XX.P 38:= ⟨ZR4⟩
instance:ZoX XX.P 40:= ⟨ZCt⟩
instance:Zcg XX.P 41:= ⟨ZHp⟩
instance:ZoX XX.P 63:= ⟨Zb4⟩
instance:Zcg XX.P 64:= ⟨ZR3⟩
instance:Zcg XX.P 65:= ⟨ZR2⟩
instance:ZoX XX.P 67:= ⟨ZCs⟩
instance:Zcg XX.P 90:= ⟨ZR1⟩
instance:ZoX XX.P 92:= ⟨ZfL⟩
instance:Zcg XX.P 93:= ⟨ZR0⟩
instance:ZoX XX.P 95:= ⟨WZ⟩
instance:ZoX XX.P 104:= ⟨ZkL⟩
instance:Zcg XX.P 116:= ⟨ZLY⟩
instance:ZoX XX.P 120:= ⟨ZoP⟩
instance:Zcg XX.P 124:= ⟨ZCv⟩
instance:SzF XX.P 3 1:= ⟨XA⟩
instance:SzF XX.P 4 1:= ⟨Zpr⟩
instance:SzF XX.P 22 1:= ⟨Uh⟩
instance:SzF XX.P 24 1:= ⟨Zx3⟩
instance:SzF XX.P 25 1:= ⟨Zx2⟩
instance:SzF XX.P 26 1:= ⟨Zx1⟩
instance:SzF XX.P 27 1:= ⟨Zbv⟩
instance:SzF XX.P 29 6:= ⟨KT⟩
instance:SzF XX.P 30 1:= ⟨ZHW⟩
instance:SzF XX.P 40 3:= ⟨Zr1⟩
instance:SzF XX.P 41 1:= ⟨ZmM⟩
instance:SzF XX.P 63 3:= ⟨Y3⟩
instance:SzF XX.P 64 1:= ⟨Zbu⟩
instance:SzF XX.P 67 5:= ⟨KS⟩
instance:SzF XX.P 90 1:= ⟨Ug⟩
instance:SzF XX.P 92 5:= ⟨JA⟩
instance:SzF XX.P 95 12:= ⟨Xj⟩
instance:SzF XX.P 104 4:= ⟨Qq⟩
instance:SzF XX.P 116 1:= ⟨ZDw⟩
instance:SzF XX.P 120 3:= ⟨Zas⟩
instance:QH XX.P 29 0 0:= ⟨ZE9⟩
instance:QH XX.P 29 1 1:= ⟨Zu9⟩
instance:QH XX.P 29 2 2:= ⟨Zu8⟩
instance:QH XX.P 29 3 3:= ⟨Zu7⟩
instance:QH XX.P 29 4 4:= ⟨KC⟩
instance:QH XX.P 29 5 5:= ⟨ZE8⟩
instance:QH XX.P 40 0 0:= ⟨ZE7⟩
instance:QH XX.P 40 1 1:= ⟨ZE6⟩
instance:QH XX.P 40 2 2:= ⟨Zu6⟩
instance:QH XX.P 63 0 0:= ⟨ZE5⟩
instance:QH XX.P 63 1 1:= ⟨ZE4⟩
instance:QH XX.P 63 2 2:= ⟨ZE3⟩
instance:QH XX.P 67 0 0:= ⟨ZE2⟩
instance:QH XX.P 67 1 1:= ⟨ZE1⟩
instance:QH XX.P 67 2 2:= ⟨ZE0⟩
instance:QH XX.P 67 3 3:= ⟨ZEZ⟩
instance:QH XX.P 67 4 4:= ⟨ZEY⟩
instance:QH XX.P 92 0 0:= ⟨ZEX⟩
instance:QH XX.P 92 1 1:= ⟨ZEW⟩
instance:QH XX.P 92 2 2:= ⟨ZEV⟩
instance:QH XX.P 92 3 3:= ⟨ZEU⟩
instance:QH XX.P 92 4 4:= ⟨ZET⟩
instance:QH XX.P 95 0 0:= ⟨ZES⟩
instance:QH XX.P 95 1 1:= ⟨ZER⟩
instance:QH XX.P 95 2 2:= ⟨ZEQ⟩
instance:QH XX.P 95 3 7:= ⟨ZEP⟩
instance:QH XX.P 95 4 8:= ⟨ZnJ⟩
instance:QH XX.P 95 5 9:= ⟨ZEO⟩
instance:QH XX.P 95 6 10:= ⟨Zu5⟩
instance:QH XX.P 95 7 11:= ⟨Zu4⟩
instance:QH XX.P 100 0 0:= ⟨Zfu⟩
instance:QH XX.P 100 1 6:= ⟨Zft⟩
instance:QH XX.P 104 0 0:= ⟨ZBr⟩
instance:QH XX.P 104 1 1:= ⟨ZBq⟩
instance:QH XX.P 104 2 2:= ⟨ZBp⟩
instance:QH XX.P 104 3 3:= ⟨ZBo⟩
instance:QH XX.P 120 0 0:= ⟨ZBn⟩
instance:QH XX.P 120 1 1:= ⟨ZBm⟩
instance:QH XX.P 120 2 2:= ⟨ZBl⟩
instance:QH XX.P 126 0 0:= ⟨ZBk⟩
instance:QH XX.P 126 1 6:= ⟨ZBj⟩
instance:ZfQ XX.P 22 3:= ⟨XL⟩
instance:ZfQ XX.P 24 22:= ⟨Zhf⟩
instance:ZfQ XX.P 25 64:= ⟨ZeW⟩
instance:ZfQ XX.P 26 90:= ⟨ZeV⟩
instance:ZfQ XX.P 27 95:= ⟨UZ⟩
instance:ZfQ XX.P 41 67:= ⟨ZeU⟩
instance:ZfQ XX.P 46 40:= ⟨ZMP⟩
instance:ZfQ XX.P 64 63:= ⟨WJ⟩
instance:ZfQ XX.P 90 92:= ⟨ZaY⟩
instance:ZfQ XX.P 102 104:= ⟨KQ⟩
instance:ZfQ XX.P 110 4:= ⟨ZmH⟩
instance:ZfQ XX.P 124 120:= ⟨ZrV⟩
instance:ZMd XX.P 4:= ⟨ZDo⟩
instance:ZbU XX.P 3 (.int .i64 0):= ⟨UY⟩
instance:ZbU XX.P 4 (.bool false):= ⟨ZF4⟩
instance:ZbU XX.P 22 (.slice none 0 0):= ⟨ZrF⟩
instance:ZbU XX.P 29 (.agg #[.slice none 0 0,.slice none 0 0,.slice none 0 0,.slice none 0 0,.slice none 0 0,.int .i64 0]):= ⟨ZrE⟩
instance:ZbU XX.P 30 (.int .i64 0):= ⟨ZHy⟩
instance:ZbU XX.P 40 (.agg #[.int .i64 0,.int .i64 0,.int .i64 0]):= ⟨ZHx⟩
instance:ZbU XX.P 63 (.agg #[.bool false,.int .i64 0,.int .i64 0]):= ⟨Zbo⟩
instance:ZbU XX.P 64 (.slice none 0 0):= ⟨ZrD⟩
instance:ZbU XX.P 67 (.agg #[.int .i64 0,.int .i64 0,.int .i64 0,.int .i64 0,.int .i64 0]):= ⟨ZaF⟩
instance:ZbU XX.P 90 (.slice none 0 0):= ⟨ZrC⟩
instance:ZbU XX.P 92 (.agg #[.int .i64 0,.int .i64 0,.int .i64 0,.int .i64 0,.int .i64 0]):= ⟨Zcj⟩
instance:ZbU XX.P 95 (.agg #[.int .i64 0,.int .i64 0,.int .i64 0,.int .i64 0,.int .i64 0,.int .i64 0,.int .i64 0,.slice none 0 0,.slice none 0 0,.int .i64 0,.int .i64 0,.int .i64 0]):= ⟨U5⟩
instance:ZbU XX.P 100 (.agg #[.slice none 0 0,.slice none 0 0,.slice none 0 0,.slice none 0 0,.slice none 0 0,.int .i64 0,.slice none 0 0]):= ⟨ZtS⟩
instance:ZbU XX.P 104 (.agg #[.int .i64 0,.int .i64 0,.int .i64 0,.bool false]):= ⟨Zmv⟩
instance:ZbU XX.P 116 (.nilFunc):= ⟨ZC5⟩
instance:ZbU XX.P 120 (.agg #[.int .i64 0,.bool false,.int .i64 0]):= ⟨Zmu⟩
instance:ZbU XX.P 126 (.agg #[.slice none 0 0,.slice none 0 0,.slice none 0 0,.slice none 0 0,.slice none 0 0,.int .i64 0,.slice none 0 0]):= ⟨ZtR⟩
instance:ZbU XX.P 142 (.nilFunc):= ⟨Zib⟩
end Go.Proofs.YtbmbbcaaimehkaaGreat
end
end
section
namespace Go.Proofs.YtbmbbcaaimehkaaGreat
open Go.Lf
def ZgR (p0:Zb):Int ->(Int ->Option Bool) ->Option Bool:=fun v46 Zi8=>
 (bif decide (v46 < (p0.qG.length:Int)) then(ZL p0.qG v46).bind fun x49=>(bif((decide ((x49.qV.length:Int) > 20)) || (decide ((x49.Yd.length:Int) > 20))) then some false else Zi8 (Y2 (v46 + 1))) else some true)
def ZgS (F:Nat) (p0:Zb):Int ->(Int ->Option Bool) ->Option Bool:=fun v34 Zja=>
 (bif decide (v34 < (p0.qJ.length:Int)) then(ZL p0.qJ v34).bind fun x37=>(bif decide ((x37.length:Int) > 100) then some false else Zja (Y2 (v34 + 1))) else loop F (ZgR p0) 0)
def ZgT (F:Nat) (p0:Zb):Int ->(Int ->Option Bool) ->Option Bool:=fun v21 ZyX=>
 (bif decide (v21 < (p0.qQ.length:Int)) then(ZL p0.qQ v21).bind fun x24=>(bif decide ((x24.length:Int) > 20) then some false else ZyX (Y2 (v21 + 1))) else loop F (ZgS F p0) 0)
def Zkk (F:Nat) (p0:Zb):Int ->(Int ->Option Bool) ->Option Bool:=fun v8 Ul=>
 (bif decide (v8 < (p0.qK.length:Int)) then(ZL p0.qK v8).bind fun Yf=>(bif decide ((Yf.length:Int) > 100) then some false else Ul (Y2 (v8 + 1))) else loop F (ZgT F p0) 0)
def ZBR (F:Nat) (p0:Zb):Option Bool:=
 (bif(((((decide ((p0.Zx.length:Int) > 20)) || (decide ((p0.qK.length:Int) > 20))) || (decide ((p0.qQ.length:Int) > 20))) || (decide ((p0.qJ.length:Int) > 20))) || (decide ((p0.qG.length:Int) > 200))) then some false else loop F (Zkk F p0) 0)
def Zof (p0:(List Zj)) (p1:(List Zj)):Int ->(Int ->Option Bool) ->Option Bool:=fun v6 Za3=>
 (bif decide (v6 < (p0.length:Int)) then(ZL p0 v6).bind fun x9=>(ZL p1 v6).bind fun x12=>(bif(!(KD x9 x12)) then some false else Za3 (Y2 (v6 + 1))) else some true)
def ZwF (F:Nat) (p0:(List Zj)) (p1:(List Zj)):Option Bool:=
 (bif((p0.length:Int) != (p1.length:Int)) then some false else loop F (Zof p0 p1) 0)
def Zoc (p0:(List Int)) (p1:(List Int)):Int ->(Int ->Option Bool) ->Option Bool:=fun v6 Za3=>
 (bif decide (v6 < (p0.length:Int)) then(ZL p0 v6).bind fun x9=>(ZL p1 v6).bind fun x12=>(bif(x9 !=x12) then some false else Za3 (Y2 (v6 + 1))) else some true)
def Zls (F:Nat) (p0:(List Int)) (p1:(List Int)):Option Bool:=
 (bif((p0.length:Int) != (p1.length:Int)) then some false else loop F (Zoc p0 p1) 0)
end Go.Proofs.YtbmbbcaaimehkaaGreat
end
section
set_option maxRecDepth 20000
noncomputable section
namespace Go.Proofs.YtbmbbcaaimehkaaGreat
open Go.YT Go.Lf
theorem ZLq {F wm h} {p0:Zb} {Zi Zh Zn Zm Zl Zk Zp Zo Zu Zt} {r} (Z0:wm <=h.size) (ZB:Sl (Zr .i64) wm h Zi Zh p0.Zx) (ZN:Sl (ZJ (Zr .i64)) wm h Zn Zm p0.qK) (ZI:Sl (ZJ Zc) wm h Zl Zk p0.qQ) (ZM:Sl (ZJ Ze) wm h Zp Zo p0.qJ) (ZK:Sl Zd wm h Zu Zt p0.qG) (hL:ZBR F p0=some r):
 WR XX 19 #[.agg [.slice Zi p0.Zx.length Zh,.slice Zn p0.qK.length Zm,.slice Zl p0.qQ.length Zk,.slice Zp p0.qJ.length Zo,.slice Zu p0.qG.length Zt,.int .i64 p0.said].toArray] wm h (CP (fun(v:Value) (Gb:List (Ast wm))=>v= .bool r∧Gb= []) [] h):=by
 refine bg Tryz.ntmps19 Z0 Yc.nil ?_;intro T hT hS;unfold ZBR at hL;refine r3 ?_;rintro _ h2 ⟨b1,eb1,rfl,hS⟩;refine r16 ?_;refine r16 ?_;refine r4 ?_;refine cn hL ?_ ?_
 ·intro hc hL;refine r7 ?_;exact rt hL hT hS
 ·intro hc hL;refine WN ?_;refine WC.loop (WL.lift hL (fun v8 s=>∃ fr4 h3,s= ⟨fr4,[],h3,none⟩∧Sp wm T h [bx wm b1 (cW p0 Zi Zh Zn Zm Zl Zk Zp Zo Zu Zt)] h3∧fr4.at 1= .pointer (some ⟨b1,0,none⟩)∧fr4.at 40= .slice Zn p0.qK.length Zm∧fr4.at 41= .int .i64 (p0.qK.length:Int)∧fr4.at 42= .int .i64 v8) ⟨_,_,rfl,hS.only sl,Yv⟩ ?_);clear hL hS;rintro Ul v8 s Znz hL ⟨fr4,h3,rfl,hS,e5,e6,e7,e9⟩;dsimp only [Zkk] at hL;refine r6 ?_;refine cn hL ?_ ?_
  ·intro hc hL;refine r6 ?_;obtain⟨Yf,Zej,hL⟩:=qZ hL;obtain⟨b12,o13,⟨a14,c15⟩,ZZT,Z0N,Z0w,ZP6⟩:=Sl.at_ ZN Zej;refine r1 ?_;have ZZa:Sl (Zr .i64) wm h a14 c15 Yf:=ZP6;refine Jv ?_;refine cn hL ?_ ?_
   ·intro hc hL;refine Jv ?_;exact rt hL hT hS
   ·intro hc hL;refine r7 ?_;exact Ya.YQ (Znz _ _ hL ⟨_,_,rfl,hS.only sl,Yv⟩)
  ·intro hc hL;refine r15 ?_;refine WC.loop (WL.lift hL (fun v21 s=>∃ Zfs h16,s= ⟨Zfs,[],h16,none⟩∧Sp wm T h [bx wm b1 (cW p0 Zi Zh Zn Zm Zl Zk Zp Zo Zu Zt)] h16∧Zfs.at 1= .pointer (some ⟨b1,0,none⟩)∧Zfs.at 51= .slice Zl p0.qQ.length Zk∧Zfs.at 52= .int .i64 (p0.qQ.length:Int)∧Zfs.at 53= .int .i64 v21) ⟨_,_,rfl,hS.only sl,Yv⟩ ?_);clear hL hS;rintro ZyX v21 s ZEu hL ⟨Zfs,h16,rfl,hS,e18,e19,e20,e22⟩;dsimp only [ZgT] at hL;refine r6 ?_;refine cn hL ?_ ?_
   ·intro hc hL;refine r6 ?_;obtain⟨x24,hx24,hL⟩:=qZ hL;obtain⟨b25,o26,⟨a27,c28⟩,ZZP,Z0K,Z0t,ZP2⟩:=Sl.at_ ZI hx24;refine r1 ?_;have ZY7:Sl Zc wm h a27 c28 x24:=ZP2;refine Jv ?_;refine cn hL ?_ ?_
    ·intro hc hL;refine Jv ?_;exact rt hL hT hS
    ·intro hc hL;refine r7 ?_;exact Ya.YQ (ZEu _ _ hL ⟨_,_,rfl,hS.only sl,Yv⟩)
   ·intro hc hL;refine r15 ?_;refine WC.loop (WL.lift hL (fun v34 s=>∃ WV h29,s= ⟨WV,[],h29,none⟩∧Sp wm T h [bx wm b1 (cW p0 Zi Zh Zn Zm Zl Zk Zp Zo Zu Zt)] h29∧WV.at 1= .pointer (some ⟨b1,0,none⟩)∧WV.at 62= .slice Zp p0.qJ.length Zo∧WV.at 63= .int .i64 (p0.qJ.length:Int)∧WV.at 64= .int .i64 v34) ⟨_,_,rfl,hS.only sl,Yv⟩ ?_);clear hL hS;rintro Zja v34 s Znu hL ⟨WV,h29,rfl,hS,e31,e32,e33,e35⟩;dsimp only [ZgS] at hL;refine r6 ?_;refine cn hL ?_ ?_
    ·intro hc hL;refine r6 ?_;obtain⟨x37,Znb,hL⟩:=qZ hL;obtain⟨b38,o39,⟨a40,c41⟩,ZAp,ZAX,ZAO,Zmd⟩:=Sl.at_ ZM Znb;refine r1 ?_;have Zqe:Sl Ze wm h a40 c41 x37:=Zmd;refine Jv ?_;refine cn hL ?_ ?_
     ·intro hc hL;refine Jv ?_;exact rt hL hT hS
     ·intro hc hL;refine r7 ?_;exact Ya.YQ (Znu _ _ hL ⟨_,_,rfl,hS.only sl,Yv⟩)
    ·intro hc hL;refine r15 ?_;refine WC.loop (WL.lift hL (fun v46 s=>∃ ZBg h42,s= ⟨ZBg,[],h42,none⟩∧Sp wm T h [] h42∧ZBg.at 73= .slice Zu p0.qG.length Zt∧ZBg.at 74= .int .i64 (p0.qG.length:Int)∧ZBg.at 75= .int .i64 v46) ⟨_,_,rfl,hS.only .n,Yv⟩ ?_);clear hL hS;rintro Zi8 v46 s Znr hL ⟨ZBg,h42,rfl,hS,e44,e45,e47⟩;dsimp only [ZgR] at hL;refine r6 ?_;refine cn hL ?_ ?_
     ·intro hc hL;refine r6 ?_;obtain⟨x49,Zwm,hL⟩:=qZ hL;obtain⟨b50,o51,⟨⟨a52,c53⟩,⟨a54,c55⟩⟩,ZAn,Zu1,ZG1,ZuV⟩:=Sl.at_ ZK Zwm;refine r1 ?_;have ZY5:Sl (Zr .i64) wm h a52 c53 x49.qV:=ZuV.1;have ZY4:Sl (Zr .i64) wm h a54 c55 x49.Yd:=ZuV.2;refine WO.w gN rfl (YJ WZ Xj (YG fh rfl) (At.fz hS.fz ZG1 Zu1) (j:=0) rfl rfl (ws:= (cL x49 a52 c53 a54 c55)) rfl) ?_;refine r1 ?_;rintro _ h57 ⟨b56,Z5N,rfl,hS⟩;refine r1 ?_;rintro h58 hS;refine r16 ?_;refine cn hL ?_ ?_
      ·intro hc hL;refine Jv ?_;exact rt hL hT hS
      ·intro hc hL;refine r7 ?_;exact Ya.YQ (Znr _ _ hL ⟨_,_,rfl,hS.only .n,Yv⟩)
     ·intro hc hL;refine Jv ?_;exact rt hL hT hS
theorem ZLj {F wm h} {p0 p1:(List Zj)} {Zi Zh Y6 Y4} {r} (Z0:wm <=h.size) (ZB:Sl Zy wm h Zi Zh p0) (XZ:Sl Zy wm h Y6 Y4 p1) (hL:ZwF F p0 p1=some r):
 WR XX 24 #[.slice Zi p0.length Zh,.slice Y6 p1.length Y4] wm h (CP (fun(v:Value) (Gb:List (Ast wm))=>v= .bool r∧Gb= []) [] h):=by
 refine bg Tryz.ntmps24 Z0 Yc.nil ?_;intro T hT hS;unfold ZwF at hL;refine r15 ?_;refine cn hL ?_ ?_
 ·intro hc hL;refine r7 ?_;exact rt hL hT hS
 ·intro hc hL;refine Jv ?_;refine WC.loop (WL.lift hL (fun v6 s=>∃ XV h1,s= ⟨XV,[],h1,none⟩∧Sp wm T h [] h1∧XV.at 0= .slice Zi p0.length Zh∧XV.at 1= .slice Y6 p1.length Y4∧XV.at 12= .int .i64 (p0.length:Int)∧XV.at 13= .int .i64 v6) ⟨_,_,rfl,hS.only .n,Yv⟩ ?_);clear hL hS;rintro Za3 v6 s Zek hL ⟨XV,h1,rfl,hS,e3,e4,e5,e7⟩;dsimp only [Zof] at hL;refine r6 ?_;refine cn hL ?_ ?_
  ·intro hc hL;refine Jv ?_;refine WC.YC mixed Kq0 ?_;refine r2 ?_;obtain⟨x9,hx9,hL⟩:=qZ hL;obtain⟨b10,o11,_,Zqm,Zmf,ZuZ,Zqo⟩:=Sl.at_ ZB hx9;refine r1 ?_;refine WX.w gN rfl (YJ ZCs KS (YG fh rfl) (At.fz hS.fz ZuZ Zmf) (j:=0) rfl rfl (ws:= [.int .i64 x9.deed,.int .i64 x9.place,.int .i64 x9.at_,.int .i64 x9.n,.int .i64 x9.hops]) rfl) ?_ rfl;refine r2 ?_;obtain⟨x12,Zzy,hL⟩:=qZ hL;obtain⟨b13,o14,_,ZGR,ZA2,ZAQ,ZAF⟩:=Sl.at_ XZ Zzy;refine r1 ?_;refine WX.w gN rfl (YJ ZCs KS (YG fh rfl) (At.fz hS.fz ZAQ ZA2) (j:=0) rfl rfl (ws:= [.int .i64 x12.deed,.int .i64 x12.place,.int .i64 x12.at_,.int .i64 x12.n,.int .i64 x12.hops]) rfl) ?_ rfl;refine WX.w gN rfl (Qg (YG (Y7 rfl fh) rfl) (YG fh rfl) (Zbj (xs:= [.int .i64 x9.deed,.int .i64 x9.place,.int .i64 x9.at_,.int .i64 x9.n,.int .i64 x9.hops]) (ys:= [.int .i64 x12.deed,.int .i64 x12.place,.int .i64 x12.at_,.int .i64 x12.n,.int .i64 x12.hops]) (ZQ6 x9 x12) rfl rfl)) ?_ rfl;refine r2 ?_;refine cn hL ?_ ?_
   ·intro hc hL;refine Jv ?_;exact rt hL hT hS
   ·intro hc hL;refine r7 ?_;exact Ya.YQ (Zek _ _ hL ⟨_,_,rfl,hS.only .n,Yv⟩)
  ·intro hc hL;refine Jv ?_;exact rt hL hT hS
theorem ZLk {F h} {p0 p1:(List Zj)} {Zi Zh Y6 Y4} {r} (ZB:Sl Zy h.size h Zi Zh p0) (XZ:Sl Zy h.size h Y6 Y4 p1) (hL:ZwF F p0 p1=some r):Pure XX 24 #[.slice Zi p0.length Zh,.slice Y6 p1.length Y4] h (.bool r):=
 WR.Qb rfl (ZLj (Nat.le_refl _) ZB XZ hL)
theorem ZLg {F wm h} {p0 p1:(List Int)} {Zi Zh Y6 Y4} {r} (Z0:wm <=h.size) (ZB:Sl (Zr .i64) wm h Zi Zh p0) (XZ:Sl (Zr .i64) wm h Y6 Y4 p1) (hL:Zls F p0 p1=some r):
 WR XX 27 #[.slice Zi p0.length Zh,.slice Y6 p1.length Y4] wm h (CP (fun(v:Value) (Gb:List (Ast wm))=>v= .bool r∧Gb= []) [] h):=by
 refine bg Tryz.ntmps27 Z0 Yc.nil ?_;intro T hT hS;unfold Zls at hL;refine r15 ?_;refine cn hL ?_ ?_
 ·intro hc hL;refine r7 ?_;exact rt hL hT hS
 ·intro hc hL;refine Jv ?_;refine WC.loop (WL.lift hL (fun v6 s=>∃ XV h1,s= ⟨XV,[],h1,none⟩∧Sp wm T h [] h1∧XV.at 0= .slice Zi p0.length Zh∧XV.at 1= .slice Y6 p1.length Y4∧XV.at 12= .int .i64 (p0.length:Int)∧XV.at 13= .int .i64 v6) ⟨_,_,rfl,hS.only .n,Yv⟩ ?_);clear hL hS;rintro Za3 v6 s Zek hL ⟨XV,h1,rfl,hS,e3,e4,e5,e7⟩;dsimp only [Zoc] at hL;refine r6 ?_;refine cn hL ?_ ?_
  ·intro hc hL;refine Jv ?_;refine WC.YC mixed Kq0 ?_;refine r2 ?_;obtain⟨x9,hx9,hL⟩:=qZ hL;obtain⟨b10,o11,_,Zqm,Zmf,ZuZ,Zqo⟩:=Sl.at_ ZB hx9;refine r4 ?_;obtain⟨x12,Zzy,hL⟩:=qZ hL;obtain⟨b13,o14,_,ZGR,ZA2,ZAQ,ZAF⟩:=Sl.at_ XZ Zzy;refine r5 ?_;refine cn hL ?_ ?_
   ·intro hc hL;refine Jv ?_;exact rt hL hT hS
   ·intro hc hL;refine r7 ?_;exact Ya.YQ (Zek _ _ hL ⟨_,_,rfl,hS.only .n,Yv⟩)
  ·intro hc hL;refine Jv ?_;exact rt hL hT hS
theorem Zkg {F h} {p0 p1:(List Int)} {Zi Zh Y6 Y4} {r} (ZB:Sl (Zr .i64) h.size h Zi Zh p0) (XZ:Sl (Zr .i64) h.size h Y6 Y4 p1) (hL:Zls F p0 p1=some r):Pure XX 27 #[.slice Zi p0.length Zh,.slice Y6 p1.length Y4] h (.bool r):=
 WR.Qb rfl (ZLg (Nat.le_refl _) ZB XZ hL)
end Go.Proofs.YtbmbbcaaimehkaaGreat
end
end
section
namespace Go.Proofs.YtbmbbcaaimehkaaGreat
open Go.Lf
end Go.Proofs.YtbmbbcaaimehkaaGreat
end
section
set_option maxRecDepth 20000
noncomputable section
namespace Go.Proofs.YtbmbbcaaimehkaaGreat
open Go.YT Go.Lf
end Go.Proofs.YtbmbbcaaimehkaaGreat
end
end
section
namespace Go.Proofs.YtbmbbcaaimehkaaGreat
open Go.Lf
def Zob:Unit ->Option Bool:=fun _=>
 some false
def Zke (p0:Zb) (p1:ZF):Unit ->Option Bool:=fun _=>
 some ((decide (p1.a >=0)) && (decide (p1.a < (p0.Zx.length:Int))))
def Zs5 (p0:Zb) (p1:ZF):Option Bool:=
 (bif(p1.act==1) then(bif((decide (p1.a >=0)) && (decide (p1.a < (p0.qQ.length:Int)))) then some ((decide (p1.b >=0)) && (decide (p1.b < (p0.Zx.length:Int)))) else some false) else(bif(p1.act==2) then(bif((decide (p1.a >=0)) && (decide (p1.a < (p0.Zx.length:Int)))) then some ((decide (p1.b >=0)) && (decide (p1.b < (p0.qQ.length:Int)))) else some false) else(bif(p1.act==3) then(bif(!((decide (p1.b >=0)) && (decide (p1.b < (p0.Zx.length:Int))))) then some false else(Zke p0 p1) ()) else(bif(p1.act==4) then(Zke p0 p1) () else(bif(p1.act==5) then some ((decide (p1.a >=0)) && (decide (p1.a < (p0.qG.length:Int)))) else(Zob) ())))))
def Zj9 (v16:Int) (Wj:(Int×Int×Int×Int×Int×Bool ->Option (XR×Bool))):Int×Int×Int×Int×Bool ->Option (XR×Bool):=fun(v29,v33,v34,v35,v36)=>
 Wj (v29,Y2 (v16 + 1),v33,v34,v35,v36)
def Zj8 (v94:Int) (Zdv:(Int×Int×Int×Int×Int×Bool ->Option (XR×Bool))):Int×Int×Int×Int×Bool ->Option (XR×Bool):=fun(ZhV,ZvL,v117,ZhU,ZDn)=>
 Zdv (ZhV,Y2 (v94 + 1),ZvL,v117,ZhU,ZDn)
def Zn4 (p1:Int) (v63:Int) (ZmT:(Int×Int×Int×Int×Int×Bool ->Option (XR×Bool))) (x70:Zf):Int×Int×Int×Int×Int×Bool ->(Int×Int×Int×Int×Int×Bool ->Option (XR×Bool)) ->Option (XR×Bool):=fun(v85,v94,v96,v97,v98,v99) Zdv=>
 (bif decide (v94 < (x70.qV.length:Int)) then(ZL x70.qV v94).bind fun ZMH=>(bif((ZMH==p1) && (decide (v94 < (x70.Yd.length:Int)))) then(ZL x70.Yd v94).bind fun Zo7=>(Zj8 v94 Zdv) (Y2 (v85 + 1),x70.ZX,Zo7,v63,false) else(Zj8 v94 Zdv) (v85,v96,v97,v98,v99)) else ZmT (v85,Y2 (v63 + 1),v96,v97,v98,v99))
def Zka (F:Nat) (p0:Zb) (p1:Int):Int×Int×Int×Int×Int×Bool ->(Int×Int×Int×Int×Int×Bool ->Option (XR×Bool)) ->Option (XR×Bool):=fun(v59,v63,v65,v66,v67,v68) ZmT=>
 (bif decide (v63 < (p0.qG.length:Int)) then(ZL p0.qG v63).bind fun x70=>loop F (Zn4 p1 v63 ZmT x70) (v59,0,v65,v66,v67,v68) else some ((XR.mk v65 v66 v67 v68),(v59==1)))
def Zn5 (F:Nat) (p0:Zb) (p1:Int):Int×Int×Int×Int×Int×Bool ->(Int×Int×Int×Int×Int×Bool ->Option (XR×Bool)) ->Option (XR×Bool):=fun(v13,v16,v18,v19,v20,v21) Wj=>
 (bif decide (v16 < (p0.qQ.length:Int)) then(ZL p0.qQ v16).bind fun x37=>(ZL x37 p1).bind fun x42=>(bif x42.here then(ZL p0.qQ v16).bind fun WB=>(ZL WB p1).bind fun x50=>(Zj9 v16 Wj) (Y2 (v13 + 1),v16,x50.age,(-1),true) else(Zj9 v16 Wj) (v13,v18,v19,v20,v21)) else loop F (Zka F p0 p1) (v13,0,v18,v19,v20,v21))
def ZgG (F:Nat) (p0:Zb) (p1:Int):Option (XR×Bool):=
 loop F (Zn5 F p0 p1) (0,0,0,0,0,false)
def Zn3 (p0:Zb) (p1:Int) (p2:XR) (p3:Int) (p4:Int):Option Bool:=
 (bif((((decide (p3 < 0)) || (decide (p3 >= (p0.qQ.length:Int)))) || (decide (p4 < 0))) || (decide (p4 > p2.age))) then some false else(bif(p4==p2.age) then some (p2.at_==p3) else(ZL p0.qQ p3).bind fun x5=>(ZL x5 p1).bind fun x10=>some (decide (x10.age > p4))))
def ZqG (p0:Zb) (p1:(List XR)) (p2:Zq) (p3:Int) (p4:Bool):Option Bool:=
 (bif((((((((decide (p2.place < 0)) || (decide (p2.place >= (p0.Zx.length:Int)))) || (decide (p2.from_ < 0))) || (decide (p2.from_ >= (p0.qQ.length:Int)))) || (decide (p2.age < 0))) || (decide (p2.age > 30))) || (decide (p2.hops < 1))) || (decide (p2.hops > (Y2 (p2.age + 1))))) then some false else(ZL p1 p2.place).bind fun x5=>(bif p4 then some (((!x5.is) && (x5.at_==p3)) && (x5.age==p2.age)) else(Zn3 p0 p2.place x5 p3 p2.age).bind fun Yf=>some Yf))
end Go.Proofs.YtbmbbcaaimehkaaGreat
end
section
set_option maxRecDepth 20000
noncomputable section
namespace Go.Proofs.YtbmbbcaaimehkaaGreat
open Go.YT Go.Lf
theorem ZLd {wm h} {p0:Zb} {p1:ZF} {Zi Zh Zn Zm Zl Zk Zp Zo Zu Zt} {r} (Z0:wm <=h.size) (ZB:Sl (Zr .i64) wm h Zi Zh p0.Zx) (ZN:Sl (ZJ (Zr .i64)) wm h Zn Zm p0.qK) (ZI:Sl (ZJ Zc) wm h Zl Zk p0.qQ) (ZM:Sl (ZJ Ze) wm h Zp Zo p0.qJ) (ZK:Sl Zd wm h Zu Zt p0.qG) (hL:Zs5 p0 p1=some r):
 WR XX 47 #[.agg [.slice Zi p0.Zx.length Zh,.slice Zn p0.qK.length Zm,.slice Zl p0.qQ.length Zk,.slice Zp p0.qJ.length Zo,.slice Zu p0.qG.length Zt,.int .i64 p0.said].toArray,.agg [.int .i64 p1.act,.int .i64 p1.a,.int .i64 p1.b].toArray] wm h (CP (fun(v:Value) (Gb:List (Ast wm))=>v= .bool r∧Gb= []) [] h):=by
 refine bg Tryz.ntmps47 Z0 Yc.nil ?_;intro T hT hS;unfold Zs5 at hL;refine r3 ?_;rintro _ h2 ⟨b1,eb1,rfl,hS⟩;refine r1 ?_;rintro _ h4 ⟨b3,eb3,rfl,hS⟩;refine r5 ?_;refine WO.w gN rfl (ZbQ (Zg lk ZA)) ?_;refine r5 ?_;refine WO.w gN rfl (ZbQ (Zg lk ZA)) ?_;refine r3 ?_;refine WC.Kw (r:=r) (fun(_:Unit) s=>∃ fr6 h5,s= ⟨fr6,[],h5,none⟩∧Sp wm T h [] h5) (Zob) ?_ ?_
 ·clear hL hS;rintro _ s hL ⟨fr6,h5,rfl,hS⟩;dsimp only [Zob] at hL;refine r6 ?_;exact rt hL hT hS
 ·skip;refine r9 ?_;refine WC.Kw (r:=r) (fun(_:Unit) s=>∃ fr8 h7,s= ⟨fr8,[],h7,none⟩∧Sp wm T h [bx wm b3 (cS p1),bx wm b1 (cW p0 Zi Zh Zn Zm Zl Zk Zp Zo Zu Zt)] h7∧fr8.at 3= .pointer (some ⟨b3,0,none⟩)∧fr8.at 5= .func (.func 75) #[] [.pointer (some ⟨b1,0,none⟩)].toArray) (Zke p0 p1) ?_ ?_
  ·clear hL hS;rintro _ s hL ⟨fr8,h7,rfl,hS,e9,e10⟩;dsimp only [Zke] at hL;refine r6 ?_;refine WO.inl gN rfl (Xb.clo (first:= []) (cap:= [.pointer (some ⟨b1,0,none⟩)]) lk ZuO lks rfl) (WF.begin (args:= [_,_]) (fn:=Tryz.f75) Kq0 (by exact rfl) Tryz.ntmps75 (by simp) ?_);simp only [Z4,Z9,Nat.reduceAdd];refine r16 ?_;refine r4 ?_;refine Yk.XI rfl (ZU lk ZE) ?_;refine r8 ?_;refine YO.ret ?_;exact rt hL hT hS
  ·skip;refine r15 ?_;refine cn hL ?_ ?_
   ·intro hc hL;refine Jv ?_;refine WO.inl gN rfl (Xb.clo (first:= []) (cap:= [.pointer (some ⟨b1,0,none⟩)]) lk ZGH lks rfl) (WF.begin (args:= [_,_]) (fn:=Tryz.f76) Kq0 (by exact rfl) Tryz.ntmps76 (by simp) ?_);simp only [Z4,Z9,Nat.reduceAdd];refine r16 ?_;refine r4 ?_;refine Yk.XI rfl (ZU lk ZE) ?_;refine r4 ?_;refine WO.ZcW (Zw.yes rfl rfl rfl (YE rfl (ZC rfl fh))) (fun ZnB=>?_) (fun ZnB=>?_)
    ·replace hL:=Ua ZnB hL;refine WO.inl (Zw.on (Zw.yes rfl rfl rfl (YE rfl (ZC rfl fh))) ZnB) rfl (Xb.clo (first:= []) (cap:= [.pointer (some ⟨b1,0,none⟩)]) (YU (YE rfl fh) rfl ZnB) ZuO (Zg (YU fh rfl ZnB) ZA) rfl) (WF.begin (args:= [_,_]) (fn:=Tryz.f75) Kq0 (by exact rfl) Tryz.ntmps75 (by simp) ?_);simp only [Z4,Z9,Nat.reduceAdd];refine r16 ?_;refine r4 ?_;refine Yk.XI rfl (ZU lk ZE) ?_;refine WO.w gN rfl (ZeA lk ZnB lk) ?_;refine r10 ?_;refine YO.ret ?_;refine r3 ?_;refine YO.ret ?_;exact rt hL hT hS
    ·replace hL:=Ub ZnB hL;refine WO.ZcM (Zw.yes rfl rfl rfl (YE rfl (ZC rfl fh))) ZnB rfl ?_;refine WO.w gN rfl (ZeB lk ZnB lk) ?_;refine r10 ?_;refine YO.ret ?_;refine r3 ?_;refine YO.ret ?_;exact rt hL hT hS
   ·intro hc hL;refine r9 ?_;refine cn hL ?_ ?_
    ·intro hc hL;refine r3 ?_;refine UU.other rfl ?_;refine r9 ?_;refine WO.inl gN rfl (Xb.clo (first:= []) (cap:= [.pointer (some ⟨b1,0,none⟩)]) lk ZuO lks rfl) (WF.begin (args:= [_,_]) (fn:=Tryz.f75) Kq0 (by exact rfl) Tryz.ntmps75 (by simp) ?_);simp only [Z4,Z9,Nat.reduceAdd];refine r16 ?_;refine r4 ?_;refine Yk.XI rfl (ZU lk ZE) ?_;refine r4 ?_;refine WO.ZcW (Zw.yes rfl rfl rfl (YE rfl (ZC rfl fh))) (fun ZnA=>?_) (fun ZnA=>?_)
     ·replace hL:=Ua ZnA hL;refine WO.inl (Zw.on (Zw.yes rfl rfl rfl (YE rfl (ZC rfl fh))) ZnA) rfl (Xb.clo (first:= []) (cap:= [.pointer (some ⟨b1,0,none⟩)]) (YU (YE rfl fh) rfl ZnA) ZGH (Zg (YU fh rfl ZnA) ZA) rfl) (WF.begin (args:= [_,_]) (fn:=Tryz.f76) Kq0 (by exact rfl) Tryz.ntmps76 (by simp) ?_);simp only [Z4,Z9,Nat.reduceAdd];refine r16 ?_;refine r4 ?_;refine Yk.XI rfl (ZU lk ZE) ?_;refine WO.w gN rfl (ZeA lk ZnA lk) ?_;refine r8 ?_;refine YO.ret ?_;refine r3 ?_;refine YO.ret ?_;exact rt hL hT hS
     ·replace hL:=Ub ZnA hL;refine WO.ZcM (Zw.yes rfl rfl rfl (YE rfl (ZC rfl fh))) ZnA rfl ?_;refine WO.w gN rfl (ZeB lk ZnA lk) ?_;refine r8 ?_;refine YO.ret ?_;refine r3 ?_;refine YO.ret ?_;exact rt hL hT hS
    ·intro hc hL;refine r9 ?_;refine cn hL ?_ ?_
     ·intro hc hL;refine r3 ?_;refine UU.other rfl ?_;refine r1 ?_;refine UU.other rfl ?_;refine r8 ?_;refine WO.inl gN rfl (Xb.clo (first:= []) (cap:= [.pointer (some ⟨b1,0,none⟩)]) lk ZuO lks rfl) (WF.begin (args:= [_,_]) (fn:=Tryz.f75) Kq0 (by exact rfl) Tryz.ntmps75 (by simp) ?_);simp only [Z4,Z9,Nat.reduceAdd];refine r16 ?_;refine r4 ?_;refine Yk.XI rfl (ZU lk ZE) ?_;refine r3 ?_;refine cn hL ?_ ?_
      ·intro hc hL;refine r7 ?_;refine YO.ret ?_;refine r3 ?_;refine YO.ret ?_;exact rt hL hT hS
      ·intro hc hL;refine r2 ?_;exact YO.YQ _ hL ⟨_,_,rfl,hS.only sl,Yv⟩
     ·intro hc hL;refine r9 ?_;refine cn hL ?_ ?_
      ·intro hc hL;refine r3 ?_;refine UU.other rfl ?_;refine r1 ?_;refine UU.other rfl ?_;refine r1 ?_;refine UU.other rfl ?_;refine r2 ?_;exact YO.YQ _ hL ⟨_,_,rfl,hS.only sl,Yv⟩
      ·intro hc hL;refine r8 ?_;refine cn hL ?_ ?_
       ·intro hc hL;refine r2 ?_;refine UU.other rfl ?_;refine r1 ?_;refine UU.other rfl ?_;refine r1 ?_;refine UU.other rfl ?_;refine r1 ?_;refine UU.other rfl ?_;refine YO.exit ?_;refine r16 ?_;refine r6 ?_;refine YO.ret ?_;exact rt hL hT hS
       ·intro hc hL;refine r3 ?_;refine UU.other rfl ?_;refine r1 ?_;refine UU.other rfl ?_;refine r1 ?_;refine UU.other rfl ?_;refine r1 ?_;refine UU.other rfl ?_;refine YO.exit ?_;refine UU.other rfl ?_;refine r2 ?_;exact YO.YQ _ hL ⟨_,_,rfl,hS.only .n⟩
theorem ZLe {h} {p0:Zb} {p1:ZF} {Zi Zh Zn Zm Zl Zk Zp Zo Zu Zt} {r} (ZB:Sl (Zr .i64) h.size h Zi Zh p0.Zx) (ZN:Sl (ZJ (Zr .i64)) h.size h Zn Zm p0.qK) (ZI:Sl (ZJ Zc) h.size h Zl Zk p0.qQ) (ZM:Sl (ZJ Ze) h.size h Zp Zo p0.qJ) (ZK:Sl Zd h.size h Zu Zt p0.qG) (hL:Zs5 p0 p1=some r):Pure XX 47 #[.agg [.slice Zi p0.Zx.length Zh,.slice Zn p0.qK.length Zm,.slice Zl p0.qQ.length Zk,.slice Zp p0.qJ.length Zo,.slice Zu p0.qG.length Zt,.int .i64 p0.said].toArray,.agg [.int .i64 p1.act,.int .i64 p1.a,.int .i64 p1.b].toArray] h (.bool r):=
 WR.Qb rfl (ZLd (Nat.le_refl _) ZB ZN ZI ZM ZK hL)
theorem Zes {F wm h} {p0:Zb} {p1:Int} {Zi Zh Zn Zm Zl Zk Zp Zo Zu Zt} {r} (Z0:wm <=h.size) (ZB:Sl (Zr .i64) wm h Zi Zh p0.Zx) (ZN:Sl (ZJ (Zr .i64)) wm h Zn Zm p0.qK) (ZI:Sl (ZJ Zc) wm h Zl Zk p0.qQ) (ZM:Sl (ZJ Ze) wm h Zp Zo p0.qJ) (ZK:Sl Zd wm h Zu Zt p0.qG) (hL:ZgG F p0 p1=some r):
 WR XX 52 #[.agg [.slice Zi p0.Zx.length Zh,.slice Zn p0.qK.length Zm,.slice Zl p0.qQ.length Zk,.slice Zp p0.qJ.length Zo,.slice Zu p0.qG.length Zt,.int .i64 p0.said].toArray,.int .i64 p1] wm h (CP (fun(v:Value) (Gb:List (Ast wm))=>v= .tuple [.agg [.int .i64 r.1.at_,.int .i64 r.1.age,.int .i64 r.1.letter,.bool r.1.is].toArray,.bool r.2].toArray∧Gb= []) [] h):=by
 refine bg Tryz.ntmps52 Z0 Yc.nil ?_;intro T hT hS;unfold ZgG at hL;refine r3 ?_;rintro _ h2 ⟨b1,eb1,rfl,hS⟩;refine r1 ?_;rintro _ h4 ⟨b3,eb3,rfl,hS⟩;refine r6 ?_;rintro _ h6 ⟨b5,eb5,rfl,hS⟩;refine r16 ?_;refine r1 ?_;refine WC.loop (WL.lift hL (fun p s=>match p with | (v13,v16,v18,v19,v20,v21)=>∃ fr8 h7,s= ⟨fr8,[],h7,none⟩∧Sp wm T h [bx wm b1 (cW p0 Zi Zh Zn Zm Zl Zk Zp Zo Zu Zt),bx wm b3 [.int .i64 0,.int .i64 0,.int .i64 0,.bool false],bx wm b5 [.int .i64 v18,.int .i64 v19,.int .i64 v20,.bool v21]] h7∧fr8.at 1= .int .i64 p1∧fr8.at 2= .pointer (some ⟨b1,0,none⟩)∧fr8.at 4= .pointer (some ⟨b3,0,none⟩)∧fr8.at 6= .pointer (some ⟨b5,0,none⟩)∧fr8.at 7= .int .i64 v13∧fr8.at 15= .int .i64 (p0.qQ.length:Int)∧fr8.at 16= .int .i64 v16) ⟨_,_,rfl,hS.only sl,Yv⟩ ?_);clear hL hS;rintro Wj ⟨v13,v16,v18,v19,v20,v21⟩ s Znw hL ⟨fr8,h7,rfl,hS,e9,e10,e11,e12,e14,e15,e17⟩;dsimp only [Zn5] at hL;refine r6 ?_;refine cn hL ?_ ?_
 ·intro hc hL;refine r2 ?_;refine WC.Kw (r:=r) (fun(p:Int×Int×Int×Int×Bool) s=>match p with | (v29,v33,v34,v35,v36)=>∃ UX h23,s= ⟨UX,[],h23,none⟩∧Sp wm T h [bx wm b1 (cW p0 Zi Zh Zn Zm Zl Zk Zp Zo Zu Zt),bx wm b3 [.int .i64 0,.int .i64 0,.int .i64 0,.bool false],bx wm b5 [.int .i64 v33,.int .i64 v34,.int .i64 v35,.bool v36]] h23∧UX.at 1= .int .i64 p1∧UX.at 2= .pointer (some ⟨b1,0,none⟩)∧UX.at 4= .pointer (some ⟨b3,0,none⟩)∧UX.at 6= .pointer (some ⟨b5,0,none⟩)∧UX.at 7= .int .i64 v29∧UX.at 15= .int .i64 (p0.qQ.length:Int)∧UX.at 16= .int .i64 v16) (Zj9 v16 Wj) ?_ ?_
  ·clear hL hS;rintro⟨v29,v33,v34,v35,v36⟩ s hL ⟨UX,h23,rfl,hS,e25,e26,e27,e28,e30,e31,e32⟩;dsimp only [Zj9] at hL;refine r4 ?_;exact Ya.YQ (Znw _ _ hL ⟨_,_,rfl,hS.only sl,Yv⟩)
  ·skip;refine WN ?_;obtain⟨x37,Znb,hL⟩:=qZ hL;obtain⟨b38,o39,⟨a40,c41⟩,ZAp,ZAX,ZAO,Zmd⟩:=Sl.at_ ZI Znb;refine r1 ?_;have Zqe:Sl Zc wm h a40 c41 x37:=Zmd;refine r2 ?_;obtain⟨x42,Zzl,hL⟩:=qZ hL;obtain⟨b43,o44,_,ZPD,ZQA,ZQj,ZPX⟩:=Sl.at_ Zqe Zzl;refine r5 ?_;refine cn hL ?_ ?_
   ·intro hc hL;refine r6 ?_;obtain⟨WB,Zzk,hL⟩:=qZ hL;obtain⟨b46,o47,⟨a48,c49⟩,ZGP,ZAW,ZAM,Zqn⟩:=Sl.at_ ZI Zzk;refine r1 ?_;have Zqd:Sl Zc wm h a48 c49 WB:=Zqn;refine r2 ?_;obtain⟨x50,ZUj,hL⟩:=qZ hL;obtain⟨b51,o52,_,ZZI,Z0D,Z0m,ZZ7⟩:=Sl.at_ Zqd ZUj;refine r3 ?_;refine WO.w gN rfl (YX ZCd (Zv lk (Zv lk (Zv lk (Zv lk ZR)))) rfl (cs':= [.int .i64 v16,.int .i64 x50.age,.int .i64 (-1),.bool true]) rfl) ?_;refine r1 ?_;rintro h53 hS;refine r8 ?_;exact YO.YQ _ hL ⟨_,_,rfl,hS.only sl,Yv⟩
   ·intro hc hL;refine r2 ?_;exact YO.YQ _ hL ⟨_,_,rfl,hS.only sl,Yv⟩
 ·intro hc hL;refine r15 ?_;refine WC.loop (WL.lift hL (fun p s=>match p with | (v59,v63,v65,v66,v67,v68)=>∃ ZdO h54,s= ⟨ZdO,[],h54,none⟩∧Sp wm T h [bx wm b3 [.int .i64 0,.int .i64 0,.int .i64 0,.bool false],bx wm b5 [.int .i64 v65,.int .i64 v66,.int .i64 v67,.bool v68]] h54∧ZdO.at 1= .int .i64 p1∧ZdO.at 4= .pointer (some ⟨b3,0,none⟩)∧ZdO.at 6= .pointer (some ⟨b5,0,none⟩)∧ZdO.at 7= .int .i64 v59∧ZdO.at 43= .slice Zu p0.qG.length Zt∧ZdO.at 44= .int .i64 (p0.qG.length:Int)∧ZdO.at 45= .int .i64 v63) ⟨_,_,rfl,hS.only sl,Yv⟩ ?_);clear hL hS;rintro ZmT ⟨v59,v63,v65,v66,v67,v68⟩ s ZEe hL ⟨ZdO,h54,rfl,hS,e56,e57,e58,e60,e61,e62,e64⟩;dsimp only [Zka] at hL;refine r6 ?_;refine cn hL ?_ ?_
  ·intro hc hL;refine r7 ?_;obtain⟨x70,ZIL,hL⟩:=qZ hL;obtain⟨b71,o72,⟨⟨a73,c74⟩,⟨a75,c76⟩⟩,ZPw,ZG6,ZGZ,ZAB⟩:=Sl.at_ ZK ZIL;refine r1 ?_;have ZOw:Sl (Zr .i64) wm h a73 c74 x70.qV:=ZAB.1;have ZOv:Sl (Zr .i64) wm h a75 c76 x70.Yd:=ZAB.2;refine WO.w gN rfl (YJ WZ Xj (YG fh rfl) (At.fz hS.fz ZGZ ZG6) (j:=0) rfl rfl (ws:= (cL x70 a73 c74 a75 c76)) rfl) ?_;refine r1 ?_;rintro _ h78 ⟨b77,Z5E,rfl,hS⟩;refine r2 ?_;rintro h79 hS;refine Jv ?_;refine WC.loop (WL.lift hL (fun p s=>match p with | (v85,v94,v96,v97,v98,v99)=>∃ Zao h80,s= ⟨Zao,[],h80,none⟩∧Sp wm T h [bx wm b3 [.int .i64 0,.int .i64 0,.int .i64 0,.bool false],bx wm b5 [.int .i64 v96,.int .i64 v97,.int .i64 v98,.bool v99],bx wm b77 (cL x70 a73 c74 a75 c76)] h80∧Zao.at 1= .int .i64 p1∧Zao.at 4= .pointer (some ⟨b3,0,none⟩)∧Zao.at 6= .pointer (some ⟨b5,0,none⟩)∧Zao.at 7= .int .i64 v85∧Zao.at 9= .int .i64 v63∧Zao.at 10= .pointer (some ⟨b77,0,none⟩)∧Zao.at 43= .slice Zu p0.qG.length Zt∧Zao.at 44= .int .i64 (p0.qG.length:Int)∧Zao.at 45= .int .i64 v63∧Zao.at 51= .slice a73 x70.qV.length c74∧Zao.at 52= .int .i64 (x70.qV.length:Int)∧Zao.at 53= .int .i64 v94) ⟨_,_,rfl,hS.only sl,Yv⟩ ?_);clear hL hS;rintro Zdv ⟨v85,v94,v96,v97,v98,v99⟩ s Zz3 hL ⟨Zao,h80,rfl,hS,e82,e83,e84,e86,e87,e88,e89,e90,e91,e92,e93,e95⟩;dsimp only [Zn4] at hL;refine r6 ?_;refine cn hL ?_ ?_
   ·intro hc hL;refine r2 ?_;refine WC.Kw (r:=r) (fun(p:Int×Int×Int×Int×Bool) s=>match p with | (ZhV,ZvL,v117,ZhU,ZDn)=>∃ ZaB ZnD,s= ⟨ZaB,[],ZnD,none⟩∧Sp wm T h [bx wm b3 [.int .i64 0,.int .i64 0,.int .i64 0,.bool false],bx wm b5 [.int .i64 ZvL,.int .i64 v117,.int .i64 ZhU,.bool ZDn],bx wm b77 (cL x70 a73 c74 a75 c76)] ZnD∧ZaB.at 1= .int .i64 p1∧ZaB.at 4= .pointer (some ⟨b3,0,none⟩)∧ZaB.at 6= .pointer (some ⟨b5,0,none⟩)∧ZaB.at 7= .int .i64 ZhV∧ZaB.at 9= .int .i64 v63∧ZaB.at 10= .pointer (some ⟨b77,0,none⟩)∧ZaB.at 43= .slice Zu p0.qG.length Zt∧ZaB.at 44= .int .i64 (p0.qG.length:Int)∧ZaB.at 45= .int .i64 v63∧ZaB.at 51= .slice a73 x70.qV.length c74∧ZaB.at 52= .int .i64 (x70.qV.length:Int)∧ZaB.at 53= .int .i64 v94) (Zj8 v94 Zdv) ?_ ?_
    ·clear hL hS;rintro⟨ZhV,ZvL,v117,ZhU,ZDn⟩ s hL ⟨ZaB,ZnD,rfl,hS,ZLB,ZRj,ZLA,ZRi,e108,e109,ZRh,Z6I,ZXg,ZXf,ZLz,e115⟩;dsimp only [Zj8] at hL;refine r4 ?_;exact Ya.YQ (Zz3 _ _ hL ⟨_,_,rfl,hS.only sl,Yv⟩)
    ·skip;refine r4 ?_;obtain⟨ZMH,ZOn,hL⟩:=qZ hL;obtain⟨ZXZ,Z3r,_,ZU8,ZWb,ZVP,ZVE⟩:=Sl.at_ ZOw ZOn;refine r16 ?_;refine r4 ?_;refine cn hL ?_ ?_
     ·intro hc hL;refine r1 ?_;refine WC.YC mixed Kq0 ?_;refine r5 ?_;obtain⟨Zo7,Zzx,hL⟩:=qZ hL;obtain⟨ZRW,ZTL,_,ZJF,ZKi,ZJS,ZJK⟩:=Sl.at_ ZOv Zzx;refine r3 ?_;refine WX.w gN rfl (YX ZCd (Zv lk (Zv lk (Zv lk (Zv lk ZR)))) rfl (cs':= [.int .i64 x70.ZX,.int .i64 Zo7,.int .i64 v63,.bool false]) rfl) ?_ rfl;refine WX.hu gN (Ui hS k1 Qq lk lk (vs:= [.int .i64 x70.ZX,.int .i64 Zo7,.int .i64 v63,.bool false]) rfl rfl rfl rfl (cs':= [.int .i64 x70.ZX,.int .i64 Zo7,.int .i64 v63,.bool false]) rfl) ?_ rfl rfl [] Kq0 Yh.e;rintro ZKx hS;refine r8 ?_;exact YO.YQ _ hL ⟨_,_,rfl,hS.only sl,Yv⟩
     ·intro hc hL;refine r2 ?_;exact YO.YQ _ hL ⟨_,_,rfl,hS.only sl,Yv⟩
   ·intro hc hL;refine r10 ?_;exact Ya.YQ (ZEe _ _ hL ⟨_,_,rfl,hS.only sl,Yv⟩)
  ·intro hc hL;refine Jv ?_;rintro h127 hS;refine r4 ?_;have hr:=Oi0 hL;subst hr;exact Yk.gen (vs:= [.agg [.int .i64 v65,.int .i64 v66,.int .i64 v67,.bool v68].toArray,.bool (v59==1)]) rfl (Y9 (Y7 rfl (ZC rfl e57)) (Jl ZkL Qq (hS.KI k0) (j:=0) rfl rfl (ws:= [.int .i64 v65,.int .i64 v66,.int .i64 v67,.bool v68]) rfl) (ZU lk ZE)) rfl ⟨_,⟨rfl,rfl⟩,hT ▸ hS.only .n⟩
theorem ZK7 {wm h} {p0:Zb} {p1:Int} {p2:XR} {p3 p4:Int} {Zi Zh Zn Zm Zl Zk Zp Zo Zu Zt} {r} (Z0:wm <=h.size) (ZB:Sl (Zr .i64) wm h Zi Zh p0.Zx) (ZN:Sl (ZJ (Zr .i64)) wm h Zn Zm p0.qK) (ZI:Sl (ZJ Zc) wm h Zl Zk p0.qQ) (ZM:Sl (ZJ Ze) wm h Zp Zo p0.qJ) (ZK:Sl Zd wm h Zu Zt p0.qG) (hL:Zn3 p0 p1 p2 p3 p4=some r):
 WR XX 53 #[.agg [.slice Zi p0.Zx.length Zh,.slice Zn p0.qK.length Zm,.slice Zl p0.qQ.length Zk,.slice Zp p0.qJ.length Zo,.slice Zu p0.qG.length Zt,.int .i64 p0.said].toArray,.int .i64 p1,.agg [.int .i64 p2.at_,.int .i64 p2.age,.int .i64 p2.letter,.bool p2.is].toArray,.int .i64 p3,.int .i64 p4] wm h (CP (fun(v:Value) (Gb:List (Ast wm))=>v= .bool r∧Gb= []) [] h):=by
 refine bg Tryz.ntmps53 Z0 Yc.nil ?_;intro T hT hS;unfold Zn3 at hL;refine r3 ?_;rintro _ h2 ⟨b1,eb1,rfl,hS⟩;refine r1 ?_;rintro _ h4 ⟨b3,eb3,rfl,hS⟩;refine r16 ?_;refine Jv ?_;refine cn hL ?_ ?_
 ·intro hc hL;refine r7 ?_;exact rt hL hT hS
 ·intro hc hL;refine Jv ?_;refine cn hL ?_ ?_
  ·intro hc hL;refine Jv ?_;exact rt hL hT hS
  ·intro hc hL;refine r7 ?_;obtain⟨x5,hx5,hL⟩:=qZ hL;obtain⟨b6,o7,⟨a8,c9⟩,ZUU,ZQw,ZQe,ZPS⟩:=Sl.at_ ZI hx5;refine r1 ?_;have ZUy:Sl Zc wm h a8 c9 x5:=ZPS;refine r2 ?_;obtain⟨x10,ZIQ,hL⟩:=qZ hL;obtain⟨b11,o12,_,ZZU,Z0O,Z0x,Z0f⟩:=Sl.at_ ZUy ZIQ;refine r9 ?_;exact rt hL hT hS
theorem Zs2 {h} {p0:Zb} {p1:Int} {p2:XR} {p3 p4:Int} {Zi Zh Zn Zm Zl Zk Zp Zo Zu Zt} {r} (ZB:Sl (Zr .i64) h.size h Zi Zh p0.Zx) (ZN:Sl (ZJ (Zr .i64)) h.size h Zn Zm p0.qK) (ZI:Sl (ZJ Zc) h.size h Zl Zk p0.qQ) (ZM:Sl (ZJ Ze) h.size h Zp Zo p0.qJ) (ZK:Sl Zd h.size h Zu Zt p0.qG) (hL:Zn3 p0 p1 p2 p3 p4=some r):Pure XX 53 #[.agg [.slice Zi p0.Zx.length Zh,.slice Zn p0.qK.length Zm,.slice Zl p0.qQ.length Zk,.slice Zp p0.qJ.length Zo,.slice Zu p0.qG.length Zt,.int .i64 p0.said].toArray,.int .i64 p1,.agg [.int .i64 p2.at_,.int .i64 p2.age,.int .i64 p2.letter,.bool p2.is].toArray,.int .i64 p3,.int .i64 p4] h (.bool r):=
 WR.Qb rfl (ZK7 (Nat.le_refl _) ZB ZN ZI ZM ZK hL)
theorem ZK6 {wm h} {p0:Zb} {p1:(List XR)} {p2:Zq} {p3:Int} {p4:Bool} {Zi Zh Zn Zm Zl Zk Zp Zo Zu Zt Y6 Y4} {r} (Z0:wm <=h.size) (ZB:Sl (Zr .i64) wm h Zi Zh p0.Zx) (ZN:Sl (ZJ (Zr .i64)) wm h Zn Zm p0.qK) (ZI:Sl (ZJ Zc) wm h Zl Zk p0.qQ) (ZM:Sl (ZJ Ze) wm h Zp Zo p0.qJ) (ZK:Sl Zd wm h Zu Zt p0.qG) (XZ:Sl ZcB wm h Y6 Y4 p1) (hL:ZqG p0 p1 p2 p3 p4=some r):
 WR XX 54 #[.agg [.slice Zi p0.Zx.length Zh,.slice Zn p0.qK.length Zm,.slice Zl p0.qQ.length Zk,.slice Zp p0.qJ.length Zo,.slice Zu p0.qG.length Zt,.int .i64 p0.said].toArray,.slice Y6 p1.length Y4,.agg [.int .i64 p2.msg,.int .i64 p2.place,.int .i64 p2.from_,.int .i64 p2.age,.int .i64 p2.hops].toArray,.int .i64 p3,.bool p4] wm h (CP (fun(v:Value) (Gb:List (Ast wm))=>v= .bool r∧Gb= []) [] h):=by
 refine bg Tryz.ntmps54 Z0 Yc.nil ?_;intro T hT hS;unfold ZqG at hL;refine r3 ?_;rintro _ h2 ⟨b1,eb1,rfl,hS⟩;refine r1 ?_;rintro _ h4 ⟨b3,eb3,rfl,hS⟩;refine r16 ?_;refine r16 ?_;refine r16 ?_;refine r7 ?_;refine cn hL ?_ ?_
 ·intro hc hL;refine r7 ?_;exact rt hL hT hS
 ·intro hc hL;refine r7 ?_;obtain⟨x5,hx5,hL⟩:=qZ hL;obtain⟨b6,o7,_,ZUU,ZQw,ZQe,ZPS⟩:=Sl.at_ XZ hx5;refine r1 ?_;refine WO.w gN rfl (YJ ZkL Qq (YG fh rfl) (At.fz hS.fz ZQe ZQw) (j:=0) rfl rfl (ws:= [.int .i64 x5.at_,.int .i64 x5.age,.int .i64 x5.letter,.bool x5.is]) rfl) ?_;refine r1 ?_;rintro _ h9 ⟨b8,eb8,rfl,hS⟩;refine r1 ?_;rintro h10 hS;refine r8 ?_;refine cn hL ?_ ?_
  ·intro hc hL;refine r16 ?_;refine r7 ?_;exact rt hL hT hS
  ·intro hc hL;refine Jv ?_;obtain⟨Yf,Zej,hL⟩:=qZ hL;refine WO.cp gN rfl (Xb.fn ZAf (Zg lk (Zg lk (Zg lk (Zg lk (Zg lk ZA)))))) (Zs2 (hS.Xc ZB) (hS.Xc ZN) (hS.Xc ZI) (hS.Xc ZM) (hS.Xc ZK) Zej) ?_;refine r4 ?_;exact rt hL hT hS
theorem ZBM {h} {p0:Zb} {p1:(List XR)} {p2:Zq} {p3:Int} {p4:Bool} {Zi Zh Zn Zm Zl Zk Zp Zo Zu Zt Y6 Y4} {r} (ZB:Sl (Zr .i64) h.size h Zi Zh p0.Zx) (ZN:Sl (ZJ (Zr .i64)) h.size h Zn Zm p0.qK) (ZI:Sl (ZJ Zc) h.size h Zl Zk p0.qQ) (ZM:Sl (ZJ Ze) h.size h Zp Zo p0.qJ) (ZK:Sl Zd h.size h Zu Zt p0.qG) (XZ:Sl ZcB h.size h Y6 Y4 p1) (hL:ZqG p0 p1 p2 p3 p4=some r):Pure XX 54 #[.agg [.slice Zi p0.Zx.length Zh,.slice Zn p0.qK.length Zm,.slice Zl p0.qQ.length Zk,.slice Zp p0.qJ.length Zo,.slice Zu p0.qG.length Zt,.int .i64 p0.said].toArray,.slice Y6 p1.length Y4,.agg [.int .i64 p2.msg,.int .i64 p2.place,.int .i64 p2.from_,.int .i64 p2.age,.int .i64 p2.hops].toArray,.int .i64 p3,.bool p4] h (.bool r):=
 WR.Qb rfl (ZK6 (Nat.le_refl _) ZB ZN ZI ZM ZK XZ hL)
end Go.Proofs.YtbmbbcaaimehkaaGreat
end
end
section
namespace Go.Proofs.YtbmbbcaaimehkaaGreat
open Go.Lf
def Zn1 (v35:Int) (ZmW:((List Int)×Int ->Option (List Int))) (x38:(List Zq)):(List Int)×Int ->((List Int)×Int ->Option (List Int)) ->Option (List Int):=fun(v46,v56) Zi7=>
 (bif decide (v56 < (x38.length:Int)) then(ZL x38 v56).bind fun x59=>(app 8 v46 [x59.msg]).bind fun z67=>Zi7 (z67,Y2 (v56 + 1)) else ZmW (v46,Y2 (v35 + 1)))
def Zj5 (v80:Int) (K3:((List Int)×Int ->Option (List Int))):(List Int) ->Option (List Int):=fun v85=>
 K3 (v85,Y2 (v80 + 1))
def Zj6 (p0:Zb):(List Int)×Int ->((List Int)×Int ->Option (List Int)) ->Option (List Int):=fun(v73,v80) K3=>
 (bif decide (v80 < (p0.qG.length:Int)) then(ZL p0.qG v80).bind fun x93=>(bif(x93.kind==1) then(app 8 v73 [x93.ZV.msg]).bind fun z105=>(Zj5 v80 K3) z105 else(Zj5 v80 K3) v73) else some v73)
def Zj7 (F:Nat) (p0:Zb):(List Int)×Int ->((List Int)×Int ->Option (List Int)) ->Option (List Int):=fun(v28,v35) ZmW=>
 (bif decide (v35 < (p0.qJ.length:Int)) then(ZL p0.qJ v35).bind fun x38=>loop F (Zn1 v35 ZmW x38) (v28,0) else loop F (Zj6 p0) (v28,0))
def Zn2 (F:Nat) (p0:Zb):(List Int)×Int ->((List Int)×Int ->Option (List Int)) ->Option (List Int):=fun(v6,v13) Zjb=>
 (bif decide (v13 < (p0.qK.length:Int)) then(ZL p0.qK v13).bind fun x16=>(app 8 v6 x16).bind fun z21=>Zjb (z21,Y2 (v13 + 1)) else loop F (Zj7 F p0) (v6,0))
def ZBL (F:Nat) (p0:Zb):Option (List Int):=
 loop F (Zn2 F p0) ([],0)
def Zh2 (p0:Int) (p1:Int):Option Bool:=
 some ((decide (p0 >=0)) && (decide (p0 < p1)))
def Zj1 (p0:Zb) (z8:(List Int)) (v22:(List (List Int))) (v56:(List (List Zz))) (v90:(List (List Zq))):Int×(List Zf) ->(Int×(List Zf) ->Option Zb) ->Option Zb:=fun(ZiJ,ZrT) Zui=>
 (bif decide (ZiJ < (p0.qG.length:Int)) then(ZL p0.qG ZiJ).bind fun Kt=>(app 8 ([]:List Int) Kt.qV).bind fun z138=>(app 8 ([]:List Int) Kt.Yd).bind fun z143=>(app 128 ZrT [(Zf.mk Kt.kind Kt.ZX Kt.ZV z138 z143 Kt.place Kt.at_ Kt.age)]).bind fun z154=>Zui (Y2 (ZiJ + 1),z154) else some (Zb.mk z8 v22 v56 v90 ZrT p0.said))
def Zj2 (F:Nat) (p0:Zb) (z8:(List Int)) (v22:(List (List Int))) (v56:(List (List Zz))):Int×(List (List Zq)) ->(Int×(List (List Zq)) ->Option Zb) ->Option Zb:=fun(v88,v90) ZyM=>
 (bif decide (v88 < (p0.qJ.length:Int)) then(ZL p0.qJ v88).bind fun x96=>(app 40 ([]:List Zq) x96).bind fun ZHF=>(app 24 v90 [ZHF]).bind fun z109=>ZyM (Y2 (v88 + 1),z109) else loop F (Zj1 p0 z8 v22 v56 v90) (0,[]))
def Zj3 (F:Nat) (p0:Zb) (z8:(List Int)) (v22:(List (List Int))):Int×(List (List Zz)) ->(Int×(List (List Zz)) ->Option Zb) ->Option Zb:=fun(v54,v56) Zeh=>
 (bif decide (v54 < (p0.qQ.length:Int)) then(ZL p0.qQ v54).bind fun x62=>(app 24 ([]:List Zz) x62).bind fun z69=>(app 24 v56 [z69]).bind fun z75=>Zeh (Y2 (v54 + 1),z75) else loop F (Zj2 F p0 z8 v22 v56) (0,[]))
def Zn0 (F:Nat) (p0:Zb) (z8:(List Int)):Int×(List (List Int)) ->(Int×(List (List Int)) ->Option Zb) ->Option Zb:=fun(v20,v22) ZyW=>
 (bif decide (v20 < (p0.qK.length:Int)) then(ZL p0.qK v20).bind fun x28=>(app 8 ([]:List Int) x28).bind fun z35=>(app 24 v22 [z35]).bind fun z41=>ZyW (Y2 (v20 + 1),z41) else loop F (Zj3 F p0 z8 v22) (0,[]))
def ZBI (F:Nat) (p0:Zb):Option Zb:=
 (app 8 ([]:List Int) p0.Zx).bind fun z8=>loop F (Zn0 F p0 z8) (0,[])
def Zj0 (v11:Int) (Qc:((List Int)×Int ->Option (List Int))):(List Int) ->Option (List Int):=fun v18=>
 Qc (v18,Y2 (v11 + 1))
def ZnY (p0:(List Int)) (p1:Int) (v11:Int) (Qc:((List Int)×Int ->Option (List Int))):(List Int)×Int×Int ->((List Int)×Int×Int ->Option (List Int)) ->Option (List Int):=fun(v29,v35,v37) ZyV=>
 (bif(((decide (v37 <= (p0.length:Int))) && (decide (v35 >=0))) && (decide (v35 < (p0.length:Int)))) then(bif(v35==p1) then(app 8 v29 [v11]).bind fun z44=>(Zj0 v11 Qc) z44 else(ZL p0 v35).bind fun x48=>ZyV (v29,x48,Y2 (v37 + 1))) else(Zj0 v11 Qc) v29)
def ZnZ (F:Nat) (p0:(List Int)) (p1:Int):(List Int)×Int ->((List Int)×Int ->Option (List Int)) ->Option (List Int):=fun(v5,v11) Qc=>
 (bif decide (v11 < (p0.length:Int)) then loop F (ZnY p0 p1 v11 Qc) (v5,v11,0) else some v5)
def ZqF (F:Nat) (p0:(List Int)) (p1:Int):Option (List Int):=
 loop F (ZnZ F p0 p1) ([],0)
def Zc4 (p0:Zb) (z23:(List Zf)):(List Zj)×(List (List Int))×(List (List Zz))×(List (List Zq)) ->Option (Zb×(List Zj)):=fun(v30,v35,v37,v39)=>
 some ((Zb.mk p0.Zx v35 v37 v39 z23 p0.said),v30)
def ZgC (p0:Zb):(List Zj)×(List Zf)×(List (List Int))×(List (List Zq)) ->Option (Zb×(List Zj)):=fun(v43,v47,v51,v53)=>
 some ((Zb.mk p0.Zx v51 p0.qQ v53 v47 p0.said),v43)
def ZjX (p0:Zb):(List Zf) ->Option (Zb×(List Zj)):=fun Zk9=>
 (ZgC p0) ([],Zk9,p0.qK,p0.qJ)
def ZjW (Kc:Int) (Kz:((List Zj)×(List Zq)×Int×(List (List Int)) ->Option (Zb×(List Zj)))):(List Zj)×(List Zq)×(List (List Int)) ->Option (Zb×(List Zj)):=fun(v226,v232,ZDl)=>
 Kz (v226,v232,Y2 (Kc + 1),ZDl)
def ZnX (v201:(List Zj)) (ZeR:(List Zq)) (Kc:Int) (Kz:((List Zj)×(List Zq)×Int×(List (List Int)) ->Option (Zb×(List Zj)))):(List Zj)×(List (List Int)) ->Option (Zb×(List Zj)):=fun(ZDk,ZDj)=>
 (app 40 v201 ZDk).bind fun ZHA=>(ZjW Kc Kz) (ZHA,ZeR,ZDj)
def ZjY (x1:Zf) (Zal:(List (List Zz))) (v175:Int) (Zbr:(List (List Zq))) (Zig:((List Zj)×Int×(List (List Int))×(List (List Zq)) ->Option (Zb×(List Zj)))) (Zk6:Int) (ZrI:(List Zq)):(List Zj)×(List Zq)×Int×(List (List Int)) ->((List Zj)×(List Zq)×Int×(List (List Int)) ->Option (Zb×(List Zj))) ->Option (Zb×(List Zj)):=fun(v201,ZeR,Kc,Zpf) Kz=>
 (bif decide (Kc < (ZrI.length:Int)) then(ZL ZrI Kc).bind fun U6=>(bif(U6.place==Zk6) then(ZL Zal x1.ZX).bind fun ZMB=>(ZL ZMB U6.place).bind fun Zxy=>(bif Zxy.here then(ZL Zpf U6.place).bind fun ZMz=>(app 8 ZMz [U6.msg]).bind fun ZC6=>(ZL Zpf U6.place).bind fun ZS3=>(ZnX v201 ZeR Kc Kz) ([(Zj.mk 1 U6.place x1.ZX U6.msg U6.hops)],Yl Zpf U6.place ZC6) else none) else(app 40 ZeR [U6]).bind fun ZHz=>(ZjW Kc Kz) (v201,ZHz,Zpf)) else(ZL Zbr x1.ZX).bind fun ZS1=>Zig (v201,Y2 (v175 + 1),Zpf,Yl Zbr x1.ZX ZeR))
def ZgD (F:Nat) (p0:Zb) (x1:Zf) (z23:(List Zf)) (Zal:(List (List Zz))):(List Zj)×Int×(List (List Int))×(List (List Zq)) ->((List Zj)×Int×(List (List Int))×(List (List Zq)) ->Option (Zb×(List Zj))) ->Option (Zb×(List Zj)):=fun(v168,v175,ZaX,Zbr) Zig=>
 (bif decide (v175 < (x1.qV.length:Int)) then(ZL x1.qV v175).bind fun Zk6=>(app 40 v168 [(Zj.mk 3 Zk6 x1.ZX 0 0)]).bind fun ZHD=>(ZL Zbr x1.ZX).bind fun ZrI=>loop F (ZjY x1 Zal v175 Zbr Zig Zk6 ZrI) (ZHD,[],0,ZaX) else(Zc4 p0 z23) (v168,ZaX,Zal,Zbr))
def ZjZ (F:Nat) (p0:Zb) (x1:Zf) (z23:(List Zf)):Int×(List (List Zz)) ->(Int×(List (List Zz)) ->Option (Zb×(List Zj))) ->Option (Zb×(List Zj)):=fun(ZrS,Zal) Zfc=>
 (bif decide (ZrS < (x1.qV.length:Int)) then(ZL x1.qV ZrS).bind fun ZaG=>(ZL Zal x1.ZX).bind fun ZHM=>(ZL x1.Yd ZrS).bind fun Zmx=>(ZL ZHM ZaG).bind fun x157=>Zfc (Y2 (ZrS + 1),Yl Zal x1.ZX (Yl ZHM ZaG (Zz.mk true x1.ZX Zmx))) else loop F (ZgD F p0 x1 z23 Zal) ([],0,p0.qK,p0.qJ))
def ZBH (F:Nat) (p0:Zb) (p1:Int):Option (Zb×(List Zj)):=
 (ZL p0.qG p1).bind fun x1=>(slL p0.qG 0 p1).bind fun z11=>(app 128 ([]:List Zf) z11).bind fun z15=>(slL p0.qG (Y2 (p1 + 1)) (p0.qG.length:Int)).bind fun z19=>(app 128 z15 z19).bind fun z23=>(bif(x1.kind==1) then(ZL p0.qQ x1.ZX).bind fun x57=>(ZL x57 x1.ZV.place).bind fun x63=>(bif x63.here then(ZL p0.qK x1.ZV.place).bind fun x73=>(app 8 x73 [x1.ZV.msg]).bind fun z81=>(ZL p0.qK x1.ZV.place).bind fun x85=>(ZgC p0) ([(Zj.mk 1 x1.ZV.place x1.ZX x1.ZV.msg x1.ZV.hops)],z23,Yl p0.qK x1.ZV.place z81,p0.qJ) else(bif((!false) && (decide (x63.age <=x1.ZV.age))) then(ZL p0.qJ x1.ZX).bind fun x94=>(app 40 x94 [x1.ZV]).bind fun ZDb=>(ZL p0.qJ x1.ZX).bind fun ZS9=>(ZgC p0) ([],z23,p0.qK,Yl p0.qJ x1.ZX ZDb) else(app 128 z23 ([(Zf.mk 1 x63.ZX (Zq.mk x1.ZV.msg x1.ZV.place x1.ZV.from_ x63.age (Y2 (x1.ZV.hops + 1))) [] [] 0 0 0)])).bind fun Zvy=>(bif(((!false) && (x1.ZV.from_ !=x1.ZX)) && (x1.ZV.from_ !=x63.ZX)) then(app 128 Zvy ([(Zf.mk 3 x1.ZV.from_ (Zq.mk 0 0 0 0 0) [] [] x1.ZV.place x63.ZX x63.age)])).bind fun Zxt=>(ZjX p0) Zxt else(ZjX p0) Zvy))) else(bif(x1.kind==2) then loop F (ZjZ F p0 x1 z23) (0,p0.qQ) else(bif(x1.kind==3) then(ZL p0.qQ x1.ZX).bind fun ZMy=>(ZL ZMy x1.place).bind fun ZvB=>(bif((!ZvB.here) && (decide (ZvB.age < x1.age))) then(ZL p0.qQ x1.ZX).bind fun ZHH=>(ZL ZHH x1.place).bind fun ZS0=>(Zc4 p0 z23) ([],p0.qK,Yl p0.qQ x1.ZX (Yl ZHH x1.place (Zz.mk false x1.at_ x1.age)),p0.qJ) else(Zc4 p0 z23) ([],p0.qK,p0.qQ,p0.qJ)) else(Zc4 p0 z23) ([],p0.qK,p0.qQ,p0.qJ))))
end Go.Proofs.YtbmbbcaaimehkaaGreat
end
section
set_option maxRecDepth 20000
set_option maxHeartbeats 4000000
noncomputable section
namespace Go.Proofs.YtbmbbcaaimehkaaGreat
open Go.YT Go.Lf
theorem ZK5 {F wm h} {p0:Zb} {Zi Zh Zn Zm Zl Zk Zp Zo Zu Zt} {r} (Z0:wm <=h.size) (ZB:Sl (Zr .i64) wm h Zi Zh p0.Zx) (ZN:Sl (ZJ (Zr .i64)) wm h Zn Zm p0.qK) (ZI:Sl (ZJ Zc) wm h Zl Zk p0.qQ) (ZM:Sl (ZJ Ze) wm h Zp Zo p0.qJ) (ZK:Sl Zd wm h Zu Zt p0.qG) (hL:ZBL F p0=some r):
 WR XX 55 #[.agg [.slice Zi p0.Zx.length Zh,.slice Zn p0.qK.length Zm,.slice Zl p0.qQ.length Zk,.slice Zp p0.qJ.length Zo,.slice Zu p0.qG.length Zt,.int .i64 p0.said].toArray] wm h (CP (fun(v:Value) (Gb:List (Ast wm))=>∃ Xo Xu Xn,v= .slice Xo Xu Xn∧Gb= [ow wm (Zr .i64) Xo Xu Xn r]) [] h):=by
 refine bg Tryz.ntmps55 Z0 Yc.nil ?_;intro T hT hS;unfold ZBL at hL;refine r3 ?_;rintro _ h2 ⟨b1,eb1,rfl,hS⟩;refine r16 ?_;refine r2 ?_;have hS:=hS.nil (e:= (Zr .i64));refine WC.loop (WL.lift hL (fun p s=>match p with | (v6,v13)=>∃ fr4 h3 a7 c8 n9,s= ⟨fr4,[],h3,none⟩∧Sp wm T h [ow wm (Zr .i64) a7 n9 c8 v6,bx wm b1 (cW p0 Zi Zh Zn Zm Zl Zk Zp Zo Zu Zt)] h3∧fr4.at 1= .pointer (some ⟨b1,0,none⟩)∧fr4.at 3= .slice a7 n9 c8∧fr4.at 13= .slice Zn p0.qK.length Zm∧fr4.at 14= .int .i64 (p0.qK.length:Int)∧fr4.at 15= .int .i64 v13) ⟨_,_,none,0,0,rfl,hS.only sl,Yv⟩ ?_);clear hL hS;rintro Zjb ⟨v6,v13⟩ s Znx hL ⟨fr4,h3,a7,c8,n9,rfl,hS,e5,e10,e11,e12,e14⟩;obtain rfl:=hS.on k0;dsimp only [Zn2] at hL;refine r6 ?_;refine cn hL ?_ ?_
 ·intro hc hL;refine r6 ?_;obtain⟨x16,hx16,hL⟩:=qZ hL;obtain⟨b17,o18,⟨a19,c20⟩,ZPJ,ZHe,ZG3,ZuW⟩:=Sl.at_ ZN hx16;refine r1 ?_;have ZuI:Sl (Zr .i64) wm h a19 c20 x16:=ZuW;refine r7 ?_;obtain⟨z21,ZT4,hL⟩:=qZ hL;refine WO.hv gN rfl (XT (e:= (Zr .i64)) hS k0 Xe lk lk (Sl.src (hS.sl ZuI)) rfl ZT4) ?_;rintro _ h24 ⟨a22,c23,rfl,hS⟩;refine r8 ?_;exact Ya.YQ (Znx _ _ hL ⟨_,_,a22,c23,z21.length,rfl,hS.only sl,Yv⟩)
 ·intro hc hL;refine r15 ?_;refine WC.loop (WL.lift hL (fun p s=>match p with | (v28,v35)=>∃ Ke h25 a29 c30 n31,s= ⟨Ke,[],h25,none⟩∧Sp wm T h [ow wm (Zr .i64) a29 n31 c30 v28,bx wm b1 (cW p0 Zi Zh Zn Zm Zl Zk Zp Zo Zu Zt)] h25∧Ke.at 1= .pointer (some ⟨b1,0,none⟩)∧Ke.at 3= .slice a29 n31 c30∧Ke.at 24= .slice Zp p0.qJ.length Zo∧Ke.at 25= .int .i64 (p0.qJ.length:Int)∧Ke.at 26= .int .i64 v35) ⟨_,_,a7,c8,v6.length,rfl,hS.only sl,Yv⟩ ?_);clear hL hS;rintro ZmW ⟨v28,v35⟩ s ZEp hL ⟨Ke,h25,a29,c30,n31,rfl,hS,e27,e32,e33,e34,e36⟩;obtain rfl:=hS.on k0;dsimp only [Zj7] at hL;refine r6 ?_;refine cn hL ?_ ?_
  ·intro hc hL;refine r6 ?_;obtain⟨x38,hx38,hL⟩:=qZ hL;obtain⟨b39,o40,⟨a41,c42⟩,ZPF,ZQC,ZQl,ZAD⟩:=Sl.at_ ZM hx38;refine r1 ?_;have ZGy:Sl Ze wm h a41 c42 x38:=ZAD;refine WN ?_;refine WC.loop (WL.lift hL (fun p s=>match p with | (v46,v56)=>∃ Zln h43 a47 c48 n49,s= ⟨Zln,[],h43,none⟩∧Sp wm T h [ow wm (Zr .i64) a47 n49 c48 v46,bx wm b1 (cW p0 Zi Zh Zn Zm Zl Zk Zp Zo Zu Zt)] h43∧Zln.at 1= .pointer (some ⟨b1,0,none⟩)∧Zln.at 3= .slice a47 n49 c48∧Zln.at 24= .slice Zp p0.qJ.length Zo∧Zln.at 25= .int .i64 (p0.qJ.length:Int)∧Zln.at 26= .int .i64 v35∧Zln.at 30= .slice a41 x38.length c42∧Zln.at 31= .int .i64 (x38.length:Int)∧Zln.at 32= .int .i64 v56) ⟨_,_,a29,c30,v28.length,rfl,hS.only sl,Yv⟩ ?_);clear hL hS;rintro Zi7 ⟨v46,v56⟩ s Znq hL ⟨Zln,h43,a47,c48,n49,rfl,hS,e45,e50,e51,e52,e53,e54,e55,e57⟩;obtain rfl:=hS.on k0;dsimp only [Zn1] at hL;refine r6 ?_;refine cn hL ?_ ?_
   ·intro hc hL;refine r6 ?_;obtain⟨x59,ZIM,hL⟩:=qZ hL;obtain⟨b60,o61,_,ZPz,ZG8,ZG0,ZGU⟩:=Sl.at_ ZGy ZIM;refine r1 ?_;refine WO.w gN rfl (YJ ZfL JA (YG fh rfl) (At.fz hS.fz ZG0 ZG8) (j:=0) rfl rfl (ws:= (cM x59)) rfl) ?_;refine r1 ?_;rintro _ h63 ⟨b62,Z5K,rfl,hS⟩;refine r1 ?_;rintro h64 hS;refine r6 ?_;refine WO.hn gN rfl (QF (e:= (Zr .i64)) hS XL XA UY rfl rfl rfl (Zv lk ZR) rfl [((),x59.msg)] rfl (xs:= [x59.msg]) rfl (by intro q hq;simp only [List.mem_cons,List.not_mem_nil,or_false] at hq;subst hq;exact trivial) rfl) ?_;rintro _ h66 ⟨b65,Z5H,rfl,hS⟩;obtain⟨z67,ZTU,hL⟩:=qZ hL;refine WO.hv gN rfl (XT (e:= (Zr .i64)) hS k2 Xe lk lk (hS.Xk k0) (hS.on k0) ZTU) ?_;rintro _ h70 ⟨a68,c69,rfl,hS⟩;refine r8 ?_;exact Ya.YQ (Znq _ _ hL ⟨_,_,a68,c69,z67.length,rfl,hS.only sl,Yv⟩)
   ·intro hc hL;refine r10 ?_;exact Ya.YQ (ZEp _ _ hL ⟨_,_,a47,c48,v46.length,rfl,hS.only sl,Yv⟩)
  ·intro hc hL;refine r15 ?_;refine WC.loop (WL.lift hL (fun p s=>match p with | (v73,v80)=>∃ Zww h71 a74 c75 n76,s= ⟨Zww,[],h71,none⟩∧Sp wm T h [ow wm (Zr .i64) a74 n76 c75 v73] h71∧Zww.at 3= .slice a74 n76 c75∧Zww.at 44= .slice Zu p0.qG.length Zt∧Zww.at 45= .int .i64 (p0.qG.length:Int)∧Zww.at 46= .int .i64 v80) ⟨_,_,a29,c30,v28.length,rfl,hS.only sl,Yv⟩ ?_);clear hL hS;rintro K3 ⟨v73,v80⟩ s Zno hL ⟨Zww,h71,a74,c75,n76,rfl,hS,e77,e78,e79,e81⟩;obtain rfl:=hS.on k0;dsimp only [Zj6] at hL;refine r6 ?_;refine cn hL ?_ ?_
   ·intro hc hL;refine r2 ?_;refine WC.Kw (r:=r) (fun(v85:(List Int)) s=>∃ Zwu h83 a86 c87 n88,s= ⟨Zwu,[],h83,none⟩∧Sp wm T h [ow wm (Zr .i64) a86 n88 c87 v85] h83∧Zwu.at 3= .slice a86 n88 c87∧Zwu.at 44= .slice Zu p0.qG.length Zt∧Zwu.at 45= .int .i64 (p0.qG.length:Int)∧Zwu.at 46= .int .i64 v80) (Zj5 v80 K3) ?_ ?_
    ·clear hL hS;rintro v85 s hL ⟨Zwu,h83,a86,c87,n88,rfl,hS,e89,e90,e91,e92⟩;obtain rfl:=hS.on k0;dsimp only [Zj5] at hL;refine r4 ?_;exact Ya.YQ (Zno _ _ hL ⟨_,_,a86,c87,v85.length,rfl,hS.only sl,Yv⟩)
    ·skip;refine r3 ?_;obtain⟨x93,hx93,hL⟩:=qZ hL;obtain⟨b94,o95,⟨⟨a96,c97⟩,⟨a98,c99⟩⟩,ZGM,Zu0,ZuX,Zjw⟩:=Sl.at_ ZK hx93;refine r1 ?_;have ZGw:Sl (Zr .i64) wm h a96 c97 x93.qV:=Zjw.1;have ZOs:Sl (Zr .i64) wm h a98 c99 x93.Yd:=Zjw.2;refine WO.w gN rfl (YJ WZ Xj (YG fh rfl) (At.fz hS.fz ZuX Zu0) (j:=0) rfl rfl (ws:= (cL x93 a96 c97 a98 c99)) rfl) ?_;refine r1 ?_;rintro _ ZnD ⟨Zcd,ZBV,rfl,hS⟩;refine r1 ?_;rintro ZWF hS;refine r9 ?_;refine cn hL ?_ ?_
     ·intro hc hL;refine r5 ?_;refine WO.hn gN rfl (QF (e:= (Zr .i64)) hS XL XA UY rfl rfl rfl (Zv lk ZR) rfl [((),x93.ZV.msg)] rfl (xs:= [x93.ZV.msg]) rfl (by intro q hq;simp only [List.mem_cons,List.not_mem_nil,or_false] at hq;subst hq;exact trivial) rfl) ?_;rintro _ ZQZ ⟨ZX1,ZRe,rfl,hS⟩;obtain⟨z105,Zzg,hL⟩:=qZ hL;refine WO.hv gN rfl (XT (e:= (Zr .i64)) hS k2 Xe lk lk (hS.Xk k0) (hS.on k0) Zzg) ?_;rintro _ ZKy ⟨Zrn,c107,rfl,hS⟩;refine r3 ?_;exact YO.YQ _ hL ⟨_,_,Zrn,c107,z105.length,rfl,hS.only sl,Yv⟩
     ·intro hc hL;refine r2 ?_;exact YO.YQ _ hL ⟨_,_,a74,c75,v73.length,rfl,hS.only sl,Yv⟩
   ·intro hc hL;refine WN ?_;have hr:=Oi0 hL;subst hr;exact Yk.XI rfl (ZU lk ZE) ⟨_,⟨a74,v73.length,c75,rfl,rfl⟩,hT ▸ hS.only sl⟩
theorem ZK4 {wm h} {p0 p1:Int} {r} (Z0:wm <=h.size) (hL:Zh2 p0 p1=some r):
 WR XX 56 #[.int .i64 p0,.int .i64 p1] wm h (CP (fun(v:Value) (Gb:List (Ast wm))=>v= .bool r∧Gb= []) [] h):=by
 refine bg Tryz.ntmps56 Z0 Yc.nil ?_;intro T hT hS;unfold Zh2 at hL;refine r16 ?_;refine r2 ?_;exact rt hL hT hS
theorem Zer {h} {p0 p1:Int} {r} (hL:Zh2 p0 p1=some r):Pure XX 56 #[.int .i64 p0,.int .i64 p1] h (.bool r):=
 WR.Qb rfl (ZK4 (Nat.le_refl _) hL)
theorem ZK1 {F wm h} {p0:Zb} {Zi Zh Zn Zm Zl Zk Zp Zo Zu Zt} {r} (Z0:wm <=h.size) (ZB:Sl (Zr .i64) wm h Zi Zh p0.Zx) (ZN:Sl (ZJ (Zr .i64)) wm h Zn Zm p0.qK) (ZI:Sl (ZJ Zc) wm h Zl Zk p0.qQ) (ZM:Sl (ZJ Ze) wm h Zp Zo p0.qJ) (ZK:Sl Zd wm h Zu Zt p0.qG) (hL:ZBI F p0=some r):
 WR XX 59 #[.agg [.slice Zi p0.Zx.length Zh,.slice Zn p0.qK.length Zm,.slice Zl p0.qQ.length Zk,.slice Zp p0.qJ.length Zo,.slice Zu p0.qG.length Zt,.int .i64 p0.said].toArray] wm h (CP (fun(v:Value) (Gb:List (Ast wm))=>∃ Xo Xu Xn ZaA Zcx Zaw ZbC Zaz Zcw Zav ZbB Zay Zcv Zau ZbA Zax Zcu Zat,v= .agg [.slice Xo Xu Xn,.slice ZaA Zcx Zaw,.slice Zaz Zcw Zav,.slice Zay Zcv Zau,.slice Zax Zcu Zat,.int .i64 r.said].toArray∧Gb= [ow wm (Zr .i64) Xo Xu Xn r.Zx,YD wm (ZO (Zr .i64)) ZaA Zcx Zaw ZbC r.qK,YD wm (ZO Zc) Zaz Zcw Zav ZbB r.qQ,YD wm (ZO Ze) Zay Zcv Zau ZbA r.qJ,ow wm Zd Zax Zcu Zat r.qG]) [] h):=by
 refine bg Tryz.ntmps59 Z0 Yc.nil ?_;intro T hT hS;unfold ZBI at hL;refine r3 ?_;rintro _ h2 ⟨b1,eb1,rfl,hS⟩;refine r1 ?_;rintro _ h4 ⟨b3,eb3,rfl,hS⟩;refine r6 ?_;refine WO.w gN rfl (YX Zmo (Zv lk ZR) rfl (cs':= (cV none 0 0 none 0 0 none 0 0 none 0 0 none 0 0 p0.said)) rfl) ?_;refine r1 ?_;rintro _ h6 ⟨b5,eb5,rfl,hS⟩;refine r1 ?_;rintro h7 hS;refine r8 ?_;obtain⟨z8,hz8,hL⟩:=qZ hL;have hS:=hS.nil (e:= (Zr .i64));refine WO.hv gN rfl (XT (e:= (Zr .i64)) hS k0 Xe lk lk (Sl.src (hS.sl ZB)) rfl hz8) ?_;rintro _ h11 ⟨a9,c10,rfl,hS⟩;refine r2 ?_;rintro h12 hS;refine WN ?_;have hS:=hS.Zeg (e:= (ZO (Zr .i64))) (ps:=fun _=>(ZO (Zr .i64)).dflt);refine WC.loop (WL.lift hL (fun p s=>match p with | (v20,v22)=>∃ Zaq h13 a23 c24 n25 Zv2,s= ⟨Zaq,[],h13,none⟩∧Sp wm T h [bx wm b1 (cW p0 Zi Zh Zn Zm Zl Zk Zp Zo Zu Zt),bx wm b3 (cV none 0 0 none 0 0 none 0 0 none 0 0 none 0 0 0),YD wm (ZO (Zr .i64)) a23 n25 c24 Zv2 v22,bx wm b5 (cV a9 z8.length c10 a23 n25 c24 none 0 0 none 0 0 none 0 0 p0.said),ow wm (Zr .i64) a9 z8.length c10 z8] h13∧Zaq.at 1= .pointer (some ⟨b1,0,none⟩)∧Zaq.at 2= .pointer (some ⟨b3,0,none⟩)∧Zaq.at 3= .pointer (some ⟨b5,0,none⟩)∧Zaq.at 22= .slice Zn p0.qK.length Zm∧Zaq.at 23= .int .i64 (p0.qK.length:Int)∧Zaq.at 24= .int .i64 v20) ⟨_,_,none,0,0,(fun _=>(ZO (Zr .i64)).dflt),rfl,hS.only sl,Yv⟩ ?_);clear hL hS;rintro ZyW ⟨v20,v22⟩ s ZEs hL ⟨Zaq,h13,a23,c24,n25,Zv2,rfl,hS,e15,e16,e17,e18,e19,e21⟩;obtain rfl:=hS.YL k2;dsimp only [Zn0] at hL;refine r6 ?_;refine cn hL ?_ ?_
 ·intro hc hL;refine r6 ?_;obtain⟨x28,hx28,hL⟩:=qZ hL;obtain⟨b29,o30,⟨a31,c32⟩,ZZM,Z0H,Z0q,ZP1⟩:=Sl.at_ ZN hx28;refine r1 ?_;have ZOB:Sl (Zr .i64) wm h a31 c32 x28:=ZP1;refine r4 ?_;refine WC.YC mixed Kq0 ?_;refine r1 ?_;refine WX.wr (fun x=>x=b5) hS gN rfl (fun _ _ hR=>Y8 ZkK (YG fh rfl) (At.eqv (hR b5 rfl) (hS.KI k3)) (j:=1) rfl (v:= .slice a23 v22.length c24) rfl) ?_ rfl rfl;rintro h33 e34 hS;refine r1 ?_;obtain⟨z35,ZT1,hL⟩:=qZ hL;have hS:=hS.nil (e:= (Zr .i64));refine WX.hv0 gN rfl (XT (e:= (Zr .i64)) hS k0 Xe lk lk (Sl.src (hS.sl ZOB)) rfl ZT1) (fun _ z=>Zif z) ?_ rfl rfl;rintro _ h38 ⟨a36,c37,rfl,hS⟩;refine WX.hn gN rfl (ZlV (e:= (Zr .i64)) (x:=z35) hS k0 Zhf Uh ZrF rfl rfl (Zv lk ZR) rfl rfl) ?_ rfl;rintro _ h40 ⟨b39,ZWQ,rfl,hS⟩;obtain⟨z41,ZTZ,hL⟩:=qZ hL;refine WX.hv gN rfl (ZlW (e:= (ZO (Zr .i64))) hS (.c k3 (.c k0 .n)) Zrd lk lk ZTZ) ?_ rfl rfl [] Kq0 Yh.e;rintro _ h45 ⟨a42,c43,ZTA,rfl,hS⟩;refine WX.w gN rfl (Qf Zu9 lk) ?_ Kq0;refine WX.hu gN (Ui hS k3 Zx3 lk lk (vs:= [.slice a42 z41.length c43]) rfl rfl rfl rfl (cs':= (cV a9 z8.length c10 a42 z41.length c43 none 0 0 none 0 0 none 0 0 p0.said)) rfl) ?_ rfl Kq0 [] Kq0 Yh.e;rintro h46 hS;refine r7 ?_;exact Ya.YQ (ZEs _ _ hL ⟨_,_,a42,c43,z41.length,ZTA,rfl,hS.only sl,Yv⟩)
 ·intro hc hL;refine r15 ?_;have hS:=hS.Zeg (e:= (ZO Zc)) (ps:=fun _=>(ZO Zc).dflt);refine WC.loop (WL.lift hL (fun p s=>match p with | (v54,v56)=>∃ Zqx h47 a57 c58 n59 Zys,s= ⟨Zqx,[],h47,none⟩∧Sp wm T h [bx wm b1 (cW p0 Zi Zh Zn Zm Zl Zk Zp Zo Zu Zt),bx wm b3 (cV none 0 0 none 0 0 none 0 0 none 0 0 none 0 0 0),YD wm (ZO Zc) a57 n59 c58 Zys v56,bx wm b5 (cV a9 z8.length c10 a23 v22.length c24 a57 n59 c58 none 0 0 none 0 0 p0.said),ow wm (Zr .i64) a9 z8.length c10 z8,YD wm (ZO (Zr .i64)) a23 v22.length c24 Zv2 v22] h47∧Zqx.at 1= .pointer (some ⟨b1,0,none⟩)∧Zqx.at 2= .pointer (some ⟨b3,0,none⟩)∧Zqx.at 3= .pointer (some ⟨b5,0,none⟩)∧Zqx.at 37= .slice Zl p0.qQ.length Zk∧Zqx.at 38= .int .i64 (p0.qQ.length:Int)∧Zqx.at 39= .int .i64 v54) ⟨_,_,none,0,0,(fun _=>(ZO Zc).dflt),rfl,hS.only sl,Yv⟩ ?_);clear hL hS;rintro Zeh ⟨v54,v56⟩ s Znp hL ⟨Zqx,h47,a57,c58,n59,Zys,rfl,hS,e49,e50,e51,e52,e53,e55⟩;obtain rfl:=hS.YL k2;dsimp only [Zj3] at hL;refine r6 ?_;refine cn hL ?_ ?_
  ·intro hc hL;refine r6 ?_;obtain⟨x62,Zzh,hL⟩:=qZ hL;obtain⟨b63,o64,⟨a65,c66⟩,ZPy,ZQu,ZQd,ZAC⟩:=Sl.at_ ZI Zzh;refine r1 ?_;have ZzF:Sl Zc wm h a65 c66 x62:=ZAC;refine r4 ?_;refine WC.YC mixed Kq0 ?_;refine r1 ?_;refine WX.wr (fun x=>x=b5) hS gN rfl (fun _ _ hR=>Y8 Zri (YG fh rfl) (At.eqv (hR b5 rfl) (hS.KI k3)) (j:=2) rfl (v:= .slice a57 v56.length c58) rfl) ?_ rfl rfl;rintro h67 e68 hS;refine r1 ?_;obtain⟨z69,ZTT,hL⟩:=qZ hL;have hS:=hS.nil (e:=Zc);refine WX.hv0 gN rfl (XT (e:=Zc) hS k0 Zra lk lk (Sl.src (hS.sl ZzF)) rfl ZTT) (fun _ z=>Zif z) ?_ rfl rfl;rintro _ h72 ⟨a70,c71,rfl,hS⟩;refine WX.hn gN rfl (ZlV (e:=Zc) (x:=z69) hS k0 ZeW Zbu ZrD rfl rfl (Zv lk ZR) rfl rfl) ?_ rfl;rintro _ h74 ⟨b73,ZWO,rfl,hS⟩;obtain⟨z75,ZIB,hL⟩:=qZ hL;refine WX.hv gN rfl (ZlW (e:= (ZO Zc)) hS (.c k3 (.c k0 .n)) Zrc lk lk ZIB) ?_ rfl rfl [] Kq0 Yh.e;rintro _ h79 ⟨a76,c77,ZIe,rfl,hS⟩;refine WX.w gN rfl (Qf Zu8 lk) ?_ Kq0;refine WX.hu gN (Ui hS k3 Zx2 lk lk (vs:= [.slice a76 z75.length c77]) rfl rfl rfl rfl (cs':= (cV a9 z8.length c10 a23 v22.length c24 a76 z75.length c77 none 0 0 none 0 0 p0.said)) rfl) ?_ rfl Kq0 [] Kq0 Yh.e;rintro h80 hS;refine r7 ?_;exact Ya.YQ (Znp _ _ hL ⟨_,_,a76,c77,z75.length,ZIe,rfl,hS.only sl,Yv⟩)
  ·intro hc hL;refine r15 ?_;have hS:=hS.Zeg (e:= (ZO Ze)) (ps:=fun _=>(ZO Ze).dflt);refine WC.loop (WL.lift hL (fun p s=>match p with | (v88,v90)=>∃ Zqw h81 a91 c92 n93 ZpJ,s= ⟨Zqw,[],h81,none⟩∧Sp wm T h [bx wm b1 (cW p0 Zi Zh Zn Zm Zl Zk Zp Zo Zu Zt),bx wm b3 (cV none 0 0 none 0 0 none 0 0 none 0 0 none 0 0 0),YD wm (ZO Ze) a91 n93 c92 ZpJ v90,bx wm b5 (cV a9 z8.length c10 a23 v22.length c24 a57 v56.length c58 a91 n93 c92 none 0 0 p0.said),ow wm (Zr .i64) a9 z8.length c10 z8,YD wm (ZO (Zr .i64)) a23 v22.length c24 Zv2 v22,YD wm (ZO Zc) a57 v56.length c58 Zys v56] h81∧Zqw.at 1= .pointer (some ⟨b1,0,none⟩)∧Zqw.at 2= .pointer (some ⟨b3,0,none⟩)∧Zqw.at 3= .pointer (some ⟨b5,0,none⟩)∧Zqw.at 52= .slice Zp p0.qJ.length Zo∧Zqw.at 53= .int .i64 (p0.qJ.length:Int)∧Zqw.at 54= .int .i64 v88) ⟨_,_,none,0,0,(fun _=>(ZO Ze).dflt),rfl,hS.only sl,Yv⟩ ?_);clear hL hS;rintro ZyM ⟨v88,v90⟩ s ZD8 hL ⟨Zqw,h81,a91,c92,n93,ZpJ,rfl,hS,e83,e84,e85,e86,e87,e89⟩;obtain rfl:=hS.YL k2;dsimp only [Zj2] at hL;refine r6 ?_;refine cn hL ?_ ?_
   ·intro hc hL;refine r6 ?_;obtain⟨x96,hx96,hL⟩:=qZ hL;obtain⟨b97,o98,⟨a99,ZXH⟩,ZZC,Z0z,Z0h,ZPP⟩:=Sl.at_ ZM hx96;refine r1 ?_;have ZOr:Sl Ze wm h a99 ZXH x96:=ZPP;refine r4 ?_;refine WC.YC mixed Kq0 ?_;refine r1 ?_;refine WX.wr (fun x=>x=b5) hS gN rfl (fun _ _ hR=>Y8 ZkJ (YG fh rfl) (At.eqv (hR b5 rfl) (hS.KI k3)) (j:=3) rfl (v:= .slice a91 v90.length c92) rfl) ?_ rfl rfl;rintro ZnD ZLC hS;refine r1 ?_;obtain⟨ZHF,ZN1,hL⟩:=qZ hL;have hS:=hS.nil (e:=Ze);refine WX.hv0 gN rfl (XT (e:=Ze) hS k0 Zaf lk lk (Sl.src (hS.sl ZOr)) rfl ZN1) (fun _ z=>Zif z) ?_ rfl rfl;rintro _ ZA9 ⟨Z8m,c105,rfl,hS⟩;refine WX.hn gN rfl (ZlV (e:=Ze) (x:=ZHF) hS k0 ZeV Ug ZrC rfl rfl (Zv lk ZR) rfl rfl) ?_ rfl;rintro _ ZKy ⟨Z8c,Z1J,rfl,hS⟩;obtain⟨z109,ZNZ,hL⟩:=qZ hL;refine WX.hv gN rfl (ZlW (e:= (ZO Ze)) hS (.c k3 (.c k0 .n)) Zrb lk lk ZNZ) ?_ rfl rfl [] Kq0 Yh.e;rintro _ ZQX ⟨Zxa,ZwU,ZNp,rfl,hS⟩;refine WX.w gN rfl (Qf Zu7 lk) ?_ Kq0;refine WX.hu gN (Ui hS k3 Zx1 lk lk (vs:= [.slice Zxa z109.length ZwU]) rfl rfl rfl rfl (cs':= (cV a9 z8.length c10 a23 v22.length c24 a57 v56.length c58 Zxa z109.length ZwU none 0 0 p0.said)) rfl) ?_ rfl Kq0 [] Kq0 Yh.e;rintro ZEM hS;refine r7 ?_;exact Ya.YQ (ZD8 _ _ hL ⟨_,_,Zxa,ZwU,z109.length,ZNp,rfl,hS.only sl,Yv⟩)
   ·intro hc hL;refine r15 ?_;have hS:=hS.nil (e:=Zd);refine WC.loop (WL.lift hL (fun p s=>match p with | (ZiJ,ZrT)=>∃ ZjC ZEL a124 Ztr n126,s= ⟨ZjC,[],ZEL,none⟩∧Sp wm T h [bx wm b3 (cV none 0 0 none 0 0 none 0 0 none 0 0 none 0 0 0),ow wm Zd a124 n126 Ztr ZrT,bx wm b5 (cV a9 z8.length c10 a23 v22.length c24 a57 v56.length c58 a91 v90.length c92 a124 n126 Ztr p0.said),ow wm (Zr .i64) a9 z8.length c10 z8,YD wm (ZO (Zr .i64)) a23 v22.length c24 Zv2 v22,YD wm (ZO Zc) a57 v56.length c58 Zys v56,YD wm (ZO Ze) a91 v90.length c92 ZpJ v90] ZEL∧ZjC.at 2= .pointer (some ⟨b3,0,none⟩)∧ZjC.at 3= .pointer (some ⟨b5,0,none⟩)∧ZjC.at 67= .slice Zu p0.qG.length Zt∧ZjC.at 68= .int .i64 (p0.qG.length:Int)∧ZjC.at 69= .int .i64 ZiJ) ⟨_,_,none,0,0,rfl,hS.only sl,Yv⟩ ?_);clear hL hS;rintro Zui ⟨ZiJ,ZrT⟩ s ZzV hL ⟨ZjC,ZEL,a124,Ztr,n126,rfl,hS,e117,e118,e119,e120,ZXe⟩;obtain rfl:=hS.on k1;dsimp only [Zj1] at hL;refine r6 ?_;refine cn hL ?_ ?_
    ·intro hc hL;refine r6 ?_;obtain⟨Kt,hx128,hL⟩:=qZ hL;obtain⟨Z73,Z3o,⟨⟨a131,ZlB⟩,⟨ZFX,ZRG⟩⟩,ZU5,ZKg,ZJR,ZAH⟩:=Sl.at_ ZK hx128;refine r1 ?_;have ZIX:Sl (Zr .i64) wm h a131 ZlB Kt.qV:=ZAH.1;have ZIW:Sl (Zr .i64) wm h ZFX ZRG Kt.Yd:=ZAH.2;refine WO.w gN rfl (YJ WZ Xj (YG fh rfl) (At.fz hS.fz ZJR ZKg) (j:=0) rfl rfl (ws:= (cL Kt a131 ZlB ZFX ZRG)) rfl) ?_;refine r1 ?_;rintro _ Zwr ⟨UM,ZRc,rfl,hS⟩;refine r1 ?_;rintro Z5l hS;refine r6 ?_;obtain⟨z138,ZNS,hL⟩:=qZ hL;have hS:=hS.nil (e:= (Zr .i64));refine WO.hv gN rfl (XT (e:= (Zr .i64)) hS k0 Xe lk lk (Sl.src (hS.sl ZIX)) rfl ZNS) ?_;rintro _ ZQW ⟨a139,Zq0,rfl,hS⟩;refine r2 ?_;rintro ZA6 hS;refine r6 ?_;obtain⟨z143,ZNP,hL⟩:=qZ hL;have hS:=hS.nil (e:= (Zr .i64));refine WO.hv gN rfl (XT (e:= (Zr .i64)) hS k0 Xe lk lk (Sl.src (hS.sl ZIW)) rfl ZNP) ?_;rintro _ ZQV ⟨ZYo,c145,rfl,hS⟩;refine r2 ?_;rintro ZEH hS;refine r6 ?_;refine WO.fzn hS k2 ?_;rintro Z5h ⟨ZZq,hS⟩;refine WO.fzn hS k2 ?_;rintro Z5g ⟨ZZp,hS⟩;refine WO.hn gN rfl (QF (e:=Zd) hS UZ Xj U5 rfl rfl rfl (Zv lk ZR) rfl [(((a139,Zq0),(ZYo,c145)),(Zf.mk Kt.kind Kt.ZX Kt.ZV z138 z143 Kt.place Kt.at_ Kt.age))] rfl (xs:= [(Zf.mk Kt.kind Kt.ZX Kt.ZV z138 z143 Kt.place Kt.at_ Kt.age)]) rfl (by intro q hq;simp only [List.mem_cons,List.not_mem_nil,or_false] at hq;subst hq;exact⟨(hS.fsl k1),(hS.fsl k0)⟩) rfl) ?_;rintro _ ZQU ⟨ZoG,ZHl,rfl,hS⟩;obtain⟨z154,ZNO,hL⟩:=qZ hL;refine WO.hv gN rfl (XT (e:=Zd) hS k5 Q5 lk lk (hS.Xk k0) (hS.on k0) ZNO) ?_;rintro _ Z5d ⟨ZtI,c156,rfl,hS⟩;refine r2 ?_;rintro ZWv hS;refine r7 ?_;exact Ya.YQ (ZzV _ _ hL ⟨_,_,ZtI,c156,z154.length,rfl,hS.only sl,Yv⟩)
    ·intro hc hL;refine r9 ?_;rintro ZEG hS;refine r3 ?_;have hr:=Oi0 hL;subst hr;exact Yk.XI rfl (Y9 (YE rfl e117) (Jl ZfM KT (hS.KI k0) (j:=0) rfl rfl (ws:= (cV a9 z8.length c10 a23 v22.length c24 a57 v56.length c58 a91 v90.length c92 a124 ZrT.length Ztr p0.said)) rfl) ZE) ⟨_,⟨a9,z8.length,c10,a23,v22.length,c24,Zv2,a57,v56.length,c58,Zys,a91,v90.length,c92,ZpJ,a124,ZrT.length,Ztr,rfl,rfl⟩,hT ▸ hS.only sl⟩
theorem Zs1 {F wm h} {p0:(List Int)} {p1:Int} {Zi Zh} {r} (Z0:wm <=h.size) (ZB:Sl (Zr .i64) wm h Zi Zh p0) (hL:ZqF F p0 p1=some r):
 WR XX 61 #[.slice Zi p0.length Zh,.int .i64 p1] wm h (CP (fun(v:Value) (Gb:List (Ast wm))=>∃ Xo Xu Xn,v= .slice Xo Xu Xn∧Gb= [ow wm (Zr .i64) Xo Xu Xn r]) [] h):=by
 refine bg Tryz.ntmps61 Z0 Yc.nil ?_;intro T hT hS;unfold ZqF at hL;refine r16 ?_;refine r3 ?_;have hS:=hS.nil (e:= (Zr .i64));refine WC.loop (WL.lift hL (fun p s=>match p with | (v5,v11)=>∃ XV h1 a6 c7 n8,s= ⟨XV,[],h1,none⟩∧Sp wm T h [ow wm (Zr .i64) a6 n8 c7 v5] h1∧XV.at 0= .slice Zi p0.length Zh∧XV.at 1= .int .i64 p1∧XV.at 5= .slice a6 n8 c7∧XV.at 10= .int .i64 (p0.length:Int)∧XV.at 11= .int .i64 v11) ⟨_,_,none,0,0,rfl,hS.only sl,Yv⟩ ?_);clear hL hS;rintro Qc ⟨v5,v11⟩ s UH hL ⟨XV,h1,a6,c7,n8,rfl,hS,e3,e4,e9,e10,e12⟩;obtain rfl:=hS.on k0;dsimp only [ZnZ] at hL;refine r6 ?_;refine cn hL ?_ ?_
 ·intro hc hL;refine r2 ?_;refine WC.Kw (r:=r) (fun(v18:(List Int)) s=>∃ Zca h14 a19 c20 n21,s= ⟨Zca,[],h14,none⟩∧Sp wm T h [ow wm (Zr .i64) a19 n21 c20 v18] h14∧Zca.at 0= .slice Zi p0.length Zh∧Zca.at 1= .int .i64 p1∧Zca.at 5= .slice a19 n21 c20∧Zca.at 10= .int .i64 (p0.length:Int)∧Zca.at 11= .int .i64 v11) (Zj0 v11 Qc) ?_ ?_
  ·clear hL hS;rintro v18 s hL ⟨Zca,h14,a19,c20,n21,rfl,hS,e16,e17,e22,e23,e24⟩;obtain rfl:=hS.on k0;dsimp only [Zj0] at hL;refine r4 ?_;exact Ya.YQ (UH _ _ hL ⟨_,_,a19,c20,v18.length,rfl,hS.only sl,Yv⟩)
  ·skip;refine r16 ?_;refine r3 ?_;refine WC.loop (WL.lift hL (fun p s=>match p with | (v29,v35,v37)=>∃ Ke h25 a30 c31 n32,s= ⟨Ke,[],h25,none⟩∧Sp wm T h [ow wm (Zr .i64) a30 n32 c31 v29] h25∧Ke.at 0= .slice Zi p0.length Zh∧Ke.at 1= .int .i64 p1∧Ke.at 5= .slice a30 n32 c31∧Ke.at 6= .int .i64 v11∧Ke.at 7= .int .i64 v35∧Ke.at 8= .int .i64 v37∧Ke.at 10= .int .i64 (p0.length:Int)∧Ke.at 11= .int .i64 v11) ⟨_,_,a6,c7,v5.length,rfl,hS.only sl,Yv⟩ ?_);clear hL hS;rintro ZyV ⟨v29,v35,v37⟩ s ZEo hL ⟨Ke,h25,a30,c31,n32,rfl,hS,e27,e28,e33,e34,e36,e38,e39,e40⟩;obtain rfl:=hS.on k0;dsimp only [ZnY] at hL;refine r16 ?_;refine r3 ?_;refine cn hL ?_ ?_
   ·intro hc hL;refine WN ?_;refine cn hL ?_ ?_
    ·intro hc hL;refine r4 ?_;refine WO.hn gN rfl (QF (e:= (Zr .i64)) hS XL XA UY rfl rfl rfl (Zv lk ZR) rfl [((),v11)] rfl (xs:= [v11]) rfl (by intro q hq;simp only [List.mem_cons,List.not_mem_nil,or_false] at hq;subst hq;exact trivial) rfl) ?_;rintro _ h43 ⟨b42,Z5U,rfl,hS⟩;obtain⟨z44,ZTY,hL⟩:=qZ hL;refine WO.hv gN rfl (XT (e:= (Zr .i64)) hS k1 Xe lk lk (hS.Xk k0) (hS.on k0) ZTY) ?_;rintro _ h47 ⟨a45,c46,rfl,hS⟩;refine r5 ?_;refine UU.other rfl ?_;refine r4 ?_;exact YO.YQ _ hL ⟨_,_,a45,c46,z44.length,rfl,hS.only sl,Yv⟩
    ·intro hc hL;refine r5 ?_;obtain⟨x48,ZUk,hL⟩:=qZ hL;obtain⟨b49,o50,_,ZZJ,Z0E,Z0n,ZZ8⟩:=Sl.at_ ZB ZUk;refine Jv ?_;exact Ya.YQ (ZEo _ _ hL ⟨_,_,a30,c31,v29.length,rfl,hS.only sl,Yv⟩)
   ·intro hc hL;refine r5 ?_;exact YO.YQ _ hL ⟨_,_,a30,c31,v29.length,rfl,hS.only sl,Yv⟩
 ·intro hc hL;refine WN ?_;have hr:=Oi0 hL;subst hr;exact Yk.XI rfl (ZU lk ZE) ⟨_,⟨a6,v5.length,c7,rfl,rfl⟩,hT ▸ hS.only sl⟩
theorem ZK0 {F wm h} {p0:Zb} {p1:Int} {Zi Zh XF Zn Zm Qw Yr Zl Zk Qv Yx Zp Zo Qu Yq Zu Zt Qt YS} {r} (Z0:wm <=h.size) (hO:Yc (wm:=wm) [bx wm YS (cV Zi XF Zh Zn Qw Zm Zl Qv Zk Zp Qu Zo Zu Qt Zt p0.said),ow wm (Zr .i64) Zi XF Zh p0.Zx,YD wm (ZO (Zr .i64)) Zn Qw Zm Yr p0.qK,YD wm (ZO Zc) Zl Qv Zk Yx p0.qQ,YD wm (ZO Ze) Zp Qu Zo Yq p0.qJ,ow wm Zd Zu Qt Zt p0.qG] h) (hL:ZBH F p0 p1=some r):
 WR XX 62 #[.pointer (some ⟨YS,0,none⟩),.int .i64 p1] wm h (CP (fun(v:Value) (Gb:List (Ast wm))=>∃ QV JG QO QU JF QN JL QT JE QM JK QS JD QL JJ QR JC QK Xo Xu Xn,v= .slice Xo Xu Xn∧Gb= [bx wm YS (cV QV JG QO QU JF QN QT JE QM QS JD QL QR JC QK r.1.said),ow wm (Zr .i64) QV JG QO r.1.Zx,YD wm (ZO (Zr .i64)) QU JF QN JL r.1.qK,YD wm (ZO Zc) QT JE QM JK r.1.qQ,YD wm (ZO Ze) QS JD QL JJ r.1.qJ,ow wm Zd QR JC QK r.1.qG,ow wm Zy Xo Xu Xn r.2]) [bx wm YS (cV Zi XF Zh Zn Qw Zm Zl Qv Zk Zp Qu Zo Zu Qt Zt p0.said),ow wm (Zr .i64) Zi XF Zh p0.Zx,YD wm (ZO (Zr .i64)) Zn Qw Zm Yr p0.qK,YD wm (ZO Zc) Zl Qv Zk Yx p0.qQ,YD wm (ZO Ze) Zp Qu Zo Yq p0.qJ,ow wm Zd Zu Qt Zt p0.qG] h):=by
 refine bg Tryz.ntmps62 Z0 hO ?_;intro T hT hS;unfold ZBH at hL;obtain rfl:=hS.on k1;obtain rfl:=hS.YL k2;obtain rfl:=hS.YL k3;obtain rfl:=hS.YL k4;obtain rfl:=hS.on k5;refine WN ?_;obtain⟨x1,hx1,hL⟩:=qZ hL;obtain⟨b2,o3,⟨⟨a4,c5⟩,⟨a6,c7⟩⟩,ZPI,ZAY,Zwq⟩:=Src.at_ (hS.Xk k5) hx1;refine r1 ?_;have hS:=hS.add (A:=Yu wm (ZJ (Zr .i64)) (a4,c5) x1.qV) Zwq.1 (fun _ z=>z);have hS:=hS.add (A:=Yu wm (ZJ (Zr .i64)) (a6,c7) x1.Yd) Zwq.2 (fun _ z=>z);refine WO.w gN rfl (YJ WZ Xj (YG fh rfl) ZAY (j:=0) rfl rfl (ws:= (cL x1 a4 c5 a6 c7)) rfl) ?_;refine r1 ?_;rintro _ h9 ⟨b8,eb8,rfl,hS⟩;refine r1 ?_;rintro h10 hS;refine r3 ?_;refine WC.YC mixed Kq0 ?_;refine r6 ?_;obtain⟨z11,ZT5,hL⟩:=qZ hL;refine WX.he gN rfl (Zya (hS.get k8).2 rfl UZ Xj (YG (ZC rfl fh) rfl) (.inl ⟨rfl,rfl⟩) (.inr ⟨_,XD (YG fh rfl)⟩) ZT5) ?_ rfl;rintro _ ⟨a12,c13,rfl,ZUu⟩;obtain⟨z15,ZIE,hL⟩:=qZ hL;have hS:=hS.nil (e:=Zd);refine WX.hv0 gN rfl (XT (e:=Zd) hS k0 Q5 lk lk (ZUu.own (hS.get k9).2).src rfl ZIE) (fun _ z=>Zif z) ?_ rfl rfl;rintro _ h18 ⟨a16,c17,rfl,hS⟩;refine r6 ?_;obtain⟨z19,ZIC,hL⟩:=qZ hL;refine WX.he gN rfl (Zya (hS.get k9).2 rfl UZ Xj (YG (YE rfl fh) rfl) (.inr ⟨_,XD (YG fh rfl)⟩) (.inl ⟨rfl,rfl⟩) ZIC) ?_ rfl;rintro _ ⟨a20,c21,rfl,ZUs⟩;obtain⟨z23,ZT3,hL⟩:=qZ hL;refine WX.hv gN rfl (XT (e:=Zd) hS k0 Q5 lk lk (ZUs.own (hS.get k9).2).src rfl ZT3) ?_ rfl rfl [] Kq0 Yh.e;rintro _ h26 ⟨a24,c25,rfl,hS⟩;refine WX.w gN rfl (Ki lk) ?_ Kq0;refine WX.w gN rfl (Qf KC lk) ?_ Kq0;refine WX.hu gN (Ui hS k4 Zbv lk lk (vs:= [.slice a24 z23.length c25]) rfl rfl rfl rfl (cs':= (cV Zi p0.Zx.length Zh Zn p0.qK.length Zm Zl p0.qQ.length Zk Zp p0.qJ.length Zo a24 z23.length c25 p0.said)) rfl) ?_ rfl Kq0 [] Kq0 Yh.e;rintro h27 hS;refine r7 ?_;refine WC.Kw (r:=r) (fun(p:(List Zj)×(List (List Int))×(List (List Zz))×(List (List Zq))) s=>match p with | (v30,v35,v37,v39)=>∃ Zap h28 a31 c32 n33 ZIm ZIl ZIk,s= ⟨Zap,[],h28,none⟩∧Sp wm T h [ow wm Zy a31 n33 c32 v30,bx wm YS (cV Zi p0.Zx.length Zh Zn p0.qK.length Zm Zl p0.qQ.length Zk Zp p0.qJ.length Zo a24 z23.length c25 p0.said),ow wm (Zr .i64) Zi p0.Zx.length Zh p0.Zx,YD wm (ZO (Zr .i64)) Zn p0.qK.length Zm ZIm v35,YD wm (ZO Zc) Zl p0.qQ.length Zk ZIl v37,YD wm (ZO Ze) Zp p0.qJ.length Zo ZIk v39,ow wm Zd a24 z23.length c25 z23] h28∧Zap.at 6= .slice a31 n33 c32) (Zc4 p0 z23) ?_ ?_
 ·clear hL hS;rintro⟨v30,v35,v37,v39⟩ s hL ⟨Zap,h28,a31,c32,n33,ZIm,ZIl,ZIk,rfl,hS,e34⟩;obtain rfl:=hS.on k0;dsimp only [Zc4] at hL;refine r7 ?_;have hr:=Oi0 hL;subst hr;exact Yk.XI rfl (ZU lk ZE) ⟨_,⟨Zi,p0.Zx.length,Zh,Zn,p0.qK.length,Zm,ZIm,Zl,p0.qQ.length,Zk,ZIl,Zp,p0.qJ.length,Zo,ZIk,a24,z23.length,c25,a31,v30.length,c32,rfl,rfl⟩,hT ▸ hS.only sl⟩
 ·skip;refine r13 ?_;refine cn hL ?_ ?_
  ·intro hc hL;refine r7 ?_;refine WO.Zm8 (r:=r) (fun(p:(List Zj)×(List Zf)×(List (List Int))×(List (List Zq))) (v:Value) (h41:H)=>match p with | (v43,v47,v51,v53)=>∃ a44 c45 n46 a48 c49 n50 Zr6 ZIi,v= .slice a44 n46 c45∧Sp wm T h [ow wm Zy a44 n46 c45 v43,ow wm Zd a48 n50 c49 v47,bx wm YS (cV Zi p0.Zx.length Zh Zn p0.qK.length Zm Zl p0.qQ.length Zk Zp p0.qJ.length Zo a48 n50 c49 p0.said),bx wm b8 (cL x1 a4 c5 a6 c7),ow wm Zd Zu p0.qG.length Zt p0.qG,Yu wm (ZJ (Zr .i64)) (a4,c5) x1.qV,Yu wm (ZJ (Zr .i64)) (a6,c7) x1.Yd,ow wm (Zr .i64) Zi p0.Zx.length Zh p0.Zx,YD wm (ZO (Zr .i64)) Zn p0.qK.length Zm Zr6 v51,YD wm (ZO Zc) Zl p0.qQ.length Zk Yx p0.qQ,YD wm (ZO Ze) Zp p0.qJ.length Zo ZIi v53] h41) (ZgC p0) gN rfl (Xb.fn ZAe (Zg lk (Zg lk (Zg lk (Zg lk ZA))))) ?_ (WF.begin (args:= [_,_,_,_]) (fn:=Tryz.f60) Kq0 (by exact rfl) Tryz.ntmps60 (by simp) ?_)
   ·clear hL hS;rintro⟨v43,v47,v51,v53⟩ v h41 hL ⟨a44,c45,n46,a48,c49,n50,Zr6,ZIi,rfl,hS⟩;obtain rfl:=hS.on k0;obtain rfl:=hS.on k1;dsimp only [ZgC] at hL;refine r5 ?_;refine YO.ret ?_;have hr:=Oi0 hL;subst hr;exact Yk.XI rfl (ZU lk ZE) ⟨_,⟨Zi,p0.Zx.length,Zh,Zn,p0.qK.length,Zm,Zr6,Zl,p0.qQ.length,Zk,Yx,Zp,p0.qJ.length,Zo,ZIi,a48,v47.length,c49,a44,v43.length,c45,rfl,rfl⟩,hT ▸ hS.only sl⟩
   ·skip;simp only [Z4,Z9,Nat.reduceAdd];refine r3 ?_;rintro _ h56 ⟨b55,Z5O,rfl,hS⟩;refine r4 ?_;refine WC.YC mixed Kq0 ?_;refine r5 ?_;obtain⟨x57,Zzj,hL⟩:=qZ hL;obtain⟨b58,o59,a60,n61,c62,ZGB,ZPA,ZHa⟩:=hS.atS k8 Zzj;refine r4 ?_;obtain⟨x63,ZDY,hL⟩:=qZ hL;obtain⟨b64,o65,_,ZPx,ZQt,ZZ3⟩:=Src.at_ (hS.inS k8 Zzj ZGB).2.1 ZDY;refine WX.w gN rfl (Yn WJ Y3 lk lk (hS.inS k8 Zzj ZGB).1 ZPx ZDY) ?_ rfl;refine WX.w gN rfl (YJ Zb4 Y3 (YG fh rfl) ZQt (j:=0) rfl rfl (ws:= (cE x63)) rfl) ?_ rfl;refine WX.hn gN rfl (Zhl hS Zbo (vs:= [.bool false,.int .i64 0,.int .i64 0]) rfl) ?_ rfl;rintro _ h67 ⟨b66,Z5G,rfl,hS⟩;refine WX.hu gN (Ui hS k0 Y3 lk lk (vs:= (cE x63)) rfl rfl rfl rfl (cs':= (cE x63)) rfl) ?_ rfl rfl [] Kq0 Yh.e;rintro h68 hS;refine r9 ?_;refine cn hL ?_ ?_
    ·intro hc hL;refine r1 ?_;refine WC.YC mixed Kq0 ?_;refine r3 ?_;refine WX.wr (fun x=>x=YS) hS gN rfl (fun _ _ hR=>Y8 ZkK (YG fh rfl) (At.eqv (hR YS rfl) (hS.KI k2)) (j:=1) rfl (v:= .slice Zn p0.qK.length Zm) rfl) ?_ rfl rfl;rintro h69 e70 hS;refine r1 ?_;refine WX.wr (fun x=>x=b55) hS gN rfl (fun _ _ hR=>Y8 W9 (YG fh rfl) (At.eqv (hR b55 rfl) (hS.KI k1)) (j:=1) rfl (v:= .int .i64 x1.ZV.place) rfl) ?_ rfl rfl;rintro h71 e72 hS;refine r6 ?_;obtain⟨x73,ZhZ,hL⟩:=qZ hL;obtain⟨b74,o75,a76,n77,c78,ZOH,Zjv,Zme⟩:=hS.atS k8 ZhZ;refine r4 ?_;refine WX.hn gN rfl (QF (e:= (Zr .i64)) hS XL XA UY rfl rfl rfl (Zv lk ZR) rfl [((),x1.ZV.msg)] rfl (xs:= [x1.ZV.msg]) rfl (by intro q hq;simp only [List.mem_cons,List.not_mem_nil,or_false] at hq;subst hq;exact trivial) rfl) ?_ rfl;rintro _ h80 ⟨b79,Z5D,rfl,hS⟩;obtain⟨z81,ZTR,hL⟩:=qZ hL;have hS:=hS.Kj k9 ZhZ ZOH;refine WX.hv gN rfl (XT (e:= (Zr .i64)) hS k1 Xe lk lk (hS.Xk k2) (hS.on k2) ZTR) ?_ rfl rfl [3,5] Kq0 (.c (.s (.s .z)) (hS.dj (.c k1 (.c k4 .n))) (.c (.s .z) (hS.dj (.c k1 (.c k3 .n))) Yh.e));rintro _ h84 ⟨a82,c83,rfl,hS⟩;obtain⟨x85,ZIJ,hL⟩:=qZ hL;refine WX.w gN rfl (Yn Zhf Uh lk lk rfl Zjv ZIJ) ?_ Kq0;refine WX.hu gN (ZdW hS k1 Uh (YG fh rfl) (YG (ZC rfl fh) rfl) Zjv ZhZ (j:=0) rfl (vs:= [.slice a82 z81.length c83]) rfl rfl rfl rfl rfl (cs':= [.slice a82 z81.length c83]) rfl rfl rfl) ?_ rfl Kq0 [] Kq0 Yh.e;rintro h87 hS;obtain⟨ZTx,Z3K,hS⟩:=hS.Ko (.c k0 (.c k0 .n)) ZhZ;refine Jv ?_;refine WO.w gN rfl (YX ZhQ (Zv lk (Zv lk (Zv lk (Zv lk (Zv lk ZR))))) rfl (cs':= [.int .i64 1,.int .i64 x1.ZV.place,.int .i64 x1.ZX,.int .i64 x1.ZV.msg,.int .i64 x1.ZV.hops]) rfl) ?_;refine WO.hn gN rfl (QF (e:=Zy) hS ZeU KS ZaF rfl rfl rfl (Zv lk ZR) rfl [((),(Zj.mk 1 x1.ZV.place x1.ZX x1.ZV.msg x1.ZV.hops))] rfl (xs:= [(Zj.mk 1 x1.ZV.place x1.ZX x1.ZV.msg x1.ZV.hops)]) rfl (by intro q hq;simp only [List.mem_cons,List.not_mem_nil,or_false] at hq;subst hq;exact trivial) rfl) ?_;rintro _ h91 ⟨b90,Z5y,rfl,hS⟩;refine r5 ?_;exact Yk.XI rfl (ZU lk ZE) ⟨_,hL,⟨(some ⟨b90,0,none⟩),2,1,a24,c25,z23.length,ZTx,Yq,rfl,hS.only sl⟩⟩
    ·intro hc hL;refine WN ?_;refine WO.gv (Zw.yes rfl rfl rfl (Y7 rfl fh)) rfl (fun hg=>(Qg (YU (YE rfl fh) rfl hg) (YU fh rfl hg) ZkP)) ?_;refine r3 ?_;refine cn hL ?_ ?_
     ·intro hc hL;refine r1 ?_;refine WC.YC mixed Kq0 ?_;refine r3 ?_;refine WX.wr (fun x=>x=YS) hS gN rfl (fun _ _ hR=>Y8 ZkJ (YG fh rfl) (At.eqv (hR YS rfl) (hS.KI k2)) (j:=3) rfl (v:= .slice Zp p0.qJ.length Zo) rfl) ?_ rfl rfl;rintro h92 e93 hS;refine r6 ?_;obtain⟨x94,ZDX,hL⟩:=qZ hL;obtain⟨b95,o96,a97,n98,c99,ZOG,ZGL,Z0A⟩:=hS.atS k10 ZDX;refine r3 ?_;refine WX.hn gN rfl (QF (e:=Ze) hS ZaY JA Zcj rfl rfl rfl (Zv lk ZR) rfl [((),x1.ZV)] rfl (xs:= [x1.ZV]) rfl (by intro q hq;simp only [List.mem_cons,List.not_mem_nil,or_false] at hq;subst hq;exact trivial) rfl) ?_ rfl;rintro _ ZnD ⟨Zcd,ZBV,rfl,hS⟩;obtain⟨ZDb,ZN2,hL⟩:=qZ hL;have hS:=hS.Kj k11 ZDX ZOG;refine WX.hv gN rfl (XT (e:=Ze) hS k1 Zaf lk lk (hS.Xk k2) (hS.on k2) ZN2) ?_ rfl rfl [3] Kq0 (.c (.s .z) (hS.dj (.c k1 (.c k4 .n))) Yh.e);rintro _ ZWD ⟨ZlF,ZoE,rfl,hS⟩;obtain⟨ZS9,ZOp,hL⟩:=qZ hL;refine WX.w gN rfl (Yn ZeV Ug lk lk rfl ZGL ZOp) ?_ Kq0;refine WX.hu gN (ZdW hS k1 Ug (YG fh rfl) (YG (ZC rfl fh) rfl) ZGL ZDX (j:=0) rfl (vs:= [.slice ZlF ZDb.length ZoE]) rfl rfl rfl rfl rfl (cs':= [.slice ZlF ZDb.length ZoE]) rfl rfl rfl) ?_ rfl Kq0 [] Kq0 Yh.e;rintro ZKy hS;obtain⟨ZNq,ZZl,hS⟩:=hS.Ko (.c k0 (.c k0 .n)) ZDX;refine r9 ?_;have hS:=hS.nil (e:=Zy);exact Yk.XI rfl (ZU lk ZE) ⟨_,hL,⟨none,0,0,a24,c25,z23.length,Yr,ZNq,rfl,hS.only sl⟩⟩
     ·intro hc hL;refine r8 ?_;rintro ZQY hS;refine r9 ?_;rintro h112 hS;refine r3 ?_;refine WC.YC mixed Kq0 ?_;refine r8 ?_;refine WX.w gN rfl (YX ZfG (Zv lk (Zv lk (Zv lk ZR))) rfl (cs':= [.int .i64 1,.int .i64 x63.ZX,.int .i64 x1.ZV.msg,.int .i64 x1.ZV.place,.int .i64 x1.ZV.from_,.int .i64 x63.age,.int .i64 (Y2 (x1.ZV.hops + 1)),.slice none 0 0,.slice none 0 0,.int .i64 0,.int .i64 0,.int .i64 0]) rfl) ?_ rfl;refine WX.hn gN rfl (QF (e:=Zd) hS UZ Xj U5 rfl rfl rfl (Zv lk ZR) rfl [(((none,0),(none,0)),(Zf.mk 1 x63.ZX (Zq.mk x1.ZV.msg x1.ZV.place x1.ZV.from_ x63.age (Y2 (x1.ZV.hops + 1))) [] [] 0 0 0))] rfl (xs:= [(Zf.mk 1 x63.ZX (Zq.mk x1.ZV.msg x1.ZV.place x1.ZV.from_ x63.age (Y2 (x1.ZV.hops + 1))) [] [] 0 0 0)]) rfl (by intro q hq;simp only [List.mem_cons,List.not_mem_nil,or_false] at hq;subst hq;exact⟨Sl.nil,Sl.nil⟩) rfl) ?_ rfl;rintro _ ZEM ⟨ZRY,ZRd,rfl,hS⟩;obtain⟨Zvy,ZNY,hL⟩:=qZ hL;refine WX.hv gN rfl (XT (e:=Zd) hS k4 Q5 lk lk (hS.Xk k0) (hS.on k0) ZNY) ?_ rfl rfl [] Kq0 Yh.e;rintro _ ZWB ⟨a116,c117,rfl,hS⟩;refine WX.w gN rfl (Ki lk) ?_ Kq0;refine WX.w gN rfl (Qf KC lk) ?_ Kq0;refine WX.hu gN (Ui hS k4 Zbv lk lk (vs:= [.slice a116 Zvy.length c117]) rfl rfl rfl rfl (cs':= (cV Zi p0.Zx.length Zh Zn p0.qK.length Zm Zl p0.qQ.length Zk Zp p0.qJ.length Zo a116 Zvy.length c117 p0.said)) rfl) ?_ rfl Kq0 [] Kq0 Yh.e;rintro h119 hS;refine r2 ?_;refine WC.Kw (r:=r) (fun(Zk9:(List Zf)) s=>∃ ZHi ZA8 Zrm c124 n125,s= ⟨ZHi,[],ZA8,none⟩∧Sp wm T h [ow wm Zd Zrm n125 c124 Zk9,bx wm YS (cV Zi p0.Zx.length Zh Zn p0.qK.length Zm Zl p0.qQ.length Zk Zp p0.qJ.length Zo Zrm n125 c124 p0.said),bx wm b8 (cL x1 a4 c5 a6 c7),ow wm (Zr .i64) Zi p0.Zx.length Zh p0.Zx,YD wm (ZO (Zr .i64)) Zn p0.qK.length Zm Yr p0.qK,YD wm (ZO Zc) Zl p0.qQ.length Zk Yx p0.qQ,YD wm (ZO Ze) Zp p0.qJ.length Zo Yq p0.qJ,Yu wm (ZJ (Zr .i64)) (a4,c5) x1.qV,Yu wm (ZJ (Zr .i64)) (a6,c7) x1.Yd,ow wm Zd Zu p0.qG.length Zt p0.qG] ZA8) (ZjX p0) ?_ ?_
      ·clear hL hS;rintro Zk9 s hL ⟨ZHi,ZA8,Zrm,c124,n125,rfl,hS⟩;obtain rfl:=hS.on k0;dsimp only [ZjX] at hL;refine r6 ?_;have hS:=hS.nil (e:=Zy);exact Yk.XI rfl (ZU lk ZE) ⟨_,hL,⟨none,0,0,Zrm,c124,Zk9.length,Yr,Yq,rfl,hS.only sl⟩⟩
      ·skip;refine r8 ?_;refine WO.gv (Zw.yes rfl rfl rfl (YE rfl (ZC rfl fh))) rfl (fun hg=>(Qg (YU (ZC rfl fh) rfl hg) (YU fh rfl hg) ZfO)) ?_;refine r10 ?_;refine cn hL ?_ ?_
       ·intro hc hL;refine WC.YC mixed Kq0 ?_;refine r13 ?_;refine WX.w gN rfl (YX ZfG (Zv lk (Zv lk (Zv lk (Zv lk (Zv lk ZR))))) rfl (cs':= [.int .i64 3,.int .i64 x1.ZV.from_,.int .i64 0,.int .i64 0,.int .i64 0,.int .i64 0,.int .i64 0,.slice none 0 0,.slice none 0 0,.int .i64 x1.ZV.place,.int .i64 x63.ZX,.int .i64 x63.age]) rfl) ?_ rfl;refine WX.hn gN rfl (QF (e:=Zd) hS UZ Xj U5 rfl rfl rfl (Zv lk ZR) rfl [(((none,0),(none,0)),(Zf.mk 3 x1.ZV.from_ (Zq.mk 0 0 0 0 0) [] [] x1.ZV.place x63.ZX x63.age))] rfl (xs:= [(Zf.mk 3 x1.ZV.from_ (Zq.mk 0 0 0 0 0) [] [] x1.ZV.place x63.ZX x63.age)]) rfl (by intro q hq;simp only [List.mem_cons,List.not_mem_nil,or_false] at hq;subst hq;exact⟨Sl.nil,Sl.nil⟩) rfl) ?_ rfl;rintro _ h127 ⟨Z74,Z1B,rfl,hS⟩;obtain⟨Zxt,hz128,hL⟩:=qZ hL;refine WX.hv gN rfl (XT (e:=Zd) hS k2 Q5 lk lk (hS.Xk k0) (hS.on k0) hz128) ?_ rfl rfl [] Kq0 Yh.e;rintro _ Z5o ⟨ZL5,c130,rfl,hS⟩;refine WX.w gN rfl (Ki lk) ?_ Kq0;refine WX.w gN rfl (Qf KC lk) ?_ Kq0;refine WX.hu gN (Ui hS k2 Zbv lk lk (vs:= [.slice ZL5 Zxt.length c130]) rfl rfl rfl rfl (cs':= (cV Zi p0.Zx.length Zh Zn p0.qK.length Zm Zl p0.qQ.length Zk Zp p0.qJ.length Zo ZL5 Zxt.length c130 p0.said)) rfl) ?_ rfl Kq0 [] Kq0 Yh.e;rintro ZWy hS;refine r1 ?_;exact YO.YQ _ hL ⟨_,_,ZL5,c130,Zxt.length,rfl,hS.only sl⟩
       ·intro hc hL;refine r1 ?_;exact YO.YQ _ hL ⟨_,_,a116,c117,Zvy.length,rfl,hS.only sl⟩
  ·intro hc hL;refine r6 ?_;refine cn hL ?_ ?_
   ·intro hc hL;refine r10 ?_;refine WC.loop (WL.lift hL (fun p s=>match p with | (ZrS,Zal)=>∃ ZhE ZEJ ZiY,s= ⟨ZhE,[],ZEJ,none⟩∧Sp wm T h [bx wm YS (cV Zi p0.Zx.length Zh Zn p0.qK.length Zm Zl p0.qQ.length Zk Zp p0.qJ.length Zo a24 z23.length c25 p0.said),bx wm b8 (cL x1 a4 c5 a6 c7),Yu wm (ZJ (Zr .i64)) (a4,c5) x1.qV,ow wm (Zr .i64) Zi p0.Zx.length Zh p0.Zx,YD wm (ZO (Zr .i64)) Zn p0.qK.length Zm Yr p0.qK,YD wm (ZO Zc) Zl p0.qQ.length Zk ZiY Zal,YD wm (ZO Ze) Zp p0.qJ.length Zo Yq p0.qJ,ow wm Zd a24 z23.length c25 z23,Yu wm (ZJ (Zr .i64)) (a6,c7) x1.Yd] ZEJ∧ZhE.at 0= .pointer (some ⟨YS,0,none⟩)∧ZhE.at 5= .pointer (some ⟨b8,0,none⟩)∧ZhE.at 6= .slice none 0 0∧ZhE.at 53= .slice a4 x1.qV.length c5∧ZhE.at 54= .int .i64 (x1.qV.length:Int)∧ZhE.at 55= .int .i64 ZrS) ⟨_,_,Yx,rfl,hS.only sl,Yv⟩ ?_);clear hL hS;rintro Zfc ⟨ZrS,Zal⟩ s Zjm hL ⟨ZhE,ZEJ,ZiY,rfl,hS,ZXd,Z6A,e137,e138,ZXc,ZXb⟩;dsimp only [ZjZ] at hL;refine r6 ?_;refine cn hL ?_ ?_
    ·intro hc hL;refine r7 ?_;obtain⟨ZaG,Zzv,hL⟩:=qZ hL;obtain⟨ZXT,ZTH,_,ZJD,ZAZ,ZAP,ZsA⟩:=Sl.at_ (hS.fsl k2) Zzv;refine r6 ?_;refine WC.YC mixed Kq0 ?_;refine r6 ?_;obtain⟨ZHM,Zl9,hL⟩:=qZ hL;obtain⟨Z7Z,Z3l,ZL3,n152,Z6X,Zsv,ZJC,ZV9⟩:=hS.atS k5 Zl9;refine WX.w gN rfl (Yn ZeW Zbu lk lk (hS.YL k5) ZJC Zl9) ?_ rfl;refine r7 ?_;obtain⟨Zmx,Zzu,hL⟩:=qZ hL;obtain⟨Z7W,Z3k,_,ZU3,ZV8,ZVM,ZVz⟩:=Sl.at_ (hS.fsl k8) Zzu;refine r2 ?_;refine WX.w gN rfl (YX ZkE (Zv lk (Zv lk (Zv lk ZR))) rfl (cs':= [.bool true,.int .i64 x1.ZX,.int .i64 Zmx]) rfl) ?_ rfl;obtain⟨x157,hx157,hL⟩:=qZ hL;obtain⟨Z7U,Z3i,_,ZAx,ZKd,ZVx⟩:=Src.at_ (hS.inS k5 Zl9 Zsv).2.1 hx157;refine WX.w gN rfl (Yn WJ Y3 lk lk (hS.inS k5 Zl9 Zsv).1 ZAx hx157) ?_ rfl;have hS:=hS.Kj k5 Zl9 Zsv;refine WX.hu gN (KV (e:=Zc) (Zz.mk true x1.ZX Zmx) () hS k1 Y3 (YG fh rfl) (YG (ZC rfl fh) rfl) ZAx hx157 ZKd (j:=0) rfl (vs:= [.bool true,.int .i64 x1.ZX,.int .i64 Zmx]) rfl rfl rfl rfl rfl (cs':= [.bool true,.int .i64 x1.ZX,.int .i64 Zmx]) rfl rfl trivial) ?_ rfl rfl [] Kq0 Yh.e;rintro Z5c ⟨hS,Z0W⟩;obtain⟨ZlY,ZZh,hS⟩:=hS.Ko (.c k1 (.c k0 .n)) Zl9;refine r7 ?_;exact Ya.YQ (Zjm _ _ hL ⟨_,_,ZlY,rfl,hS.only sl,Yv⟩)
    ·intro hc hL;refine r14 ?_;have hS:=hS.nil (e:=Zy);refine WC.loop (WL.lift hL (fun p s=>match p with | (v168,v175,ZaX,Zbr)=>∃ ZhD ZA5 ZkR ZkC n171 Zt5 ZlX,s= ⟨ZhD,[],ZA5,none⟩∧Sp wm T h [ow wm Zy ZkR n171 ZkC v168,bx wm YS (cV Zi p0.Zx.length Zh Zn p0.qK.length Zm Zl p0.qQ.length Zk Zp p0.qJ.length Zo a24 z23.length c25 p0.said),bx wm b8 (cL x1 a4 c5 a6 c7),Yu wm (ZJ (Zr .i64)) (a4,c5) x1.qV,ow wm (Zr .i64) Zi p0.Zx.length Zh p0.Zx,YD wm (ZO (Zr .i64)) Zn p0.qK.length Zm Zt5 ZaX,YD wm (ZO Zc) Zl p0.qQ.length Zk ZiY Zal,YD wm (ZO Ze) Zp p0.qJ.length Zo ZlX Zbr,ow wm Zd a24 z23.length c25 z23,Yu wm (ZJ (Zr .i64)) (a6,c7) x1.Yd] ZA5∧ZhD.at 0= .pointer (some ⟨YS,0,none⟩)∧ZhD.at 5= .pointer (some ⟨b8,0,none⟩)∧ZhD.at 6= .slice ZkR n171 ZkC∧ZhD.at 80= .slice a4 x1.qV.length c5∧ZhD.at 81= .int .i64 (x1.qV.length:Int)∧ZhD.at 82= .int .i64 v175) ⟨_,_,none,0,0,Yr,Yq,rfl,hS.only sl,Yv⟩ ?_);clear hL hS;rintro Zig ⟨v168,v175,ZaX,Zbr⟩ s ZzQ hL ⟨ZhD,ZA5,ZkR,ZkC,n171,Zt5,ZlX,rfl,hS,e166,e167,ZW9,ZW8,ZW7,ZW6⟩;obtain rfl:=hS.on k0;dsimp only [ZgD] at hL;refine r6 ?_;refine cn hL ?_ ?_
     ·intro hc hL;refine r6 ?_;obtain⟨Zk6,ZOe,hL⟩:=qZ hL;obtain⟨Z7S,Z3f,_,ZU1,ZV6,ZVL,ZVv⟩:=Sl.at_ (hS.fsl k3) ZOe;refine Jv ?_;refine WO.w gN rfl (YX ZhQ (Zv lk (Zv lk (Zv lk ZR))) rfl (cs':= [.int .i64 3,.int .i64 Zk6,.int .i64 x1.ZX,.int .i64 0,.int .i64 0]) rfl) ?_;refine WO.hn gN rfl (QF (e:=Zy) hS ZeU KS ZaF rfl rfl rfl (Zv lk ZR) rfl [((),(Zj.mk 3 Zk6 x1.ZX 0 0))] rfl (xs:= [(Zj.mk 3 Zk6 x1.ZX 0 0)]) rfl (by intro q hq;simp only [List.mem_cons,List.not_mem_nil,or_false] at hq;subst hq;exact trivial) rfl) ?_;rintro _ Z45 ⟨ZXS,Z1r,rfl,hS⟩;obtain⟨ZHD,ZNL,hL⟩:=qZ hL;refine WO.hv gN rfl (XT (e:=Zy) hS k1 Zag lk lk (hS.Xk k0) (hS.on k0) ZNL) ?_;rintro _ ZQR ⟨ZYn,ZXy,rfl,hS⟩;refine r10 ?_;refine WC.YC mixed Kq0 ?_;refine r6 ?_;obtain⟨ZrI,Zp9,hL⟩:=qZ hL;obtain⟨Z7P,Z3c,a194,n195,c196,Znn,ZJz,ZV5⟩:=hS.atS k8 Zp9;refine WX.w gN rfl (Yn ZeV Ug lk lk (hS.YL k8) ZJz Zp9) ?_ rfl;refine r1 ?_;refine WX.w gN rfl (ZbR ZaY lk (congrArg Nat.cast (hS.inS k8 Zp9 Znn).1)) ?_ rfl;refine r4 ?_;have hS:=hS.nil (e:=Ze);refine WC.loop (WL.lift hL (fun p s=>match p with | (v201,ZeR,Kc,Zpf)=>∃ J8 ZsE Zw8 c203 n204 a208 Ztp n210 Zt4,s= ⟨J8,[],ZsE,none⟩∧Sp wm T h [ow wm Zy Zw8 n204 c203 v201,ow wm Ze a208 n210 Ztp ZeR,bx wm YS (cV Zi p0.Zx.length Zh Zn p0.qK.length Zm Zl p0.qQ.length Zk Zp p0.qJ.length Zo a24 z23.length c25 p0.said),bx wm b8 (cL x1 a4 c5 a6 c7),Yu wm (ZJ (Zr .i64)) (a4,c5) x1.qV,YD wm (ZO Ze) Zp p0.qJ.length Zo ZlX Zbr,ow wm (Zr .i64) Zi p0.Zx.length Zh p0.Zx,YD wm (ZO (Zr .i64)) Zn p0.qK.length Zm Zt4 Zpf,YD wm (ZO Zc) Zl p0.qQ.length Zk ZiY Zal,ow wm Zd a24 z23.length c25 z23,Yu wm (ZJ (Zr .i64)) (a6,c7) x1.Yd] ZsE∧J8.at 0= .pointer (some ⟨YS,0,none⟩)∧J8.at 5= .pointer (some ⟨b8,0,none⟩)∧J8.at 6= .slice Zw8 n204 c203∧J8.at 10= .int .i64 Zk6∧J8.at 11= .slice a208 n210 Ztp∧J8.at 80= .slice a4 x1.qV.length c5∧J8.at 81= .int .i64 (x1.qV.length:Int)∧J8.at 82= .int .i64 v175∧J8.at 100= .slice a194 n195 c196∧J8.at 101= .int .i64 (ZrI.length:Int)∧J8.at 102= .int .i64 Kc) ⟨_,_,ZYn,ZXy,ZHD.length,none,0,0,Zt5,rfl,hS.only sl,Yv⟩ ?_);clear hL hS;rintro Kz ⟨v201,ZeR,Kc,Zpf⟩ s ZzN hL ⟨J8,ZsE,Zw8,c203,n204,a208,Ztp,n210,Zt4,rfl,hS,e199,ZW2,Z6i,e206,e211,e212,e213,e214,e215,e216,Z6h⟩;obtain rfl:=hS.on k0;obtain rfl:=hS.on k1;dsimp only [ZjY] at hL;refine r6 ?_;refine cn hL ?_ ?_
      ·intro hc hL;refine r2 ?_;refine WC.Kw (r:=r) (fun(p:(List Zj)×(List Zq)×(List (List Int))) s=>match p with | (v226,v232,ZDl)=>∃ Zba ZKs a227 c228 n229 a233 c234 n235 Zyw,s= ⟨Zba,[],ZKs,none⟩∧Sp wm T h [ow wm Zy a227 n229 c228 v226,ow wm Ze a233 n235 c234 v232,bx wm YS (cV Zi p0.Zx.length Zh Zn p0.qK.length Zm Zl p0.qQ.length Zk Zp p0.qJ.length Zo a24 z23.length c25 p0.said),bx wm b8 (cL x1 a4 c5 a6 c7),Yu wm (ZJ (Zr .i64)) (a4,c5) x1.qV,YD wm (ZO Ze) Zp p0.qJ.length Zo ZlX Zbr,ow wm (Zr .i64) Zi p0.Zx.length Zh p0.Zx,YD wm (ZO (Zr .i64)) Zn p0.qK.length Zm Zyw ZDl,YD wm (ZO Zc) Zl p0.qQ.length Zk ZiY Zal,ow wm Zd a24 z23.length c25 z23,Yu wm (ZJ (Zr .i64)) (a6,c7) x1.Yd] ZKs∧Zba.at 0= .pointer (some ⟨YS,0,none⟩)∧Zba.at 5= .pointer (some ⟨b8,0,none⟩)∧Zba.at 6= .slice a227 n229 c228∧Zba.at 10= .int .i64 Zk6∧Zba.at 11= .slice a233 n235 c234∧Zba.at 80= .slice a4 x1.qV.length c5∧Zba.at 81= .int .i64 (x1.qV.length:Int)∧Zba.at 82= .int .i64 v175∧Zba.at 100= .slice a194 n195 c196∧Zba.at 101= .int .i64 (ZrI.length:Int)∧Zba.at 102= .int .i64 Kc) (ZjW Kc Kz) ?_ ?_
       ·clear hL hS;rintro⟨v226,v232,ZDl⟩ s hL ⟨Zba,ZKs,a227,c228,n229,a233,c234,n235,Zyw,rfl,hS,e224,Z6g,e230,e231,Z6f,e237,e238,Z6e,e240,e241,e242⟩;obtain rfl:=hS.on k0;obtain rfl:=hS.on k1;dsimp only [ZjW] at hL;refine r4 ?_;exact Ya.YQ (ZzN _ _ hL ⟨_,_,a227,c228,v226.length,a233,c234,v232.length,Zyw,rfl,hS.only sl,Yv⟩)
       ·skip;refine r3 ?_;obtain⟨U6,ZGr,hL⟩:=qZ hL;obtain⟨Z7B,Z23,_,ZJu,ZJ8,ZVn⟩:=Src.at_ (hS.inS k5 Zp9 Znn).2.1 ZGr;refine WO.w gN rfl (Yn ZaY JA lk lk (hS.inS k5 Zp9 Znn).1 ZJu ZGr) ?_;refine WO.w gN rfl (YJ ZfL JA (YG fh rfl) ZJ8 (j:=0) rfl rfl (ws:= (cM U6)) rfl) ?_;refine r1 ?_;rintro _ Z4L ⟨ZRT,Z1k,rfl,hS⟩;refine r1 ?_;rintro ZWp hS;refine r10 ?_;refine cn hL ?_ ?_
        ·intro hc hL;refine r6 ?_;refine WO.Zm8 (r:=r) (fun(p:(List Zj)×(List (List Int))) (v:Value) (ZKr:H)=>match p with | (ZDk,ZDj)=>∃ ZL1 ZB7 n256 Zyv,v= .slice ZL1 n256 ZB7∧Sp wm T h [ow wm Zy ZL1 n256 ZB7 ZDk,bx wm YS (cV Zi p0.Zx.length Zh Zn p0.qK.length Zm Zl p0.qQ.length Zk Zp p0.qJ.length Zo a24 z23.length c25 p0.said),bx wm b8 (cL x1 a4 c5 a6 c7),bx wm ZRT (cM U6),ow wm Zy Zw8 v201.length c203 v201,ow wm Ze a208 ZeR.length Ztp ZeR,Yu wm (ZJ (Zr .i64)) (a4,c5) x1.qV,YD wm (ZO Ze) Zp p0.qJ.length Zo ZlX Zbr,ow wm (Zr .i64) Zi p0.Zx.length Zh p0.Zx,YD wm (ZO (Zr .i64)) Zn p0.qK.length Zm Zyv ZDj,YD wm (ZO Zc) Zl p0.qQ.length Zk ZiY Zal,ow wm Zd a24 z23.length c25 z23,Yu wm (ZJ (Zr .i64)) (a6,c7) x1.Yd] ZKr) (ZnX v201 ZeR Kc Kz) gN rfl (Xb.fn ZAe (Zg lk (Zg lk (Zg lk (Zg lk ZA))))) ?_ (WF.begin (args:= [_,_,_,_]) (fn:=Tryz.f60) Kq0 (by exact rfl) Tryz.ntmps60 (by simp) ?_)
         ·clear hL hS;rintro⟨ZDk,ZDj⟩ v ZKr hL ⟨ZL1,ZB7,n256,Zyv,rfl,hS⟩;obtain rfl:=hS.on k0;dsimp only [ZnX] at hL;obtain⟨ZHA,ZNE,hL⟩:=qZ hL;refine WO.hv gN rfl (XT (e:=Zy) hS k4 Zag lk lk (hS.Xk k0) rfl ZNE) ?_;rintro _ ZWm ⟨ZYe,ZLN,rfl,hS⟩;refine r3 ?_;exact YO.YQ _ hL ⟨_,_,ZYe,ZLN,ZHA.length,a208,Ztp,ZeR.length,Zyv,rfl,hS.only sl,Yv⟩
         ·skip;simp only [Z4,Z9,Nat.reduceAdd];refine r3 ?_;rintro _ Z4G ⟨ZRS,Z1h,rfl,hS⟩;refine r4 ?_;refine WC.YC mixed Kq0 ?_;refine r5 ?_;obtain⟨ZMB,Zuy,hL⟩:=qZ hL;obtain⟨Z7w,Z2Y,Z8l,n269,Z6V,ZzL,ZJq,ZVY⟩:=hS.atS k10 Zuy;refine WX.w gN rfl (Yn ZeW Zbu lk lk (hS.YL k10) ZJq Zuy) ?_ rfl;refine r3 ?_;obtain⟨Zxy,ZGn,hL⟩:=qZ hL;obtain⟨Z7t,Z2W,_,ZJo,ZJ3,ZVi⟩:=Src.at_ (hS.inS k10 Zuy ZzL).2.1 ZGn;refine WX.w gN rfl (Yn WJ Y3 lk lk (hS.inS k10 Zuy ZzL).1 ZJo ZGn) ?_ rfl;refine WX.w gN rfl (YJ Zb4 Y3 (YG fh rfl) ZJ3 (j:=0) rfl rfl (ws:= (cE Zxy)) rfl) ?_ rfl;refine WX.hn gN rfl (Zhl hS Zbo (vs:= [.bool false,.int .i64 0,.int .i64 0]) rfl) ?_ rfl;rintro _ Z4D ⟨Z7s,Z1g,rfl,hS⟩;refine WX.hu gN (Ui hS k0 Y3 lk lk (vs:= (cE Zxy)) rfl rfl rfl rfl (cs':= (cE Zxy)) rfl) ?_ rfl rfl [] Kq0 Yh.e;rintro ZWl hS;refine r9 ?_;refine cn hL ?_ ?_
          ·intro hc hL;refine r1 ?_;refine WC.YC mixed Kq0 ?_;refine r3 ?_;refine WX.wr (fun x=>x=YS) hS gN rfl (fun _ _ hR=>Y8 ZkK (YG fh rfl) (At.eqv (hR YS rfl) (hS.KI k5)) (j:=1) rfl (v:= .slice Zn p0.qK.length Zm) rfl) ?_ rfl rfl;rintro Z4C e278 hS;refine r1 ?_;refine WX.wr (fun x=>x=ZRS) hS gN rfl (fun _ _ hR=>Y8 W9 (YG fh rfl) (At.eqv (hR ZRS rfl) (hS.KI k1)) (j:=1) rfl (v:= .int .i64 U6.place) rfl) ?_ rfl rfl;rintro Z4B e280 hS;refine r6 ?_;obtain⟨ZMz,Zp8,hL⟩:=qZ hL;obtain⟨Z7p,Z2U,Z8k,n285,Z6U,ZI3,Zsz,ZVW⟩:=hS.atS k10 Zp8;refine WX.w gN rfl (Yn Zhf Uh lk lk (hS.YL k10) Zsz Zp8) ?_ rfl;refine r3 ?_;refine WX.hn gN rfl (QF (e:= (Zr .i64)) hS XL XA UY rfl rfl rfl (Zv lk ZR) rfl [((),U6.msg)] rfl (xs:= [U6.msg]) rfl (by intro q hq;simp only [List.mem_cons,List.not_mem_nil,or_false] at hq;subst hq;exact trivial) rfl) ?_ rfl;rintro _ ZWk ⟨Z7m,Z1d,rfl,hS⟩;obtain⟨ZC6,ZND,hL⟩:=qZ hL;have hS:=hS.Kj k11 Zp8 ZI3;refine WX.hv gN rfl (XT (e:= (Zr .i64)) hS k1 Xe lk lk (hS.Xk k2) (hS.on k2) ZND) ?_ rfl rfl [3,5] Kq0 (.c (.s (.s .z)) (hS.dj (.c k1 (.c k7 .n))) (.c (.s .z) (hS.dj (.c k1 (.c k3 .n))) Yh.e));rintro _ ZWj ⟨ZR5,ZFn,rfl,hS⟩;obtain⟨ZS3,ZN5,hL⟩:=qZ hL;refine WX.w gN rfl (Yn Zhf Uh lk lk (hS.hlen k1) Zsz ZN5) ?_ Kq0;refine WX.hu gN (ZdW hS k1 Uh (YG fh rfl) (YG (ZC rfl fh) rfl) Zsz Zp8 (j:=0) rfl (vs:= [.slice ZR5 ZC6.length ZFn]) rfl rfl rfl rfl rfl (cs':= [.slice ZR5 ZC6.length ZFn]) rfl rfl rfl) ?_ rfl Kq0 [] Kq0 Yh.e;rintro Z4z hS;obtain⟨ZNj,ZZe,hS⟩:=hS.Ko (.c k0 (.c k0 .n)) Zp8;refine Jv ?_;refine WO.w gN rfl (YX ZhQ (Zv lk (Zv lk (Zv lk (Zv lk (Zv lk ZR))))) rfl (cs':= [.int .i64 1,.int .i64 U6.place,.int .i64 x1.ZX,.int .i64 U6.msg,.int .i64 U6.hops]) rfl) ?_;refine WO.hn gN rfl (QF (e:=Zy) hS ZeU KS ZaF rfl rfl rfl (Zv lk ZR) rfl [((),(Zj.mk 1 U6.place x1.ZX U6.msg U6.hops))] rfl (xs:= [(Zj.mk 1 U6.place x1.ZX U6.msg U6.hops)]) rfl (by intro q hq;simp only [List.mem_cons,List.not_mem_nil,or_false] at hq;subst hq;exact trivial) rfl) ?_;rintro _ Z4x ⟨ZXR,Z1c,rfl,hS⟩;refine r5 ?_;exact Yk.XI rfl (ZU lk ZE) ⟨_,hL,⟨(some ⟨ZXR,0,none⟩),2,1,ZNj,rfl,hS.only sl⟩⟩
          ·intro hc hL;cases hL
        ·intro hc hL;refine r3 ?_;refine WO.hn gN rfl (QF (e:=Ze) hS ZaY JA Zcj rfl rfl rfl (Zv lk ZR) rfl [((),U6)] rfl (xs:= [U6]) rfl (by intro q hq;simp only [List.mem_cons,List.not_mem_nil,or_false] at hq;subst hq;exact trivial) rfl) ?_;rintro _ Z4w ⟨Z7j,Z1b,rfl,hS⟩;obtain⟨ZHz,ZNC,hL⟩:=qZ hL;refine WO.hv gN rfl (XT (e:=Ze) hS k3 Zaf lk lk (hS.Xk k0) (hS.on k0) ZNC) ?_;rintro _ Z4v ⟨ZX5,ZXk,rfl,hS⟩;refine r3 ?_;exact YO.YQ _ hL ⟨_,_,Zw8,c203,v201.length,ZX5,ZXk,ZHz.length,Zt4,rfl,hS.only sl,Yv⟩
      ·intro hc hL;refine r5 ?_;refine WC.YC mixed Kq0 ?_;refine r7 ?_;obtain⟨ZS1,Zp6,hL⟩:=qZ hL;obtain⟨Z7i,Z2P,ZX4,n310,ZXj,ZzK,ZAr,ZVU⟩:=hS.atS k5 Zp6;obtain⟨e1,e2,e3⟩:a194=ZX4∧n195=n310∧c196=ZXj:=by have z:=Znn.symm.trans ZzK;simpa only [Prod.mk.injEq] using z
       subst e1 e2 e3;refine WX.w gN rfl (Yn ZeV Ug lk lk (hS.YL k5) ZAr Zp6) ?_ rfl;have hS:=hS.Kj k5 Zp6 ZzK;refine WX.hu gN (ZdW hS k0 Ug (YG fh rfl) (YG (ZC rfl fh) rfl) ZAr Zp6 (j:=0) rfl (vs:= [.slice a208 ZeR.length Ztp]) rfl rfl rfl rfl rfl (cs':= [.slice a208 ZeR.length Ztp]) rfl rfl rfl) ?_ rfl rfl [] Kq0 Yh.e;rintro Z4u hS;obtain⟨ZNh,ZZc,hS⟩:=hS.Ko (.c k0 (.c k2 .n)) Zp6;refine r7 ?_;exact Ya.YQ (ZzQ _ _ hL ⟨_,_,Zw8,c203,v201.length,Zt4,ZNh,rfl,hS.only sl,Yv⟩)
     ·intro hc hL;refine r5 ?_;exact YO.YQ _ hL ⟨_,_,ZkR,ZkC,v168.length,Zt5,ZiY,ZlX,rfl,hS.only sl,Yv⟩
   ·intro hc hL;refine r6 ?_;refine cn hL ?_ ?_
    ·intro hc hL;refine r1 ?_;refine WC.YC mixed Kq0 ?_;refine r6 ?_;obtain⟨ZMy,Zzo,hL⟩:=qZ hL;obtain⟨Z7h,Z2O,ZX3,n319,ZXi,Zss,ZUW,ZVT⟩:=hS.atS k7 Zzo;refine r4 ?_;obtain⟨ZvB,ZGl,hL⟩:=qZ hL;obtain⟨Z7g,Z2N,_,ZJm,ZJ0,ZVf⟩:=Src.at_ (hS.inS k7 Zzo Zss).2.1 ZGl;refine WX.w gN rfl (Yn WJ Y3 lk lk (hS.inS k7 Zzo Zss).1 ZJm ZGl) ?_ rfl;refine WX.w gN rfl (YJ Zb4 Y3 (YG fh rfl) ZJ0 (j:=0) rfl rfl (ws:= (cE ZvB)) rfl) ?_ rfl;refine WX.hn gN rfl (Zhl hS Zbo (vs:= [.bool false,.int .i64 0,.int .i64 0]) rfl) ?_ rfl;rintro _ Z4t ⟨Z7f,Z1a,rfl,hS⟩;refine WX.hu gN (Ui hS k0 Y3 lk lk (vs:= (cE ZvB)) rfl rfl rfl rfl (cs':= (cE ZvB)) rfl) ?_ rfl rfl [] Kq0 Yh.e;rintro Z4s hS;refine r16 ?_;refine cn hL ?_ ?_
     ·intro hc hL;refine WC.YC mixed Kq0 ?_;refine r6 ?_;obtain⟨ZHH,Zp5,hL⟩:=qZ hL;obtain⟨Z7e,Z2M,ZX2,n331,ZXh,Znk,ZUV,ZVS⟩:=hS.atS k8 Zp5;obtain⟨e1,e2,e3⟩:ZX3=ZX2∧n319=n331∧ZXi=ZXh:=by have z:=Zss.symm.trans Znk;simpa only [Prod.mk.injEq] using z
      subst e1 e2 e3;refine r8 ?_;refine WX.w gN rfl (YX ZkE (Zv lk (Zv lk ZR)) rfl (cs':= [.bool false,.int .i64 x1.at_,.int .i64 x1.age]) rfl) ?_ rfl;obtain⟨ZS0,Zzm,hL⟩:=qZ hL;obtain⟨Z7d,Z2L,_,ZAq,ZJZ,ZVe⟩:=Src.at_ (hS.inS k8 Zp5 Znk).2.1 Zzm;refine WX.w gN rfl (Yn WJ Y3 lk lk (hS.inS k8 Zp5 Znk).1 ZAq Zzm) ?_ rfl;have hS:=hS.Kj k8 Zp5 Znk;refine WX.hu gN (KV (e:=Zc) (Zz.mk false x1.at_ x1.age) () hS k1 Y3 (YG fh rfl) (YG (ZC rfl fh) rfl) ZAq Zzm ZJZ (j:=0) rfl (vs:= [.bool false,.int .i64 x1.at_,.int .i64 x1.age]) rfl rfl rfl rfl rfl (cs':= [.bool false,.int .i64 x1.at_,.int .i64 x1.age]) rfl rfl trivial) ?_ rfl rfl [] Kq0 Yh.e;rintro h336 ⟨hS,Z0P⟩;obtain⟨ZNg,ZZb,hS⟩:=hS.Ko (.c k1 (.c k0 .n)) Zp5;refine r2 ?_;have hS:=hS.nil (e:=Zy);exact YO.YQ _ hL ⟨_,_,none,0,0,Yr,ZNg,Yq,rfl,hS.only sl,Yv⟩
     ·intro hc hL;refine r2 ?_;have hS:=hS.nil (e:=Zy);exact YO.YQ _ hL ⟨_,_,none,0,0,Yr,Yx,Yq,rfl,hS.only sl,Yv⟩
    ·intro hc hL;refine r2 ?_;have hS:=hS.nil (e:=Zy);exact YO.YQ _ hL ⟨_,_,none,0,0,Yr,Yx,Yq,rfl,hS.only sl,Yv⟩
end Go.Proofs.YtbmbbcaaimehkaaGreat
end
end
