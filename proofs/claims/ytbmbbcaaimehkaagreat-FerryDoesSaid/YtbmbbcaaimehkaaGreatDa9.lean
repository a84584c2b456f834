/- WeighDoes returns true, whatever the number of machines, the world and the deed. No condition. Part 9 of the proof. -/
import Derived.Test.YtbmbbcaaimehkaaGreatDa8
set_option linter.all false
set_option maxHeartbeats 2000000
section
noncomputable section
namespace Go.YR
open Go.Lf
variable {X:Ctx} {n wm:Nat} {rd:Option Nat} {ops:Array Oper} {ol:List Oper} {fr:Fr} {ds:List Deferred} {h h0:H} {ty:TypeId} {p:String} {af:Array Edge} {g:Option (Nat×Bool)} {T:Nat ->Prop} {G Gr:List (Ast wm)} {d l df:Nat} {LO:Xv} {ps:Array Tmp} {YE bd:Code}
theorem ZiH {α β:Type} {body:α ->(α ->Option β) ->Option β} (C:α ->β ->Prop) (hb:∀ next:α ->Option β,(∀ x r,next x=some r ->C x r) ->∀ x r,body x next=some r ->C x r):∀ F x r,loop F body x=some r ->C x r:=by
 intro F
 induction F with
 | zero=>intro x r h;cases h
 | succ F ih=>intro x r h;exact hb _ ih x r h
def dne (c:Code):Xv ->Xv
 | .loop _ _ fr n ps YE bd df=>.loop .done (some c) fr n ps YE bd df
 | A=>A
def lst (b:Bool) (c:Code) (A:Xv):Xv:=bif b then dne c A else A
inductive Zu3:XX ->Code ->Prop
 | ret:Zu3 .ret .ret
 | exit (id:Nat):Zu3 (.exit id) (.exit id)
structure BdS (n lo l:Nat) (fr:Fr) (ps:Array Tmp) (YE bd:Code) (df:Nat) (R:Bool ->H ->Prop) (e:XX) (s:Fs):Prop where
 out:s.h.at l= .loop .busy none fr n ps YE bd df∧
  ((e= .normal∧∀ h',(lo <=l ->Up lo (fun i=>i=l) s.h h') ->h'.at l= .loop .ready none fr n ps YE bd df ->R true h')∨
   (∃ c,Zu3 e c∧∀ h',(lo <=l ->Up lo (fun i=>i=l) s.h h') ->h'.at l= .loop .done (some c) fr n ps YE bd df ->R false h'))
structure AsS (X:Ctx) (n wm lo l:Nat) (fr:Fr) (ps:Array Tmp) (YE bd:Code) (df:Nat) (R:Bool ->H ->Prop) (e:XX) (s:Fs):Prop where
 out:e= .normal∧s.h.at l= .loop .ready none fr n ps YE bd df∧∀ h1,(lo <=l ->Up lo (fun i=>i=l) s.h h1) ->h1.at l= .loop .busy none fr n ps YE bd df ->WC X n wm (some l) bd ⟨s.fr,s.ds,h1,s.wr⟩ (BdS n lo l fr ps YE bd df R)
theorem Ztj.mkS {l:Nat} {args:List Value} {fr fr1:Fr} {ps:Array Tmp} {YE bd:Code} {df:Nat} {R:Bool ->H ->Prop} (lo:Nat) (hat:h.at l= .loop .ready none fr n ps YE bd df) (hw:wm <=l) (hl:Nat.beq args.length ps.toList.length=true) (hs:Qm (ps.toList.zip args) n fr=some fr1)
 (k:WC X n wm (some l) YE ⟨fr1,[],h,none⟩ (AsS X n wm lo l fr ps YE bd df R)):Ztj X l args.toArray wm h R:=by
 obtain⟨e1,s1,⟨rfl,h1,k1⟩,j1⟩:=k;have o1:(s1.h.at l).own=true:=by rw [h1];rfl
 have s1l:=XQ h1 rfl;obtain⟨e2,s2,⟨h2,k2⟩,j2⟩:=k1 (s1.h.put l (.loop .busy none fr n ps YE bd df)) (fun hl=>Up.put hl o1) (YJ s1l _);have o2:(s2.h.at l).own=true:=by rw [h2];rfl
 have s2l:=XQ h2 rfl
 have key:∃ b A,R b (s2.h.put l A)∧WN l e2 s2=some (.fin (.ret (.bool b)) (s2.h.put l A)):=by
  rcases k2 with⟨rfl,k2⟩ | ⟨c,hx,k2⟩
  ·refine⟨true,_,k2 _ (fun hl=>Up.put hl o2) (YJ s2l _),?_⟩;unfold WN;rw [h2]
  ·refine⟨false,_,k2 _ (fun hl=>Up.put hl o2) (YJ s2l _),?_⟩;unfold WN;rw [h2];cases hx <;> rfl
 obtain⟨b,A,hR,hev⟩:=key;refine⟨b,s2.h.put l A,hR,?_⟩
 classical
 let ih:Jl ->Option Xb:=fun j=>if j= .code YE n wm (some l) ⟨fr1,[],h,none⟩ then some (.code .normal s1) else Zau (.code bd n wm (some l) {s1 with h:=s1.h.put l (.loop .busy none fr n ps YE bd df)}) (.code e2 s2) j
 have HI:∀ j r,ih j=some r ->Y0 X j r:=by
  intro j r e;dsimp only [ih] at e;split at e
  ·rename_i hj;cases e;rw [hj];exact j1
  ·exact Uq (X:=X) j2 j r e
 refine Zay (C:=cfg X fun _=>false) (ih:=ih) HI ?_;unfold Zdu;rw [hat];have hl':Nat.beq args.toArray.toList.length ps.toList.length=true:=hl;dsimp only;rw [Nm0 hw,hl'];simp only [Bool.and_self,Cq1];have hs':Qm (ps.toList.zip args.toArray.toList) n fr=some fr1:=hs;rw [hs'];dsimp only;have i1:ih (.code YE n wm (some l) {fr:=fr1,ds:= [],h:=h})=some (.code .normal s1):=by dsimp only [ih];rw [if_pos rfl]
 rw [i1];show K4 ih l bd n wm .normal s1=_;unfold K4;dsimp only;rw [h1];dsimp only
 have i2:ih (.code bd n wm (some l) {s1 with h:=s1.h.put l (.loop .busy none fr n ps YE bd df)})=some (.code e2 s2):=by
  dsimp only [ih];split
  ·rename_i hj;exfalso;injection hj with _ _ _ _ hs
   have:({s1 with h:=s1.h.put l (.loop .busy none fr n ps YE bd df)}:Fs).h.at l=h.at l:=by rw [hs]
   dsimp only at this;rw [YJ s1l,hat] at this;cases this
  ·exact Ur _ _
 rw [i2];exact hev
theorem WO.ZR1 {Q:XX ->Fs ->Prop} {fo:Operand} {xs:Array Operand} {ts:Array TypeId} {vs:List Value} {n2:Nat} {XT fr1:Fr} {as2 bd2:Code} (hg:Yt ops ⟨some d,.call {callee:= .value fo,args:=xs,argTypes:=ts},ty,p,af,g⟩ fr) (hd:Nat.blt d n=true) (hf:Yz fr fo=some (.func (.yield l) #[] #[])) (hx:evs (Yz fr) xs.toList=some vs)
 (hS:Sp wm T h0 G h) (pk:Pk G (ob wm l LO) Gr) (hLO:LO= .loop .ready none XT n2 ps as2 bd2 df) (hl:Nat.beq vs.length ps.toList.length=true) (hs:Qm (ps.toList.zip vs) n2 XT=some fr1)
 (k:WC X n2 wm (some l) as2 ⟨fr1,[],h,none⟩ (AsS X n2 wm wm l XT ps as2 bd2 df (fun b h'=>WO X n wm rd ops ol ⟨Tr.set fr d (.bool b),ds,h',none⟩ Q))):
 WO X n wm rd ops (⟨some d,.call {callee:= .value fo,args:=xs,argTypes:=ts},ty,p,af,g⟩::ol) ⟨fr,ds,h,none⟩ Q:=by
 obtain⟨h1,h2,h3⟩:=hS.get pk;have hat:=h1.trans hLO;exact WO.yld hg hd hf hx hat (Nb0 hl) (Ztj.mkS (lo:=wm) hat h2 hl hs k) fun b h' hk=>hk
theorem AsS.sp {XT:Fr} {R:Bool ->H ->Prop} (hLO:LO= .loop .ready none fr n ps YE bd df) (hS:Sp wm T h0 G h) (pk:Pk G (ob wm l LO) Gr) (k:∀ h1,Sp wm T h0 (ob wm l (bsy LO)::Gr) h1 ->WC X n wm (some l) bd ⟨XT,ds,h1,none⟩ (BdS n wm l fr ps YE bd df R)):AsS X n wm wm l fr ps YE bd df R .normal ⟨XT,ds,h,none⟩:=by
 obtain⟨h1,h2,h3⟩:=hS.get pk;refine⟨⟨rfl,h1.trans hLO,fun h' u e=>k h' ?_⟩⟩;exact hS.one pk (u h2) (fun _ q=>q) ⟨by rw [e,hLO];rfl,h2,by rw [hLO];rfl⟩ fun _ q=>.inl q
theorem BdS.sp {XT:Fr} {R:Bool ->H ->Prop} (hLO:LO= .loop .ready none fr n ps YE bd df) (hS:Sp wm T h0 G h) (pk:Pk G (ob wm l (bsy LO)) Gr) (k:∀ h1,Sp wm T h0 (ob wm l LO::Gr) h1 ->R true h1):BdS n wm l fr ps YE bd df R .normal ⟨XT,ds,h,none⟩:=by
 obtain⟨h1,h2,h3⟩:=hS.get pk;refine⟨⟨h1.trans (by rw [hLO];rfl),.inl ⟨rfl,fun h' u e=>k h' ?_⟩⟩⟩;exact hS.one pk (u h2) (fun _ q=>q) ⟨by rw [e,hLO],h2,by rw [hLO];rfl⟩ fun _ q=>.inl q
theorem BdS.stop {XT:Fr} {R:Bool ->H ->Prop} {e:XX} {c:Code} (hx:Zu3 e c) (hLO:LO= .loop .ready none fr n ps YE bd df) (hS:Sp wm T h0 G h) (pk:Pk G (ob wm l (bsy LO)) Gr) (k:∀ h1,Sp wm T h0 (ob wm l (lst true c LO)::Gr) h1 ->R false h1):BdS n wm l fr ps YE bd df R e ⟨XT,ds,h,none⟩:=by
 obtain⟨h1,h2,h3⟩:=hS.get pk;refine⟨⟨h1.trans (by rw [hLO];rfl),.inr ⟨c,hx,fun h' u e=>k h' ?_⟩⟩⟩;exact hS.one pk (u h2) (fun _ q=>q) ⟨by rw [e,hLO];rfl,h2,by rw [hLO];rfl⟩ fun _ q=>.inl q
structure RgS (X:Ctx) (wm l:Nat) (fr:Fr) (n:Nat) (ps:Array Tmp) (YE bd:Code) (df:Nat) (ds:List Deferred) (Q:XX ->Fs ->Prop) (h:H):Prop where
 low:wm <=l
 k:(h.at l= .loop .ready none fr n ps YE bd df∧∀ h',Up wm (fun i=>i=l) h h' ->Q .normal ⟨fr,⟨.collected df,#[]⟩::ds,h',none⟩)∨
  (∃ c,h.at l= .loop .done (some c) fr n ps YE bd df∧∀ h',Up wm (fun i=>i=l) h h' ->WC X n wm none c ⟨fr,⟨.collected df,#[]⟩::ds,h',none⟩ Q)
theorem RgS.sp {Q:XX ->Fs ->Prop} (hLO:LO= .loop .ready none fr n ps YE bd df) (hS:Sp wm T h0 G h) (pk:Pk G (ob wm l LO) Gr) (k:∀ h',Sp wm T h0 Gr h' ->Q .normal ⟨fr,⟨.collected df,#[]⟩::ds,h',none⟩):RgS X wm l fr n ps YE bd df ds Q h:=by
 obtain⟨h1,h2,h3⟩:=hS.get pk;refine⟨h2,.inl ⟨h1.trans hLO,fun h' u=>k h' ?_⟩⟩;exact Sp.step (Ga:= [ob wm l LO]) (Gb:= []) (hS.perm pk.perm) u (fun i e=>⟨_,List.mem_singleton.2 rfl,e⟩) Yd.nil fun i ⟨A,m,f⟩=>by simp at m
theorem RgS.stop {Q:XX ->Fs ->Prop} {c:Code} (hLO:LO= .loop .ready none fr n ps YE bd df) (hS:Sp wm T h0 G h) (pk:Pk G (ob wm l (lst true c LO)) Gr) (k:∀ h',Sp wm T h0 Gr h' ->WC X n wm none c ⟨fr,⟨.collected df,#[]⟩::ds,h',none⟩ Q):RgS X wm l fr n ps YE bd df ds Q h:=by
 obtain⟨h1,h2,h3⟩:=hS.get pk;refine⟨h2,.inr ⟨c,h1.trans (by rw [hLO];rfl),fun h' u=>k h' ?_⟩⟩;exact Sp.step (Ga:= [ob wm l (lst true c LO)]) (Gb:= []) (hS.perm pk.perm) u (fun i e=>⟨_,List.mem_singleton.2 rfl,e⟩) Yd.nil fun i ⟨A,m,f⟩=>by simp at m
theorem WC.ZHp {Q:XX ->Fs ->Prop} {gg:Operand} {f:FuncId} {first cap:List Value} (hS:Sp wm T h0 G h) (hg:Yz fr gg=some (.func (.func f) first.toArray cap.toArray)) (hf:(X.fns.get f).isSome=true)
 (k:∀ h' l df LO,LO=Xv.loop .ready none fr n ps YE bd df ->Sp wm T h0 (ob wm l LO::ob wm df .deferred::G) h' ->WR X f (first ++ ([Value.func (.yield l) #[] #[]] ++ cap)).toArray wm h' (fun _ h2=>RgS X wm l fr n ps YE bd df ds Q h2)):
 WC X n wm none (.rangeFunc gg ps YE bd) ⟨fr,ds,h,none⟩ Q:=by
 have s1:Sp wm T h0 (ob wm h.size .deferred::G) (h.push .deferred):=ZmA rfl hS
 have s2:Sp wm T h0 (ob wm (h.size + 1) (.loop .ready none fr n ps YE bd h.size)::ob wm h.size .deferred::G) ((h.push .deferred).push (.loop .ready none fr n ps YE bd h.size)):=by
  have:=ZmA (A:= .loop .ready none fr n ps YE bd h.size) rfl s1
  rwa [H.size_push] at this
 obtain⟨fn,hf⟩:=Option.isSome_iff_exists.1 hf;obtain⟨e,h3,⟨v,rfl,hr⟩,hj⟩:=k _ _ _ _ rfl s2
 have hac:Kl (cfg X fun _=>false).X ((h.push .deferred).push (.loop .ready none fr n ps YE bd h.size)) (.func (.func f) first.toArray cap.toArray) [Value.func (.yield (h.size + 1)) #[] #[]]=some (.enter f (first ++ ([Value.func (.yield (h.size + 1)) #[] #[]] ++ cap)).toArray,.none):=by
  unfold Kl;have:(cfg X fun _=>false).X.fns.get f=some fn:=hf;dsimp only;rw [this];simp only [List.append_assoc]
 rcases hr.k with⟨hat,hk⟩ | ⟨c,hat,hk⟩
 ·refine⟨.normal,_,hk (h3.put (h.size + 1) (.loop .exhausted none fr n ps YE bd h.size)) (Up.put hr.low (by rw [hat];rfl)),?_⟩;refine XL.2 (Wq (C:=cfg X fun _=>false) (ih:=Zau (.call f _ wm _) (.fin (.ret v) h3)) (Uq hj) ?_);show Qw (cfg X fun _=>false) _ gg n wm none (h.size + 1) ⟨fr,⟨.collected h.size,#[]⟩::ds,(h.push .deferred).push (.loop .ready none fr n ps YE bd h.size),none⟩=_;unfold Qw;dsimp only;rw [hg];dsimp only;rw [hac];dsimp only;unfold UG;rw [Ur];dsimp only;rw [hat]
  rfl
 ·obtain⟨e2,s2,hq,hj2⟩:=hk (h3.put (h.size + 1) (.loop .exhausted (some c) fr n ps YE bd h.size)) (Up.put hr.low (by rw [hat];rfl));refine⟨e2,s2,hq,?_⟩
  classical
  let ih:Jl ->Option Xb:=fun j=>if j= .code c n wm none ⟨fr,⟨.collected h.size,#[]⟩::ds,h3.put (h.size + 1) (.loop .exhausted (some c) fr n ps YE bd h.size),none⟩ then some (.code e2 s2) else Zau (.call f (first ++ ([Value.func (.yield (h.size + 1)) #[] #[]] ++ cap)).toArray wm ((h.push .deferred).push (.loop .ready none fr n ps YE bd h.size))) (.fin (.ret v) h3) j
  have HI:∀ j r,ih j=some r ->Y0 X j r:=by
   intro j r e;dsimp only [ih] at e;split at e
   ·rename_i hj';cases e;rw [hj'];exact hj2
   ·exact Uq (X:=X) hj j r e
  refine XL.2 (Wq (C:=cfg X fun _=>false) (ih:=ih) HI ?_);show Qw (cfg X fun _=>false) _ gg n wm none (h.size + 1) ⟨fr,⟨.collected h.size,#[]⟩::ds,(h.push .deferred).push (.loop .ready none fr n ps YE bd h.size),none⟩=_;unfold Qw;dsimp only;rw [hg];dsimp only;rw [hac];dsimp only;unfold UG
  have i1:ih (.call f (first ++ ([Value.func (.yield (h.size + 1)) #[] #[]] ++ cap)).toArray wm ((h.push .deferred).push (.loop .ready none fr n ps YE bd h.size)))=some (.fin (.ret v) h3):=by
   dsimp only [ih];split
   ·rename_i hj';cases hj'
   ·exact Ur _ _
  rw [i1];dsimp only;rw [hat];show ih (.code c n wm none _)=_;dsimp only [ih];rw [if_pos rfl]
theorem Zop {ev:Operand ->Option Value} {d:Option Tmp} {f:FuncId} {xs ys:Array Operand} {vs us:List Value} (hy:evs ev ys.toList=some us) (hx:evs ev xs.toList=some vs):XU X h ev ⟨d,.makeFunc (.func f) ys xs,ty,p,af,g⟩=some (.val (.func (.func f) us.toArray vs.toArray),.none):=by
 show(bif Zia (.func f) then none else match evs ev ys.toList,evs ev xs.toList with | some vs,some us=>some (AN.val (.func (.func f) vs.toArray us.toArray),Eff.none) | _,_=>none)=_;rw [hx,hy];rfl
theorem ZxH {κ ν:Type} [DecidableEq κ] {kv:κ ->Value} {vv:ν ->Value} {kt vt:TypeId} {i:Nat} {ll:List (κ×ν)} {t:TypeId} {x y z:Operand} {k:κ} {v:ν} (hS:Sp wm T h0 G h) (pk:Pk G (mp wm kv vv (some i) ll) Gr) (K:ZkL X.P kt kv) (hu:X.P.underlying t=some (.map kt vt)) (hx:Yz fr x=some (.map (some i))) (hy:Yz fr y=some (kv k)) (hz:Yz fr z=some (vv v)):
 HU X wm ⟨none,.insert t x y z,ty,p,af,g⟩ fr h (fun j=>j=i) (fun h'=>Sp wm T h0 (mp wm kv vv (some i) (Zag ll k v)::Gr) h'):=
 ZL4 (ty:=ty) (p:=p) (af:=af) (g:=g) hS pk K hu hx hy hz
section
variable {sf:ST} {m:Nat}
theorem WX.ZcM {Q:Fr ->H ->Prop} {o:Oper} {c:Bool} (_:Zw ops o fr c) (h1:c=true ->WX X n wm rd ops sf m h (o::ol) fr Q) (h2:c=false ->WX X n wm rd ops sf m h (o::ol) fr Q):WX X n wm rd ops sf m h (o::ol) fr Q:=by
 cases c
 ·exact h2 rfl
 ·exact h1 rfl
theorem WX.hv0 {Q:Fr ->H ->Prop} {op:Op} {T:Nat ->Prop} {K:Value ->H ->Prop} (hg:Yt ops ⟨some d,op,ty,p,af,g⟩ fr) (hd:Nat.blt d n=true) (s:HV X wm ⟨some d,op,ty,p,af,g⟩ fr h T K) (h0:∀ x,T x ->False)
 (k:∀ v h',K v h' ->WX X n wm rd ops sf (m + 1) h' ol (Tr.set fr d v) Q) (hh:Ym ⟨some d,op,ty,p,af,g⟩=false) (hM:okM ops sf m ⟨some d,op,ty,p,af,g⟩=true):
 WX X n wm rd ops sf m h (⟨some d,op,ty,p,af,g⟩::ol) fr Q:=by
 obtain⟨v,E,h1,ha,hE,hT,hz,hk⟩:=s;refine⟨fun hb=>?_⟩;by_cases hw:wm <=h.size
 ·have hs:=ZaH (wm:=wm) (rd:=rd) hg (.inl ha) hE
  exact WE.cons (T:=fun x=>E.tgt=some x) (xs0:= []) (h2:=h1) (v:=v) [] [] none ⟨fun _=>⟨h1,rfl,hs.1,hs.2.1 hw⟩,hs.2.2 hw,fun d' e=>(by cases e;rwa [Nat.blt_eq] at hd),fun q=>Bool.noConfusion (hh.symm.trans q),fun _ _ _ z=>by simp at z⟩ (fun _ z=>by simp at z) (fun x hx=>(h0 x (hT x hx)).elim)
   (fun x hx=>(h0 x (hT x hx)).elim) (fun hh q hq=>.inl (Uz hM hh q hq)) (fun x j C z=>by cases z) ((k v h1 hk).out fun q hq x hx=>Nat.lt_of_lt_of_le (hb q hq x hx) hz)
 ·exact WE.cons (T:=fun _=>False) (xs0:= []) (h2:=h1) (v:=v) [] [] none ⟨fun z=>absurd z hw,fun _ z=>z.elim,fun d' e=>(by cases e;rwa [Nat.blt_eq] at hd),fun q=>Bool.noConfusion (hh.symm.trans q),fun _ z=>z.elim⟩ (fun _ z=>by simp at z) (fun x hx=>hx.elim)
   (fun x hx=>hx.elim) (fun hh q hq=>.inl (Uz hM hh q hq)) (fun x j C z=>by cases z) ((k v h1 hk).out fun q hq x hx=>Nat.lt_of_lt_of_le (hb q hq x hx) hz)
theorem Sp.djs {T0:Nat ->Prop} {G Ga Gr:List (Ast wm)} {B:Ast wm} (s:Sp wm T0 h0 G h) (p:Sel G (B::Ga) Gr):∀ x,Qi Ga x ->¬ B.fp x:=fun x ⟨A,hA,fa⟩ fb=>
 (List.pairwise_cons.1 (s.Zic p).dis).1 A hA x fb fa
inductive Lk (ops:Array Oper) (m:Nat) (R:Nat ->Prop):List (Nat×(Nat ->Prop)) ->Prop
 | n:Lk ops m R []
 | o {q:Nat×(Nat ->Prop)} {r:List (Nat×(Nat ->Prop))} (h:comp (Qk ops.toList 0 []) q.1 m=true):Lk ops m R r ->Lk ops m R (q::r)
 | d {q:Nat×(Nat ->Prop)} {r:List (Nat×(Nat ->Prop))} (h:∀ x,q.2 x ->¬ R x):Lk ops m R r ->Lk ops m R (q::r)
theorem Lk.get {R:Nat ->Prop} {r:List (Nat×(Nat ->Prop))} (h:Lk ops m R r):∀ q ∈ r,Cmp ops q.1 m∨∀ x,q.2 x ->¬ R x:=by
 induction h with
 | n=>intro q hq;simp at hq
 | o h1 _ ih=>intro q hq;rcases List.mem_cons.1 hq with z | z
              ·subst z;exact .inl h1
              ·exact ih q z
 | d h1 _ ih=>intro q hq;rcases List.mem_cons.1 hq with z | z
              ·subst z;exact .inr h1
              ·exact ih q z
theorem WX.wrM {Q:Fr ->H ->Prop} {T0:Nat ->Prop} {G:List (Ast wm)} {op:Op} {v:Value} (R:Nat ->Prop) (hS:Sp wm T0 h0 G h) (hg:Yt ops ⟨some d,op,ty,p,af,g⟩ fr) (hd:Nat.blt d n=true) (ha:∀ g':H,g'.size=h.size ->(∀ x,R x ->g'.at x=h.at x) ->XU X g' (Yz fr) ⟨some d,op,ty,p,af,g⟩=some (.val v,.none))
 (k:∀ h',h'.size=h.size ->Sp wm T0 h0 G h' ->WX X n wm rd ops ⟨(m,fun x=>¬ R x)::sf.s,sf.m,sf.p⟩ (m + 1) h' ol (Tr.set fr d v) Q) (hh:Ym ⟨some d,op,ty,p,af,g⟩=false) (hM:Lk ops m R sf.m):
 WX X n wm rd ops sf m h (⟨some d,op,ty,p,af,g⟩::ol) fr Q:=by
 have hsz:(Qj (Xz h R) h (mask (Xz h R) h)).size=h.size:=by rw [Xh,ZW]
 have hvv:∀ x,¬ R x ->VV h (Qj (Xz h R) h (mask (Xz h R) h)) (Xz h R) x:=fun x hx=>by
  rcases Nat.lt_or_ge x h.size with z | z
  ·exact .inl ⟨z,Zbr.2 ⟨z,hx⟩⟩
  ·exact .inr (by rw [hsz];exact z)
 refine⟨fun hb=>WE.cons (T:=fun _=>False) (xs0:=Xz h R) (h2:=Qj (Xz h R) h (mask (Xz h R) h)) (v:=v) [(m,fun x=>¬ R x)] [] none ?_ (fun q hq=>?_) (fun _ z=>z.elim) (fun _ z=>z.elim) (fun hh q hq=>(hM.get q hq).imp id fun z x hx=>hvv x (z x hx)) (fun x j C z=>by cases z) ((k _ hsz (hS.up (Up.hide wm _ h))).out fun q hq x hx=>by rw [hsz];exact hb q hq x hx)⟩
 ·have:=ZaH (wm:=wm) (rd:=rd) hg (.inl (ha _ (ZW _ _) fun x hx=>ZzB hx)) (h1:=mask (Xz h R) h) rfl;have t0:(fun x:Nat=>Eff.tgt Eff.none=some x)=fun _=>False:=by funext x;simp [Eff.tgt]
  rw [t0] at this;exact⟨fun hw=>⟨_,rfl,this.1,this.2.1 (by rw [ZW];exact hw)⟩,fun _ z=>z.elim,fun d' e=>(by cases e;rwa [Nat.blt_eq] at hd),fun q=>Bool.noConfusion (hh.symm.trans q),fun _ z=>z.elim⟩
 ·rw [List.mem_singleton.1 hq];exact⟨rfl,fun x hx=>hvv x hx⟩
theorem Zh2 {x:Nat} (h:XB none x):False:=by obtain⟨o,e⟩:=h;cases e
theorem WX.ZcC {Q:Fr ->H ->Prop} {op:Op} {c:Bool} (hg:Zw ops ⟨some d,op,ty,p,af,g⟩ fr c) (hc:c=false) (hd:Nat.blt d n=true) (k:WX X n wm rd ops sf (m + 1) h ol (Tr.set fr d undef) Q) (hM:okM ops sf m ⟨some d,op,ty,p,af,g⟩=true):WX X n wm rd ops sf m h (⟨some d,op,ty,p,af,g⟩::ol) fr Q:=WX.off (hg.off hc) hd k hM
end
theorem ZEE {β:Type} {b:Bool} {x:Option β} {r:β} (h:(bif b then none else x)=some r):b=false∧x=some r:=by
 cases b
 ·exact⟨rfl,h⟩
 ·cases h
theorem Zby (b:Bool):b=true∨b=false:=by cases b <;> simp
end Go.YR
end
end
section
end
section
namespace Go.Proofs.YtbmbbcaaimehkaaGreat
structure ZA where
 here:Bool
 ZX:Int
 age:Int
 deriving DecidableEq,Inhabited
structure Zr where
 msg:Int
 place:Int
 from_:Int
 age:Int
 hops:Int
 deriving DecidableEq,Inhabited
structure Zg where
 kind:Int
 ZX:Int
 ZV:Zr
 qV:(List Int)
 Yc:(List Int)
 place:Int
 at_:Int
 age:Int
 deriving DecidableEq,Inhabited
structure Zb where
 Zx:(List Int)
 qK:(List (List Int))
 qQ:(List (List ZA))
 qJ:(List (List Zr))
 qG:(List Zg)
 said:Int
 deriving DecidableEq,Inhabited
structure Zv where
 deed:Int
 place:Int
 at_:Int
 n:Int
 hops:Int
 deriving DecidableEq,Inhabited
structure ZH where
 act:Int
 a:Int
 b:Int
 deriving DecidableEq,Inhabited
structure XO where
 at_:Int
 age:Int
 letter:Int
 is:Bool
 deriving DecidableEq,Inhabited
structure Yy where
 machine:Int
 here:Bool
 age:Int
 deriving DecidableEq,Inhabited
structure ZY where
 Za:Zb
 Xc:(List Yy)
 deriving DecidableEq,Inhabited
structure Yb where
 Za:Zb
 qX:(List Zv)
 deriving DecidableEq,Inhabited
def Qx (x y:ZA):Bool:= [x.here==y.here,x.ZX==y.ZX,x.age==y.age].all id
def Xt (x y:Zr):Bool:= [x.msg==y.msg,x.place==y.place,x.from_==y.from_,x.age==y.age,x.hops==y.hops].all id
def Kv (x y:Zv):Bool:= [x.deed==y.deed,x.place==y.place,x.at_==y.at_,x.n==y.n,x.hops==y.hops].all id
def Zfo (x y:Yy):Bool:= [x.machine==y.machine,x.here==y.here,x.age==y.age].all id
def ZEt:Option Bool:=some true
def Zsx (p0:List Int):Option (List Int):=bif Nat.ble p0.length 1000000 then some (p0.mergeSort fun x y=>decide (x <=y)) else none
end Go.Proofs.YtbmbbcaaimehkaaGreat
end
section
set_option maxRecDepth 100000
noncomputable section
namespace Go.Proofs.YtbmbbcaaimehkaaGreat
open Go.YR Go.Lf
def Zc:JW ZA where
 sz:=3
 pos:=by decide
 Par:=Unit
 dflt:= ()
 sh:=fun _ x=>[.bool x.here,.int .i64 x.ZX,.int .i64 x.age]
 len:=fun _ _=>rfl
 one:=fun _ _=>rfl
 F:=fun _ _ _ _=>True
 mono:=fun _ x=>x
 up:=fun _ x=>x
def Ze:JW Zr where
 sz:=5
 pos:=by decide
 Par:=Unit
 dflt:= ()
 sh:=fun _ x=>[.int .i64 x.msg,.int .i64 x.place,.int .i64 x.from_,.int .i64 x.age,.int .i64 x.hops]
 len:=fun _ _=>rfl
 one:=fun _ _=>rfl
 F:=fun _ _ _ _=>True
 mono:=fun _ x=>x
 up:=fun _ x=>x
def Zd:JW Zg where
 sz:=12
 pos:=by decide
 Par:= (Option Addr×Nat)×(Option Addr×Nat)
 dflt:= ((none,0),(none,0))
 sh:=fun p x=>[.int .i64 x.kind,.int .i64 x.ZX,.int .i64 x.ZV.msg,.int .i64 x.ZV.place,.int .i64 x.ZV.from_,.int .i64 x.ZV.age,.int .i64 x.ZV.hops,.slice p.1.1 x.qV.length p.1.2,.slice p.2.1 x.Yc.length p.2.2,.int .i64 x.place,.int .i64 x.at_,.int .i64 x.age]
 len:=fun _ _=>rfl
 one:=fun _ _=>rfl
 F:=fun wm h p x=>Sl (Zt .i64) wm h p.1.1 p.1.2 x.qV∧Sl (Zt .i64) wm h p.2.1 p.2.2 x.Yc
 mono:=fun f ⟨y0,y1⟩=>⟨y0.mono f,y1.mono f⟩
 up:=fun f ⟨y0,y1⟩=>⟨y0.up f,y1.up f⟩
def Zpm:JW Zb where
 sz:=6
 pos:=by decide
 Par:= (Option Addr×Nat)×(Option Addr×Nat)×(Option Addr×Nat)×(Option Addr×Nat)×(Option Addr×Nat)
 dflt:= ((none,0),(none,0),(none,0),(none,0),(none,0))
 sh:=fun p x=>[.slice p.1.1 x.Zx.length p.1.2,.slice p.2.1.1 x.qK.length p.2.1.2,.slice p.2.2.1.1 x.qQ.length p.2.2.1.2,.slice p.2.2.2.1.1 x.qJ.length p.2.2.2.1.2,.slice p.2.2.2.2.1 x.qG.length p.2.2.2.2.2,.int .i64 x.said]
 len:=fun _ _=>rfl
 one:=fun _ _=>rfl
 F:=fun wm h p x=>Sl (Zt .i64) wm h p.1.1 p.1.2 x.Zx∧Sl (ZN (Zt .i64)) wm h p.2.1.1 p.2.1.2 x.qK∧Sl (ZN Zc) wm h p.2.2.1.1 p.2.2.1.2 x.qQ∧Sl (ZN Ze) wm h p.2.2.2.1.1 p.2.2.2.1.2 x.qJ∧Sl Zd wm h p.2.2.2.2.1 p.2.2.2.2.2 x.qG
 mono:=fun f ⟨y0,y1,y2,y3,y4⟩=>⟨y0.mono f,y1.mono f,y2.mono f,y3.mono f,y4.mono f⟩
 up:=fun f ⟨y0,y1,y2,y3,y4⟩=>⟨y0.up f,y1.up f,y2.up f,y3.up f,y4.up f⟩
def Zy:JW Zv where
 sz:=5
 pos:=by decide
 Par:=Unit
 dflt:= ()
 sh:=fun _ x=>[.int .i64 x.deed,.int .i64 x.place,.int .i64 x.at_,.int .i64 x.n,.int .i64 x.hops]
 len:=fun _ _=>rfl
 one:=fun _ _=>rfl
 F:=fun _ _ _ _=>True
 mono:=fun _ x=>x
 up:=fun _ x=>x
def ZrG:JW ZH where
 sz:=3
 pos:=by decide
 Par:=Unit
 dflt:= ()
 sh:=fun _ x=>[.int .i64 x.act,.int .i64 x.a,.int .i64 x.b]
 len:=fun _ _=>rfl
 one:=fun _ _=>rfl
 F:=fun _ _ _ _=>True
 mono:=fun _ x=>x
 up:=fun _ x=>x
def Zcr:JW XO where
 sz:=4
 pos:=by decide
 Par:=Unit
 dflt:= ()
 sh:=fun _ x=>[.int .i64 x.at_,.int .i64 x.age,.int .i64 x.letter,.bool x.is]
 len:=fun _ _=>rfl
 one:=fun _ _=>rfl
 F:=fun _ _ _ _=>True
 mono:=fun _ x=>x
 up:=fun _ x=>x
def XI:JW Yy where
 sz:=3
 pos:=by decide
 Par:=Unit
 dflt:= ()
 sh:=fun _ x=>[.int .i64 x.machine,.bool x.here,.int .i64 x.age]
 len:=fun _ _=>rfl
 one:=fun _ _=>rfl
 F:=fun _ _ _ _=>True
 mono:=fun _ x=>x
 up:=fun _ x=>x
theorem ZCJ:XX.P.underlying 4=some .bool:=Kq0
theorem XP:XX.P.underlying 22=some (.slice 3):=Kq0
theorem Zg4:XX.P.underlying 24=some (.slice 22):=Kq0
theorem ZeM:XX.P.underlying 25=some (.slice 64):=Kq0
theorem ZeL:XX.P.underlying 26=some (.slice 90):=Kq0
theorem UR:XX.P.underlying 27=some (.slice 95):=Kq0
theorem ZeK:XX.P.underlying 41=some (.slice 67):=Kq0
theorem ZLY:XX.P.underlying 46=some (.slice 40):=Kq0
theorem Wz:XX.P.underlying 64=some (.slice 63):=Kq0
theorem ZaJ:XX.P.underlying 90=some (.slice 92):=Kq0
theorem KJ:XX.P.underlying 102=some (.slice 104):=Kq0
theorem Zmq:XX.P.underlying 110=some (.slice 4):=Kq0
theorem Zrx:XX.P.underlying 124=some (.slice 120):=Kq0
theorem ZfT:XX.P.underlying 143=some (.map 93 142):=Kq0
theorem WT:YV XX.P 3=some false:=Kq0
theorem ZE1:YV XX.P 4=some false:=Kq0
theorem ZGQ:YV XX.P 22=some false:=Kq0
theorem Zky:YV XX.P 24=some false:=Kq0
theorem ZqV:YV XX.P 25=some false:=Kq0
theorem Zkx:YV XX.P 26=some false:=Kq0
theorem ZBY:YV XX.P 27=some false:=Kq0
theorem ZfA:YV XX.P 29=some true:=Kq0
theorem ZbP:YV XX.P 30=some false:=Kq0
theorem ZQ8:YV XX.P 38=some false:=Kq0
theorem ZQ7:YV XX.P 40=some true:=Kq0
theorem ZGP:YV XX.P 41=some false:=Kq0
theorem ZbO:YV XX.P 63=some true:=Kq0
theorem ZQ6:YV XX.P 64=some false:=Kq0
theorem ZQ5:YV XX.P 65=some false:=Kq0
theorem ZBX:YV XX.P 67=some true:=Kq0
theorem ZQ4:YV XX.P 90=some false:=Kq0
theorem Zfz:YV XX.P 92=some true:=Kq0
theorem ZQ3:YV XX.P 93=some false:=Kq0
theorem WS:YV XX.P 95=some true:=Kq0
theorem Zkz:YV XX.P 104=some true:=Kq0
theorem ZLc:YV XX.P 116=some false:=Kq0
theorem Zow:YV XX.P 120=some true:=Kq0
theorem ZBZ:YV XX.P 124=some false:=Kq0
theorem XE:Yx XX.P 3=some 1:=Kq0
theorem Zo7:Yx XX.P 4=some 1:=Kq0
theorem Uf:Yx XX.P 22=some 1:=Kq0
theorem Zxy:Yx XX.P 24=some 1:=Kq0
theorem Zxx:Yx XX.P 25=some 1:=Kq0
theorem Zxw:Yx XX.P 26=some 1:=Kq0
theorem Zbg:Yx XX.P 27=some 1:=Kq0
theorem KN:Yx XX.P 29=some 6:=Kq0
theorem ZHl:Yx XX.P 30=some 1:=Kq0
theorem ZHk:Yx XX.P 40=some 3:=Kq0
theorem Zmv:Yx XX.P 41=some 1:=Kq0
theorem Y3:Yx XX.P 63=some 3:=Kq0
theorem Zbf:Yx XX.P 64=some 1:=Kq0
theorem KM:Yx XX.P 67=some 5:=Kq0
theorem Ue:Yx XX.P 90=some 1:=Kq0
theorem Js:Yx XX.P 92=some 5:=Kq0
theorem Xf:Yx XX.P 95=some 12:=Kq0
theorem Qo:Yx XX.P 104=some 4:=Kq0
theorem ZCR:Yx XX.P 116=some 1:=Kq0
theorem Zal:Yx XX.P 120=some 3:=Kq0
theorem ZEr:ZQ XX.P 29 0 0:=ZQ.of Kq0
theorem ZuI:ZQ XX.P 29 1 1:=ZQ.of Kq0
theorem ZuH:ZQ XX.P 29 2 2:=ZQ.of Kq0
theorem ZuG:ZQ XX.P 29 3 3:=ZQ.of Kq0
theorem Ku:ZQ XX.P 29 4 4:=ZQ.of Kq0
theorem ZEq:ZQ XX.P 29 5 5:=ZQ.of Kq0
theorem ZEp:ZQ XX.P 40 0 0:=ZQ.of Kq0
theorem ZEo:ZQ XX.P 40 1 1:=ZQ.of Kq0
theorem ZuF:ZQ XX.P 40 2 2:=ZQ.of Kq0
theorem ZEn:ZQ XX.P 63 0 0:=ZQ.of Kq0
theorem ZEm:ZQ XX.P 63 1 1:=ZQ.of Kq0
theorem ZEl:ZQ XX.P 63 2 2:=ZQ.of Kq0
theorem ZEk:ZQ XX.P 67 0 0:=ZQ.of Kq0
theorem ZEj:ZQ XX.P 67 1 1:=ZQ.of Kq0
theorem ZEi:ZQ XX.P 67 2 2:=ZQ.of Kq0
theorem ZEh:ZQ XX.P 67 3 3:=ZQ.of Kq0
theorem ZEg:ZQ XX.P 67 4 4:=ZQ.of Kq0
theorem ZEf:ZQ XX.P 92 0 0:=ZQ.of Kq0
theorem ZEe:ZQ XX.P 92 1 1:=ZQ.of Kq0
theorem ZEd:ZQ XX.P 92 2 2:=ZQ.of Kq0
theorem ZEc:ZQ XX.P 92 3 3:=ZQ.of Kq0
theorem ZEb:ZQ XX.P 92 4 4:=ZQ.of Kq0
theorem ZEa:ZQ XX.P 95 0 0:=ZQ.of Kq0
theorem ZD9:ZQ XX.P 95 1 1:=ZQ.of Kq0
theorem ZD8:ZQ XX.P 95 2 2:=ZQ.of Kq0
theorem ZD7:ZQ XX.P 95 3 7:=ZQ.of Kq0
theorem Znq:ZQ XX.P 95 4 8:=ZQ.of Kq0
theorem ZD6:ZQ XX.P 95 5 9:=ZQ.of Kq0
theorem ZuE:ZQ XX.P 95 6 10:=ZQ.of Kq0
theorem ZuD:ZQ XX.P 95 7 11:=ZQ.of Kq0
theorem Zfh:ZQ XX.P 100 0 0:=ZQ.of Kq0
theorem Zfg:ZQ XX.P 100 1 6:=ZQ.of Kq0
theorem ZAU:ZQ XX.P 104 0 0:=ZQ.of Kq0
theorem ZAT:ZQ XX.P 104 1 1:=ZQ.of Kq0
theorem ZAS:ZQ XX.P 104 2 2:=ZQ.of Kq0
theorem ZAR:ZQ XX.P 104 3 3:=ZQ.of Kq0
theorem ZAQ:ZQ XX.P 120 0 0:=ZQ.of Kq0
theorem ZAP:ZQ XX.P 120 1 1:=ZQ.of Kq0
theorem ZAO:ZQ XX.P 120 2 2:=ZQ.of Kq0
theorem ZAN:ZQ XX.P 126 0 0:=ZQ.of Kq0
theorem ZAM:ZQ XX.P 126 1 6:=ZQ.of Kq0
theorem Kb:Xg XX.P 3=some (.int .i64 0):=Kq0
theorem ZFi:Xg XX.P 4=some (.bool false):=Kq0
theorem Zrg:Xg XX.P 22=some (.slice none 0 0):=Kq0
theorem Zrf:Xg XX.P 29=some (.agg #[.slice none 0 0,.slice none 0 0,.slice none 0 0,.slice none 0 0,.slice none 0 0,.int .i64 0]):=Kq0
theorem ZGX:Xg XX.P 30=some (.int .i64 0):=Kq0
theorem ZGW:Xg XX.P 40=some (.agg #[.int .i64 0,.int .i64 0,.int .i64 0]):=Kq0
theorem Za9:Xg XX.P 63=some (.agg #[.bool false,.int .i64 0,.int .i64 0]):=Kq0
theorem Zre:Xg XX.P 64=some (.slice none 0 0):=Kq0
theorem Zaq:Xg XX.P 67=some (.agg #[.int .i64 0,.int .i64 0,.int .i64 0,.int .i64 0,.int .i64 0]):=Kq0
theorem Zrd:Xg XX.P 90=some (.slice none 0 0):=Kq0
theorem Zb1:Xg XX.P 92=some (.agg #[.int .i64 0,.int .i64 0,.int .i64 0,.int .i64 0,.int .i64 0]):=Kq0
theorem U0:Xg XX.P 95=some (.agg #[.int .i64 0,.int .i64 0,.int .i64 0,.int .i64 0,.int .i64 0,.int .i64 0,.int .i64 0,.slice none 0 0,.slice none 0 0,.int .i64 0,.int .i64 0,.int .i64 0]):=Kq0
theorem Ztq:Xg XX.P 100=some (.agg #[.slice none 0 0,.slice none 0 0,.slice none 0 0,.slice none 0 0,.slice none 0 0,.int .i64 0,.slice none 0 0]):=Kq0
theorem Zmf:Xg XX.P 104=some (.agg #[.int .i64 0,.int .i64 0,.int .i64 0,.bool false]):=Kq0
theorem ZCs:Xg XX.P 116=some (.nilFunc):=Kq0
theorem Zme:Xg XX.P 120=some (.agg #[.int .i64 0,.bool false,.int .i64 0]):=Kq0
theorem Ztp:Xg XX.P 126=some (.agg #[.slice none 0 0,.slice none 0 0,.slice none 0 0,.slice none 0 0,.slice none 0 0,.int .i64 0,.slice none 0 0]):=Kq0
theorem ZhY:Xg XX.P 142=some (.nilFunc):=Kq0
theorem Zkr:Wv XX.P 29 [.slice none 0 0,.slice none 0 0,.slice none 0 0,.slice none 0 0,.slice none 0 0,.int .i64 0] [(0,1),(1,1),(2,1),(3,1),(4,1),(5,1)]:= ⟨_,_,Zrf,rfl,Tryz.underlying29,by kernel_rfl⟩
theorem Zkq:Wv XX.P 63 [.bool false,.int .i64 0,.int .i64 0] [(0,1),(1,1),(2,1)]:= ⟨_,_,Za9,rfl,Tryz.underlying63,by kernel_rfl⟩
theorem ZhA:Wv XX.P 67 [.int .i64 0,.int .i64 0,.int .i64 0,.int .i64 0,.int .i64 0] [(0,1),(1,1),(2,1),(3,1),(4,1)]:= ⟨_,_,Zaq,rfl,Tryz.underlying67,by kernel_rfl⟩
theorem ZBI:Wv XX.P 92 [.int .i64 0,.int .i64 0,.int .i64 0,.int .i64 0,.int .i64 0] [(0,1),(1,1),(2,1),(3,1),(4,1)]:= ⟨_,_,Zb1,rfl,Tryz.underlying92,by kernel_rfl⟩
theorem Zfu:Wv XX.P 95 [.int .i64 0,.int .i64 0,.int .i64 0,.int .i64 0,.int .i64 0,.int .i64 0,.int .i64 0,.slice none 0 0,.slice none 0 0,.int .i64 0,.int .i64 0,.int .i64 0] [(0,1),(1,1),(2,5),(7,1),(8,1),(9,1),(10,1),(11,1)]:= ⟨_,_,U0,rfl,Tryz.underlying95,by kernel_rfl⟩
theorem ZK5:Wv XX.P 100 [.slice none 0 0,.slice none 0 0,.slice none 0 0,.slice none 0 0,.slice none 0 0,.int .i64 0,.slice none 0 0] [(0,6),(6,1)]:= ⟨_,_,Ztq,rfl,Tryz.underlying100,by kernel_rfl⟩
theorem ZBJ:Wv XX.P 104 [.int .i64 0,.int .i64 0,.int .i64 0,.bool false] [(0,1),(1,1),(2,1),(3,1)]:= ⟨_,_,Zmf,rfl,Tryz.underlying104,by kernel_rfl⟩
theorem Zs0:Wv XX.P 120 [.int .i64 0,.bool false,.int .i64 0] [(0,1),(1,1),(2,1)]:= ⟨_,_,Zme,rfl,Tryz.underlying120,by kernel_rfl⟩
theorem ZK4:Wv XX.P 126 [.slice none 0 0,.slice none 0 0,.slice none 0 0,.slice none 0 0,.slice none 0 0,.int .i64 0,.slice none 0 0] [(0,6),(6,1)]:= ⟨_,_,Ztp,rfl,Tryz.underlying126,by kernel_rfl⟩
theorem Xk:Za7 XX.P #[22,22] 1 8:= ⟨3,.int .i64 0,by kernel_rfl⟩
theorem ZqQ:Za7 XX.P #[24,24] 1 24:= ⟨22,.slice none 0 0,by kernel_rfl⟩
theorem ZqP:Za7 XX.P #[25,25] 1 24:= ⟨64,.slice none 0 0,by kernel_rfl⟩
theorem ZqO:Za7 XX.P #[26,26] 1 24:= ⟨90,.slice none 0 0,by kernel_rfl⟩
theorem QZ:Za7 XX.P #[27,27] 12 128:= ⟨95,.agg #[.int .i64 0,.int .i64 0,.int .i64 0,.int .i64 0,.int .i64 0,.int .i64 0,.int .i64 0,.slice none 0 0,.slice none 0 0,.int .i64 0,.int .i64 0,.int .i64 0],by kernel_rfl⟩
theorem Za3:Za7 XX.P #[41,41] 5 40:= ⟨67,.agg #[.int .i64 0,.int .i64 0,.int .i64 0,.int .i64 0,.int .i64 0],by kernel_rfl⟩
theorem ZqN:Za7 XX.P #[64,64] 3 24:= ⟨63,.agg #[.bool false,.int .i64 0,.int .i64 0],by kernel_rfl⟩
theorem K8:Za7 XX.P #[90,90] 5 40:= ⟨92,.agg #[.int .i64 0,.int .i64 0,.int .i64 0,.int .i64 0,.int .i64 0],by kernel_rfl⟩
theorem ZGI (x y:ZA):ZwL XX.P 63 (Zc.sh () x) (Zc.sh () y) (Qx x y):=
 ⟨by kernel_rfl,Zdv (d:=9999) (bs:= [x.here==y.here,x.ZX==y.ZX,x.age==y.age]) Tryz.underlying63 Kq0 ⟨⟨by decide,_,_,Yo Kq0 rfl,Yo Kq0 rfl,Zn8 Kq0⟩,⟨by decide,_,_,Yo Kq0 rfl,Yo Kq0 rfl,eq_int Kq0⟩,⟨by decide,_,_,Yo Kq0 rfl,Yo Kq0 rfl,eq_int Kq0⟩,trivial⟩⟩
theorem ZQa (x y:Zv):ZwL XX.P 67 (Zy.sh () x) (Zy.sh () y) (Kv x y):=
 ⟨by kernel_rfl,Zdv (d:=9999) (bs:= [x.deed==y.deed,x.place==y.place,x.at_==y.at_,x.n==y.n,x.hops==y.hops]) Tryz.underlying67 Kq0 ⟨⟨by decide,_,_,Yo Kq0 rfl,Yo Kq0 rfl,eq_int Kq0⟩,⟨by decide,_,_,Yo Kq0 rfl,Yo Kq0 rfl,eq_int Kq0⟩,⟨by decide,_,_,Yo Kq0 rfl,Yo Kq0 rfl,eq_int Kq0⟩,⟨by decide,_,_,Yo Kq0 rfl,Yo Kq0 rfl,eq_int Kq0⟩,⟨by decide,_,_,Yo Kq0 rfl,Yo Kq0 rfl,eq_int Kq0⟩,trivial⟩⟩
theorem ZuQ (x y:Zr):ZwL XX.P 92 (Ze.sh () x) (Ze.sh () y) (Xt x y):=
 ⟨by kernel_rfl,Zdv (d:=9999) (bs:= [x.msg==y.msg,x.place==y.place,x.from_==y.from_,x.age==y.age,x.hops==y.hops]) Tryz.underlying92 Kq0 ⟨⟨by decide,_,_,Yo Kq0 rfl,Yo Kq0 rfl,eq_int Kq0⟩,⟨by decide,_,_,Yo Kq0 rfl,Yo Kq0 rfl,eq_int Kq0⟩,⟨by decide,_,_,Yo Kq0 rfl,Yo Kq0 rfl,eq_int Kq0⟩,⟨by decide,_,_,Yo Kq0 rfl,Yo Kq0 rfl,eq_int Kq0⟩,⟨by decide,_,_,Yo Kq0 rfl,Yo Kq0 rfl,eq_int Kq0⟩,trivial⟩⟩
theorem ZKH (x y:Yy):ZwL XX.P 120 (XI.sh () x) (XI.sh () y) (Zfo x y):=
 ⟨by kernel_rfl,Zdv (d:=9999) (bs:= [x.machine==y.machine,x.here==y.here,x.age==y.age]) Tryz.underlying120 Kq0 ⟨⟨by decide,_,_,Yo Kq0 rfl,Yo Kq0 rfl,eq_int Kq0⟩,⟨by decide,_,_,Yo Kq0 rfl,Yo Kq0 rfl,Zn8 Kq0⟩,⟨by decide,_,_,Yo Kq0 rfl,Yo Kq0 rfl,eq_int Kq0⟩,trivial⟩⟩
theorem ZlQ:ZkL XX.P 93 (Value.int .i64):=ZkL.int Kq0
theorem ZQK:Zbx XX.P 4=some 1:=Kq0
theorem ZEP:Zbx XX.P 104=some 32:=Kq0
theorem ZEO:Zbx XX.P 120=some 24:=Kq0
theorem ZzN:(XX.fns.get 14).isSome=true:=Kq0
theorem ZOs:(XX.fns.get 17).isSome=true:=Kq0
theorem ZF8:(XX.fns.get 18).isSome=true:=Kq0
theorem ZOr:(XX.fns.get 19).isSome=true:=Kq0
theorem ZOq:(XX.fns.get 20).isSome=true:=Kq0
theorem ZF7:(XX.fns.get 21).isSome=true:=Kq0
theorem ZOp:(XX.fns.get 22).isSome=true:=Kq0
theorem ZOo:(XX.fns.get 23).isSome=true:=Kq0
theorem ZOn:(XX.fns.get 24).isSome=true:=Kq0
theorem Zum:(XX.fns.get 27).isSome=true:=Kq0
theorem ZOm:(XX.fns.get 36).isSome=true:=Kq0
theorem ZOl:(XX.fns.get 47).isSome=true:=Kq0
theorem ZOk:(XX.fns.get 48).isSome=true:=Kq0
theorem ZOj:(XX.fns.get 49).isSome=true:=Kq0
theorem ZOi:(XX.fns.get 50).isSome=true:=Kq0
theorem ZOh:(XX.fns.get 51).isSome=true:=Kq0
theorem Zji:(XX.fns.get 52).isSome=true:=Kq0
theorem ZzM:(XX.fns.get 53).isSome=true:=Kq0
theorem ZF6:(XX.fns.get 54).isSome=true:=Kq0
theorem ZOg:(XX.fns.get 55).isSome=true:=Kq0
theorem Zjh:(XX.fns.get 56).isSome=true:=Kq0
theorem ZOf:(XX.fns.get 57).isSome=true:=Kq0
theorem ZOe:(XX.fns.get 58).isSome=true:=Kq0
theorem ZOd:(XX.fns.get 59).isSome=true:=Kq0
theorem ZzL:(XX.fns.get 60).isSome=true:=Kq0
theorem ZzK:(XX.fns.get 61).isSome=true:=Kq0
theorem ZOc:(XX.fns.get 62).isSome=true:=Kq0
theorem ZOb:(XX.fns.get 65).isSome=true:=Kq0
theorem Zho:(XX.fns.get 67).isSome=true:=Kq0
theorem ZOa:(XX.fns.get 68).isSome=true:=Kq0
theorem ZN9:(XX.fns.get 69).isSome=true:=Kq0
theorem ZN8:(XX.fns.get 70).isSome=true:=Kq0
theorem ZN7:(XX.fns.get 71).isSome=true:=Kq0
theorem ZN6:(XX.fns.get 72).isSome=true:=Kq0
theorem ZN5:(XX.fns.get 73).isSome=true:=Kq0
theorem ZF5:(XX.fns.get 74).isSome=true:=Kq0
theorem Zul:(XX.fns.get 75).isSome=true:=Kq0
theorem ZF4:(XX.fns.get 76).isSome=true:=Kq0
theorem ZzJ:(XX.fns.get 77).isSome=true:=Kq0
theorem ZzI:(XX.fns.get 78).isSome=true:=Kq0
theorem ZF3:(XX.fns.get 79).isSome=true:=Kq0
theorem Zuk:(XX.fns.get 80).isSome=true:=Kq0
theorem ZN4:(XX.fns.get 81).isSome=true:=Kq0
theorem ZN3:(XX.fns.get 82).isSome=true:=Kq0
theorem ZN2:(XX.fns.get 83).isSome=true:=Kq0
theorem ZF2:(XX.fns.get 84).isSome=true:=Kq0
theorem ZN1:(XX.fns.get 85).isSome=true:=Kq0
theorem ZN0:(XX.fns.get 86).isSome=true:=Kq0
theorem ZNZ:(XX.fns.get 88).isSome=true:=Kq0
theorem ZNY:(XX.fns.get 89).isSome=true:=Kq0
theorem ZNX:(XX.fns.get 90).isSome=true:=Kq0
theorem ZNW:(XX.fns.get 91).isSome=true:=Kq0
theorem ZNV:(XX.fns.get 92).isSome=true:=Kq0
theorem ZzH:(XX.fns.get 93).isSome=true:=Kq0
theorem ZF1:(XX.fns.get 94).isSome=true:=Kq0
theorem ZzG:(XX.fns.get 95).isSome=true:=Kq0
theorem ZF0:(XX.fns.get 96).isSome=true:=Kq0
theorem ZzF:(XX.fns.get 97).isSome=true:=Kq0
theorem Zjg:(XX.fns.get 98).isSome=true:=Kq0
theorem ZNU:(XX.fns.get 99).isSome=true:=Kq0
theorem ZzP:(XX.fns.get 100).isSome=true:=Kq0
theorem ZIB:(XX.fns.get 101).isSome=true:=Kq0
theorem ZIA:(XX.fns.get 102).isSome=true:=Kq0
theorem ZzO:(XX.fns.get 103).isSome=true:=Kq0
theorem ZIz:(XX.fns.get 104).isSome=true:=Kq0
theorem ZIy:(XX.fns.get 105).isSome=true:=Kq0
theorem ZIx:(XX.fns.get 106).isSome=true:=Kq0
theorem ZIw:(XX.fns.get 109).isSome=true:=Kq0
end Go.Proofs.YtbmbbcaaimehkaaGreat
end
end
section
noncomputable section
namespace Go.YR
open Go.Lf
class ZbY (P:Program) (t:TypeId):Prop where
 out:YV P t=some false
class ZoE (P:Program) (t:TypeId):Prop where
 out:YV P t=some true
class SzF (P:Program) (t:TypeId) (n:outParam Nat):Prop where
 out:Yx P t=some n
class QF (P:Program) (t:TypeId) (f:Nat) (o:outParam Nat):Prop where
 out:ZQ P t f o
class ZfD (P:Program) (t:TypeId) (e:outParam TypeId):Prop where
 out:P.underlying t=some (.slice e)
class ZLr (P:Program) (t:TypeId):Prop where
 out:P.underlying t=some .bool
class ZbE (P:Program) (t:TypeId) (v:outParam Value):Prop where
 out:Xg P t=some v
theorem ia {v:Value} (h:UC v=false):UC v=false:=h
theorem WZ {fr:Fr} {t:Nat} {c:Bool} {v:Value} (h:fr.at t=cond c v undef) (ha:UC v=false) (hc:c=true):Yz fr (.tmp t)=some v:=YQ h ha hc
section
variable {X:Ctx} {h:H} {fr:Fr} {ty:TypeId} {p':String} {af:Array Edge} {g:Option (Nat×Bool)} {d:Option Tmp} {wm:Nat} {T:Nat ->Prop} {h0:H} {G Gr:List (Ast wm)}
theorem ZQR {x:Operand} {t:TypeId} {f off b o:Nat} [hf:QF X.P t f off] (hx:Yz fr x=some (.pointer (some ⟨b,o,none⟩))):XU X h (Yz fr) ⟨d,.fieldAddr t x f,ty,p',af,g⟩=some (.val (.pointer (some ⟨b,o + off,none⟩)),.none):=Qd hf.out hx
theorem ZWH {x:Operand} {t:TypeId} {b oo:Nat} {vs:List Value} {v:Value} [ht:ZbY X.P t] (hx:Yz fr x=some (.pointer (some ⟨b,oo,none⟩))) (hS:Sp wm T h0 G h) (pp:Pk G (bx wm b vs) Gr) (hv:vs[oo]? =some v):
 XU X h (Yz fr) ⟨d,.load t x,ty,p',af,g⟩=some (.val v,.none):=Y4 ht.out hx (hS.KC pp) (Nat.zero_add _).symm hv
theorem ZQP {x:Operand} {t:TypeId} {b oo sz:Nat} {vs ws:List Value} [ht:ZoE X.P t] [hs:SzF X.P t sz] (hx:Yz fr x=some (.pointer (some ⟨b,oo,none⟩))) (hS:Sp wm T h0 G h) (pp:Pk G (bx wm b vs) Gr) (hj:Nat.ble (oo + sz) vs.length=true) (hv:(vs.drop oo).take sz=ws):
 XU X h (Yz fr) ⟨d,.load t x,ty,p',af,g⟩=some (.val (.agg ws.toArray),.none):=YK ht.out hs.out hx (hS.KC pp) (Nat.zero_add _).symm hj hv
theorem ZQS {dd:Tmp} {x:Operand} {t:TypeId} {v:Value} {vs:List Value} (hx:Yz fr x=some v) (hS:Sp wm T h0 G h) (hv:v.cells.toList=vs):
 HN X wm ⟨some dd,.box t x,ty,p',af,g⟩ fr h (fun v h'=>∃ b,h.size=b∧v= .pointer (some ⟨b,0,none⟩)∧Sp wm T h0 (bx wm b vs::G) h'):=ZFs hS hx hv
theorem ZQT {dd:Tmp} {t:TypeId} {v:Value} {vs:List Value} [hz:ZbE X.P t v] (hS:Sp wm T h0 G h) (hv:v.cells.toList=vs):
 HN X wm ⟨some dd,.alloc t,ty,p',af,g⟩ fr h (fun v h'=>∃ b,h.size=b∧v= .pointer (some ⟨b,0,none⟩)∧Sp wm T h0 (bx wm b vs::G) h'):=Zha hS hz.out hv
theorem ZWG {x y:Operand} {t:TypeId} {b o sz:Nat} {cs cs' vs:List Value} {v:Value} [hs:SzF X.P t sz] (hx:Yz fr x=some (.pointer (some ⟨b,o,none⟩))) (hS:Sp wm T h0 G h) (pk:Pk G (bx wm b cs) Gr) (hy:Yz fr y=some v)
 (hvs:v.cells.toList=vs) (hn:Nat.beq vs.length sz=true) (hl:Nat.ble (o + sz) cs.length=true) (hc:vs.all Value.oneCell'=true) (hv:splice cs o vs=cs'):
 HU X wm ⟨none,.store t x y,ty,p',af,g⟩ fr h (fun i=>i=b) (fun h'=>Sp wm T h0 (bx wm b cs'::Gr) h'):=Ug hS pk hs.out hx hy hvs hn hl hc hv
theorem ZQQ {α:Type} {xs:List α} {v:α} {x y:Operand} {t e:TypeId} {sz b o nn c dd:Nat} {a:Option Addr} {k:Int} [hu:ZfD X.P t e] [hs:SzF X.P e sz] (hx:Yz fr x=some (.slice a nn c)) (hy:Yz fr y=some (.int .i64 k)) (hn:nn=xs.length) (ha:a=some ⟨b,o,none⟩) (hk:ZK xs k=some v):
 XU X h (Yz fr) ⟨some dd,.indexAddr t x y,ty,p',af,g⟩=some (.val (.pointer (some ⟨b,o + k.toNat * sz,none⟩)),.none):=Yn hu.out hs.out hx hy hn ha hk
theorem ZQO {x:Operand} {t:TypeId} {b o oo j:Nat} {vs:List Value} {v:Value} [ht:ZbY X.P t] (hx:Yz fr x=some (.pointer (some ⟨b,oo,none⟩))) (ha:At h b o vs) (ho:oo=o + j) (hv:vs[j]? =some v):
 XU X h (Yz fr) ⟨d,.load t x,ty,p',af,g⟩=some (.val v,.none):=Y4 ht.out hx ha ho hv
theorem ZQN {x:Operand} {t e':TypeId} {a:Option Addr} {mm cc dd:Nat} [hu:ZfD X.P t e'] (hx:Yz fr x=some (.slice a mm cc)):
 XU X h (Yz fr) ⟨some dd,.call {callee:= .builtin .len,args:=#[x],argTypes:=#[t]},ty,p',af,g⟩=some (.val (.int .i64 (mm:Int)),.none):=ZbB hu.out hx rfl
end
section
variable {X:Ctx} {n wm:Nat} {rd:Option Nat} {ops:Array Oper} {l:List Oper} {fr:Fr} {ds:List Deferred} {h:H} {ty:TypeId} {p:String} {af:Array Edge} {g:Option (Nat×Bool)} {sf:ST} {m:Nat}
theorem WX.w2 {Q:Fr ->H ->Prop} {d:Nat} {op:Op} {v:Value} (hg:Yt ops ⟨some d,op,ty,p,af,g⟩ fr) (hd:Nat.blt d n=true) (hM:okM ops sf m ⟨some d,op,ty,p,af,g⟩=true) (ha:XU X h (Yz fr) ⟨some d,op,ty,p,af,g⟩=some (.val v,.none)) (k:WX X n wm rd ops sf (m + 1) h l (Tr.set fr d v) Q):
 WX X n wm rd ops sf m h (⟨some d,op,ty,p,af,g⟩::l) fr Q:=WX.w hg hd ha k hM
theorem WX.gv2 {Q:Fr ->H ->Prop} {d:Nat} {op:Op} {c:Bool} {v:Value} (hg:Zw ops ⟨some d,op,ty,p,af,g⟩ fr c) (hd:Nat.blt d n=true) (hM:okM ops sf m ⟨some d,op,ty,p,af,g⟩=true) (ha:c=true ->XU X h (Yz fr) ⟨some d,op,ty,p,af,g⟩=some (.val v,.none)) (k:WX X n wm rd ops sf (m + 1) h l (Tr.set fr d (cond c v undef)) Q):
 WX X n wm rd ops sf m h (⟨some d,op,ty,p,af,g⟩::l) fr Q:=WX.gv hg hd ha k hM
end
structure Kp (q:Prop):Prop where
 out:q
section
variable {X:Ctx} {n wm:Nat} {rd:Option Nat} {Q:XX ->Fs ->Prop}
theorem E0 {p:Prop}(h:p:=by(focus (repeat (first | with_reducible exact fh | ((with_reducible apply Xa);exact rfl) | ((with_reducible apply Y5);exact rfl) | ((with_reducible apply YC);exact rfl) | ((with_reducible apply ZC);exact rfl) | with_reducible assumption));first|done|fail)):p:=h
theorem cn {c:Operand} {a b:Code} {t:Bool} {fr:Fr} {ds:List Deferred} {h:H} {α:Type} {x y r:α} (hL:(bif t then x else y)=r) (h1:t=true ->x=r ->WC X n wm rd a ⟨fr,ds,h,none⟩ Q) (h2:t=false ->y=r ->WC X n wm rd b ⟨fr,ds,h,none⟩ Q) (hc:Yz fr c=some (.bool t):=by(first | exact evC rfl | (apply YF;exact E0;(first | exact ia rfl | assumption)) | (apply WZ;exact E0;(first | exact ia rfl | assumption);assumption) | fail)):WC X n wm rd (.cond c a b) ⟨fr,ds,h,none⟩ Q:=
 WC.ZQu hc (fun e=>h1 e (J8 e hL)) (fun e=>h2 e (J9 e hL))
theorem rt {fn:Func} {fr:Fr} {h h0:H} {T:Nat ->Prop} {G G':List (Ast wm)} {wr:Option Nat} {t:Tmp} {β:Type} {x r:β} {g:β ->Value} (hL:some x=some r) (hT:T=Qi G) (hS:Sp wm T h0 G' h) (hr:fn.results.toList= [.tmp t]:=by exact rfl) (hv:Yz fr (.tmp t)=some (g x):=by(first | exact evC rfl | (apply YF;exact E0;(first | exact ia rfl | assumption)) | (apply WZ;exact E0;(first | exact ia rfl | assumption);assumption) | fail)):
 Yk X fn (fun e h'=>∃ v,e= .ret v∧CP (fun v Gb=>v=g r∧Gb= []) G h0 v h') .ret ⟨fr,[],h,wr⟩:=by
 cases hL;exact Yk.XF hr (ZU hv ZE) ⟨_,⟨rfl,rfl⟩,hT ▸ hS.only .n⟩
theorem bg {f:FuncId} {fn:Func} {c:Code} {args:List Value} {n:Nat} {K:Value ->List (Ast wm) ->Prop} {G:List (Ast wm)} {h:H} {fr:Fr} (hnt:fn.ntmps=n) (Z0:wm <=h.size) (hO:Yd G h)
 (k:∀ T,T=Qi (wm:=wm) G ->Sp wm T h G h ->WC X n wm none c ⟨fr,[],h,none⟩ (Yk X fn (fun e h'=>∃ v,e= .ret v∧CP K G h v h'))) (hf:X.fns.get f=some fn:=by kernel_rfl) (hb:fn.body=some c:=by exact rfl) (hn:args.length <=n:=by simp)
 (hfr:Qg args 0 .nil=fr:=by(simp only [Z4,Z9,Nat.reduceAdd];exact rfl)):WR X f args.toArray wm h (CP K G h):=by
 subst hfr;exact WF.begin hf hb hnt hn (k _ rfl (Sp.start Z0 hO))
end
theorem lk {p:Prop} (h:p:=by(first | exact evC rfl | (apply YF;exact E0;(first | exact ia rfl | assumption)) | (apply WZ;exact E0;(first | exact ia rfl | assumption);assumption) | fail)):p:=h
theorem lks {p:Prop} (h:p:=by
 repeat (first | exact Zz | (apply Zf;(focus (first | exact evC rfl | (apply YF;exact E0;(first | exact ia rfl | assumption)) | (apply WZ;exact E0;(first | exact ia rfl | assumption);assumption) | fail);done)))
 done):p:=h
theorem Yv {p:Prop} (h:p:=by
 repeat (first | with_reducible exact fh | ((with_reducible apply Xa);exact rfl) | ((with_reducible apply Y5);exact rfl) | ((with_reducible apply YC);exact rfl) | ((with_reducible apply ZC);exact rfl) | with_reducible assumption | refine⟨?_,?_⟩)
 done):p:=h
theorem r1 {p q:Prop} (k:q) (h:Kp q ->p:=by
 intro k
 first
 | refine WO.nil ?_
 | refine Zlq.YU ?_
 | refine WC.seq ?_
 | refine WC.region ?_
 | ((first | apply WO.w gN rfl | (apply WO.gv;(focus (first | (apply Zw.yes rfl rfl rfl;exact E0) | (apply Zw.no rfl rfl rfl;exact E0) | (apply Zw.ZkR rfl rfl rfl;exact E0) | (apply Zw.no2 rfl rfl rfl;exact E0) | fail);done);rfl;intro hg) | (apply WX.w2 gN;rfl;rfl) | (apply WX.gv2;(focus (first | (apply Zw.yes rfl rfl rfl;exact E0) | (apply Zw.no rfl rfl rfl;exact E0) | (apply Zw.ZkR rfl rfl rfl;exact E0) | (apply Zw.no2 rfl rfl rfl;exact E0) | fail);done);rfl;rfl;intro hg));(focus (first
   | ((with_reducible apply ZEU);(first | exact evC rfl | (apply YF;exact E0;(first | exact ia rfl | assumption)) | (apply WZ;exact E0;(first | exact ia rfl | assumption);assumption) | fail))
   | ((with_reducible apply ZWH);(focus (first | exact evC rfl | (apply YF;exact E0;(first | exact ia rfl | assumption)) | (apply WZ;exact E0;(first | exact ia rfl | assumption);assumption) | fail);done);assumption;(focus (first | exact k0 | exact k1 | exact k2 | exact k3 | exact k4 | exact k5 | exact k6 | exact k7 | (repeat (first | exact k7 | apply Pk.s)));done);rfl)
   | ((with_reducible apply ZQR);(first | exact evC rfl | (apply YF;exact E0;(first | exact ia rfl | assumption)) | (apply WZ;exact E0;(first | exact ia rfl | assumption);assumption) | fail))
   | ((with_reducible apply Zdz);(first | exact evC rfl | (apply YF;exact E0;(first | exact ia rfl | assumption)) | (apply WZ;exact E0;(first | exact ia rfl | assumption);assumption) | fail))
   | ((with_reducible apply Qe);(focus (first | exact evC rfl | (apply YF;exact E0;(first | exact ia rfl | assumption)) | (apply WZ;exact E0;(first | exact ia rfl | assumption);assumption) | fail);done);(focus (first | exact evC rfl | (apply YF;exact E0;(first | exact ia rfl | assumption)) | (apply WZ;exact E0;(first | exact ia rfl | assumption);assumption) | fail);done);(first | with_reducible exact ZwF | with_reducible exact ZB6 | with_reducible exact ZB3 | with_reducible exact ZfC | with_reducible exact ZwC | with_reducible exact ZB4 | with_reducible exact ZB5 | with_reducible exact ZkD | with_reducible exact ZwD | with_reducible exact ZwE ZLr.out | with_reducible exact ZdC ZLr.out))
   | ((with_reducible apply ZQP);(focus (first | exact evC rfl | (apply YF;exact E0;(first | exact ia rfl | assumption)) | (apply WZ;exact E0;(first | exact ia rfl | assumption);assumption) | fail);done);assumption;(focus (first | exact k0 | exact k1 | exact k2 | exact k3 | exact k4 | exact k5 | exact k6 | exact k7 | (repeat (first | exact k7 | apply Pk.s)));done);rfl;(focus simp only [Nat.zero_add,Nat.reduceAdd,List.drop_succ_cons,List.drop_zero,List.take_succ_cons,List.take_zero,List.take_nil];rfl))
   | ((with_reducible apply ZQN);(first | exact evC rfl | (apply YF;exact E0;(first | exact ia rfl | assumption)) | (apply WZ;exact E0;(first | exact ia rfl | assumption);assumption) | fail))
   | ((with_reducible apply ZQQ);(focus (first | exact evC rfl | (apply YF;exact E0;(first | exact ia rfl | assumption)) | (apply WZ;exact E0;(first | exact ia rfl | assumption);assumption) | fail);done);(focus (first | exact evC rfl | (apply YF;exact E0;(first | exact ia rfl | assumption)) | (apply WZ;exact E0;(first | exact ia rfl | assumption);assumption) | fail);done);(focus (exact rfl));assumption;assumption)
   | ((with_reducible apply ZQO);(focus (first | exact evC rfl | (apply YF;exact E0;(first | exact ia rfl | assumption)) | (apply WZ;exact E0;(first | exact ia rfl | assumption);assumption) | fail);done);(focus (first | assumption | (apply At.fz;(focus (apply Sp.fz;assumption));assumption;assumption));done);(focus (first | exact(Nat.add_zero _).symm | exact rfl);done);rfl)
   | ((with_reducible apply Zs2);(focus (first | exact evC rfl | (apply YF;exact E0;(first | exact ia rfl | assumption)) | (apply WZ;exact E0;(first | exact ia rfl | assumption);assumption) | fail);done);rfl)
   | ((with_reducible apply Zkt);(first | exact evC rfl | (apply YF;exact E0;(first | exact ia rfl | assumption)) | (apply WZ;exact E0;(first | exact ia rfl | assumption);assumption) | fail))
   | ((with_reducible apply Ka);(first | exact evC rfl | (apply YF;exact E0;(first | exact ia rfl | assumption)) | (apply WZ;exact E0;(first | exact ia rfl | assumption);assumption) | fail))
   | ((with_reducible apply Zku);(focus (first | exact evC rfl | (apply YF;exact E0;(first | exact ia rfl | assumption)) | (apply WZ;exact E0;(first | exact ia rfl | assumption);assumption) | fail);done);(focus (apply ZP8;exact E0);done);(first | exact evC rfl | (apply YF;exact E0;(first | exact ia rfl | assumption)) | (apply WZ;exact E0;(first | exact ia rfl | assumption);assumption) | fail))
   | ((with_reducible apply Zl8);(focus (first | exact evC rfl | (apply YF;exact E0;(first | exact ia rfl | assumption)) | (apply WZ;exact E0;(first | exact ia rfl | assumption);assumption) | fail);done);(focus (first | exact evC rfl | (apply YF;exact E0;(first | exact ia rfl | assumption)) | (apply WZ;exact E0;(first | exact ia rfl | assumption);assumption) | fail);done);(apply ZP8;exact E0))
   | fail)))
 | (apply WO.hu gN;(focus (first | (((with_reducible apply ZWG));(focus (first | exact evC rfl | (apply YF;exact E0;(first | exact ia rfl | assumption)) | (apply WZ;exact E0;(first | exact ia rfl | assumption);assumption) | fail);done);assumption;(focus (first | exact k0 | exact k1 | exact k2 | exact k3 | exact k4 | exact k5 | exact k6 | exact k7 | (repeat (first | exact k7 | apply Pk.s)));done);(focus (first | exact evC rfl | (apply YF;exact E0;(first | exact ia rfl | assumption)) | (apply WZ;exact E0;(first | exact ia rfl | assumption);assumption) | fail);done);(focus (first | (simp only [ZgU,Zen,ZcZ,ZgS,ZgT,ZgW,Zbw,cells_func,ZaA,K6,Zc0];exact rfl) | exact rfl));exact rfl;exact rfl;exact rfl;(focus simp only [splice,List.take_succ_cons,List.take_zero,List.drop_succ_cons,List.drop_zero,List.cons_append,List.nil_append,List.append_nil,List.length_cons,List.length_nil,Nat.reduceAdd,Nat.zero_add,List.take_nil,List.drop_nil];exact rfl)) | fail)))
 | (apply WO.hn gN rfl;(focus (first | (((with_reducible apply ZQS));(focus (first | exact evC rfl | (apply YF;exact E0;(first | exact ia rfl | assumption)) | (apply WZ;exact E0;(first | exact ia rfl | assumption);assumption) | fail);done);assumption;(focus (first | (simp only [ZgU,Zen,ZcZ,ZgS,ZgT,ZgW,Zbw,cells_func,ZaA,K6,Zc0];exact rfl) | exact rfl))) | (((with_reducible apply ZQT));assumption;(focus (first | (simp only [ZgU,Zen,ZcZ,ZgS,ZgT,ZgW,Zbw,cells_func,ZaA,K6,Zc0];exact rfl) | exact rfl))) | fail)))
 | refine WC.skip ?_
 | refine WC.ret ?_
 | refine WC.block ?_
 | refine WC.exit ?_
 | refine Zlq.ret ?_
 | refine Zlq.exit ?_
 | refine UN.ret ?_
 | refine UN.YU ?_
 | refine UN.here ?_
 | refine Ya.exit ?_
 | refine Ya.ret ?_
 | refine WX.nil ?_
 | fail
 exact k.out):p:=h ⟨k⟩
theorem sl {p:Prop} (h:p:=by
 repeat (first | exact Sel.n | (apply Sel.c;(focus (first | exact k0 | exact k1 | exact k2 | exact k3 | exact k4 | exact k5 | exact k6 | exact k7 | (repeat (first | exact k7 | apply Pk.s))))))
 done):p:=h
theorem r2 {p q:Prop} (k:q) (h:Kp q ->p:=by
 intro k
 iterate 2 (refine r1 ?_)
 exact k.out):p:=h ⟨k⟩
theorem r3 {p q:Prop} (k:q) (h:Kp q ->p:=by
 intro k
 iterate 3 (refine r1 ?_)
 exact k.out):p:=h ⟨k⟩
theorem r4 {p q:Prop} (k:q) (h:Kp q ->p:=by
 intro k
 iterate 4 (refine r1 ?_)
 exact k.out):p:=h ⟨k⟩
theorem r5 {p q:Prop} (k:q) (h:Kp q ->p:=by
 intro k
 iterate 5 (refine r1 ?_)
 exact k.out):p:=h ⟨k⟩
theorem r6 {p q:Prop} (k:q) (h:Kp q ->p:=by
 intro k
 iterate 6 (refine r1 ?_)
 exact k.out):p:=h ⟨k⟩
theorem r7 {p q:Prop} (k:q) (h:Kp q ->p:=by
 intro k
 iterate 7 (refine r1 ?_)
 exact k.out):p:=h ⟨k⟩
theorem r8 {p q:Prop} (k:q) (h:Kp q ->p:=by
 intro k
 iterate 8 (refine r1 ?_)
 exact k.out):p:=h ⟨k⟩
theorem r9 {p q:Prop} (k:q) (h:Kp q ->p:=by
 intro k
 iterate 9 (refine r1 ?_)
 exact k.out):p:=h ⟨k⟩
theorem r10 {p q:Prop} (k:q) (h:Kp q ->p:=by
 intro k
 iterate 10 (refine r1 ?_)
 exact k.out):p:=h ⟨k⟩
theorem JC {p q:Prop} (k:q) (h:Kp q ->p:=by
 intro k
 iterate 11 (refine r1 ?_)
 exact k.out):p:=h ⟨k⟩
theorem WG {p q:Prop} (k:q) (h:Kp q ->p:=by
 intro k
 iterate 12 (refine r1 ?_)
 exact k.out):p:=h ⟨k⟩
theorem r13 {p q:Prop} (k:q) (h:Kp q ->p:=by
 intro k
 iterate 13 (refine r1 ?_)
 exact k.out):p:=h ⟨k⟩
theorem r14 {p q:Prop} (k:q) (h:Kp q ->p:=by
 intro k
 iterate 14 (refine r1 ?_)
 exact k.out):p:=h ⟨k⟩
theorem r15 {p q:Prop} (k:q) (h:Kp q ->p:=by
 intro k
 iterate 15 (refine r1 ?_)
 exact k.out):p:=h ⟨k⟩
theorem r16 {p q:Prop} (k:q) (h:Kp q ->p:=by
 intro k
 iterate 16 (refine r1 ?_)
 exact k.out):p:=h ⟨k⟩
end Go.YR
end
end
section
noncomputable section
namespace Go.Proofs.YtbmbbcaaimehkaaGreat
open Go.YR Go.Lf
abbrev cM (x:Zr):List Value:= [.int .i64 x.msg,.int .i64 x.place,.int .i64 x.from_,.int .i64 x.age,.int .i64 x.hops]
abbrev cS (x:ZH):List Value:= [.int .i64 x.act,.int .i64 x.a,.int .i64 x.b]
abbrev cE (x:ZA):List Value:= [.bool x.here,.int .i64 x.ZX,.int .i64 x.age]
abbrev cL (x:Zg) (a:Option Addr) (c:Nat) (b:Option Addr) (d:Nat):List Value:= [.int .i64 x.kind,.int .i64 x.ZX,.int .i64 x.ZV.msg,.int .i64 x.ZV.place,.int .i64 x.ZV.from_,.int .i64 x.ZV.age,.int .i64 x.ZV.hops,.slice a x.qV.length c,.slice b x.Yc.length d,.int .i64 x.place,.int .i64 x.at_,.int .i64 x.age]
abbrev cV (a0:Option Addr) (n0 c0:Nat) (a1:Option Addr) (n1 c1:Nat) (a2:Option Addr) (n2 c2:Nat) (a3:Option Addr) (n3 c3:Nat) (a4:Option Addr) (n4 c4:Nat) (s:Int):List Value:= [.slice a0 n0 c0,.slice a1 n1 c1,.slice a2 n2 c2,.slice a3 n3 c3,.slice a4 n4 c4,.int .i64 s]
abbrev cG (a0:Option Addr) (n0 c0:Nat) (a1:Option Addr) (n1 c1:Nat) (a2:Option Addr) (n2 c2:Nat) (a3:Option Addr) (n3 c3:Nat) (a4:Option Addr) (n4 c4:Nat) (s:Int) (a5:Option Addr) (n5 c5:Nat):List Value:= [.slice a0 n0 c0,.slice a1 n1 c1,.slice a2 n2 c2,.slice a3 n3 c3,.slice a4 n4 c4,.int .i64 s,.slice a5 n5 c5]
abbrev cW (x:Zb) (a0:Option Addr) (c0:Nat) (a1:Option Addr) (c1:Nat) (a2:Option Addr) (c2:Nat) (a3:Option Addr) (c3:Nat) (a4:Option Addr) (c4:Nat):List Value:= [.slice a0 x.Zx.length c0,.slice a1 x.qK.length c1,.slice a2 x.qQ.length c2,.slice a3 x.qJ.length c3,.slice a4 x.qG.length c4,.int .i64 x.said]
abbrev cH (x:Yb) (a0:Option Addr) (c0:Nat) (a1:Option Addr) (c1:Nat) (a2:Option Addr) (c2:Nat) (a3:Option Addr) (c3:Nat) (a4:Option Addr) (c4:Nat) (a5:Option Addr) (c5:Nat):List Value:= [.slice a0 x.Za.Zx.length c0,.slice a1 x.Za.qK.length c1,.slice a2 x.Za.qQ.length c2,.slice a3 x.Za.qJ.length c3,.slice a4 x.Za.qG.length c4,.int .i64 x.Za.said,.slice a5 x.qX.length c5]
instance:ZbY XX.P 3:= ⟨WT⟩
instance:ZbY XX.P 4:= ⟨ZE1⟩
instance:ZbY XX.P 22:= ⟨ZGQ⟩
instance:ZbY XX.P 24:= ⟨Zky⟩
instance:ZbY XX.P 25:= ⟨ZqV⟩
instance:ZbY XX.P 26:= ⟨Zkx⟩
instance:ZbY XX.P 27:= ⟨ZBY⟩
instance:ZoE XX.P 29:= ⟨ZfA⟩
instance:ZbY XX.P 30:= ⟨ZbP⟩
instance:ZbY XX.P 38:= ⟨ZQ8⟩
instance:ZoE XX.P 40:= ⟨ZQ7⟩
instance:ZbY XX.P 41:= ⟨ZGP⟩
instance:ZoE XX.P 63:= ⟨ZbO⟩
instance:ZbY XX.P 64:= ⟨ZQ6⟩
instance:ZbY XX.P 65:= ⟨ZQ5⟩
instance:ZoE XX.P 67:= ⟨ZBX⟩
instance:ZbY XX.P 90:= ⟨ZQ4⟩
instance:ZoE XX.P 92:= ⟨Zfz⟩
instance:ZbY XX.P 93:= ⟨ZQ3⟩
instance:ZoE XX.P 95:= ⟨WS⟩
instance:ZoE XX.P 104:= ⟨Zkz⟩
instance:ZbY XX.P 116:= ⟨ZLc⟩
instance:ZoE XX.P 120:= ⟨Zow⟩
instance:ZbY XX.P 124:= ⟨ZBZ⟩
instance:SzF XX.P 3 1:= ⟨XE⟩
instance:SzF XX.P 4 1:= ⟨Zo7⟩
instance:SzF XX.P 22 1:= ⟨Uf⟩
instance:SzF XX.P 24 1:= ⟨Zxy⟩
instance:SzF XX.P 25 1:= ⟨Zxx⟩
instance:SzF XX.P 26 1:= ⟨Zxw⟩
instance:SzF XX.P 27 1:= ⟨Zbg⟩
instance:SzF XX.P 29 6:= ⟨KN⟩
instance:SzF XX.P 30 1:= ⟨ZHl⟩
instance:SzF XX.P 40 3:= ⟨ZHk⟩
instance:SzF XX.P 41 1:= ⟨Zmv⟩
instance:SzF XX.P 63 3:= ⟨Y3⟩
instance:SzF XX.P 64 1:= ⟨Zbf⟩
instance:SzF XX.P 67 5:= ⟨KM⟩
instance:SzF XX.P 90 1:= ⟨Ue⟩
instance:SzF XX.P 92 5:= ⟨Js⟩
instance:SzF XX.P 95 12:= ⟨Xf⟩
instance:SzF XX.P 104 4:= ⟨Qo⟩
instance:SzF XX.P 116 1:= ⟨ZCR⟩
instance:SzF XX.P 120 3:= ⟨Zal⟩
instance:QF XX.P 29 0 0:= ⟨ZEr⟩
instance:QF XX.P 29 1 1:= ⟨ZuI⟩
instance:QF XX.P 29 2 2:= ⟨ZuH⟩
instance:QF XX.P 29 3 3:= ⟨ZuG⟩
instance:QF XX.P 29 4 4:= ⟨Ku⟩
instance:QF XX.P 29 5 5:= ⟨ZEq⟩
instance:QF XX.P 40 0 0:= ⟨ZEp⟩
instance:QF XX.P 40 1 1:= ⟨ZEo⟩
instance:QF XX.P 40 2 2:= ⟨ZuF⟩
instance:QF XX.P 63 0 0:= ⟨ZEn⟩
instance:QF XX.P 63 1 1:= ⟨ZEm⟩
instance:QF XX.P 63 2 2:= ⟨ZEl⟩
instance:QF XX.P 67 0 0:= ⟨ZEk⟩
instance:QF XX.P 67 1 1:= ⟨ZEj⟩
instance:QF XX.P 67 2 2:= ⟨ZEi⟩
instance:QF XX.P 67 3 3:= ⟨ZEh⟩
instance:QF XX.P 67 4 4:= ⟨ZEg⟩
instance:QF XX.P 92 0 0:= ⟨ZEf⟩
instance:QF XX.P 92 1 1:= ⟨ZEe⟩
instance:QF XX.P 92 2 2:= ⟨ZEd⟩
instance:QF XX.P 92 3 3:= ⟨ZEc⟩
instance:QF XX.P 92 4 4:= ⟨ZEb⟩
instance:QF XX.P 95 0 0:= ⟨ZEa⟩
instance:QF XX.P 95 1 1:= ⟨ZD9⟩
instance:QF XX.P 95 2 2:= ⟨ZD8⟩
instance:QF XX.P 95 3 7:= ⟨ZD7⟩
instance:QF XX.P 95 4 8:= ⟨Znq⟩
instance:QF XX.P 95 5 9:= ⟨ZD6⟩
instance:QF XX.P 95 6 10:= ⟨ZuE⟩
instance:QF XX.P 95 7 11:= ⟨ZuD⟩
instance:QF XX.P 100 0 0:= ⟨Zfh⟩
instance:QF XX.P 100 1 6:= ⟨Zfg⟩
instance:QF XX.P 104 0 0:= ⟨ZAU⟩
instance:QF XX.P 104 1 1:= ⟨ZAT⟩
instance:QF XX.P 104 2 2:= ⟨ZAS⟩
instance:QF XX.P 104 3 3:= ⟨ZAR⟩
instance:QF XX.P 120 0 0:= ⟨ZAQ⟩
instance:QF XX.P 120 1 1:= ⟨ZAP⟩
instance:QF XX.P 120 2 2:= ⟨ZAO⟩
instance:QF XX.P 126 0 0:= ⟨ZAN⟩
instance:QF XX.P 126 1 6:= ⟨ZAM⟩
instance:ZfD XX.P 22 3:= ⟨XP⟩
instance:ZfD XX.P 24 22:= ⟨Zg4⟩
instance:ZfD XX.P 25 64:= ⟨ZeM⟩
instance:ZfD XX.P 26 90:= ⟨ZeL⟩
instance:ZfD XX.P 27 95:= ⟨UR⟩
instance:ZfD XX.P 41 67:= ⟨ZeK⟩
instance:ZfD XX.P 46 40:= ⟨ZLY⟩
instance:ZfD XX.P 64 63:= ⟨Wz⟩
instance:ZfD XX.P 90 92:= ⟨ZaJ⟩
instance:ZfD XX.P 102 104:= ⟨KJ⟩
instance:ZfD XX.P 110 4:= ⟨Zmq⟩
instance:ZfD XX.P 124 120:= ⟨Zrx⟩
instance:ZLr XX.P 4:= ⟨ZCJ⟩
instance:ZbE XX.P 3 (.int .i64 0):= ⟨Kb⟩
instance:ZbE XX.P 4 (.bool false):= ⟨ZFi⟩
instance:ZbE XX.P 22 (.slice none 0 0):= ⟨Zrg⟩
instance:ZbE XX.P 29 (.agg #[.slice none 0 0,.slice none 0 0,.slice none 0 0,.slice none 0 0,.slice none 0 0,.int .i64 0]):= ⟨Zrf⟩
instance:ZbE XX.P 30 (.int .i64 0):= ⟨ZGX⟩
instance:ZbE XX.P 40 (.agg #[.int .i64 0,.int .i64 0,.int .i64 0]):= ⟨ZGW⟩
instance:ZbE XX.P 63 (.agg #[.bool false,.int .i64 0,.int .i64 0]):= ⟨Za9⟩
instance:ZbE XX.P 64 (.slice none 0 0):= ⟨Zre⟩
instance:ZbE XX.P 67 (.agg #[.int .i64 0,.int .i64 0,.int .i64 0,.int .i64 0,.int .i64 0]):= ⟨Zaq⟩
instance:ZbE XX.P 90 (.slice none 0 0):= ⟨Zrd⟩
instance:ZbE XX.P 92 (.agg #[.int .i64 0,.int .i64 0,.int .i64 0,.int .i64 0,.int .i64 0]):= ⟨Zb1⟩
instance:ZbE XX.P 95 (.agg #[.int .i64 0,.int .i64 0,.int .i64 0,.int .i64 0,.int .i64 0,.int .i64 0,.int .i64 0,.slice none 0 0,.slice none 0 0,.int .i64 0,.int .i64 0,.int .i64 0]):= ⟨U0⟩
instance:ZbE XX.P 100 (.agg #[.slice none 0 0,.slice none 0 0,.slice none 0 0,.slice none 0 0,.slice none 0 0,.int .i64 0,.slice none 0 0]):= ⟨Ztq⟩
instance:ZbE XX.P 104 (.agg #[.int .i64 0,.int .i64 0,.int .i64 0,.bool false]):= ⟨Zmf⟩
instance:ZbE XX.P 116 (.nilFunc):= ⟨ZCs⟩
instance:ZbE XX.P 120 (.agg #[.int .i64 0,.bool false,.int .i64 0]):= ⟨Zme⟩
instance:ZbE XX.P 126 (.agg #[.slice none 0 0,.slice none 0 0,.slice none 0 0,.slice none 0 0,.slice none 0 0,.int .i64 0,.slice none 0 0]):= ⟨Ztp⟩
instance:ZbE XX.P 142 (.nilFunc):= ⟨ZhY⟩
end Go.Proofs.YtbmbbcaaimehkaaGreat
end
end
section
namespace Go.Proofs.YtbmbbcaaimehkaaGreat
open Go.Lf
def ZgF (p0:Zb):Int ->(Int ->Option Bool) ->Option Bool:=fun v46 ZiW=>
 (bif decide (v46 < (p0.qG.length:Int)) then(ZK p0.qG v46).bind fun x49=>(bif((decide ((x49.qV.length:Int) > 20)) || (decide ((x49.Yc.length:Int) > 20))) then some false else ZiW (Y2 (v46 + 1))) else some true)
def ZgG (F:Nat) (p0:Zb):Int ->(Int ->Option Bool) ->Option Bool:=fun v34 ZiY=>
 (bif decide (v34 < (p0.qJ.length:Int)) then(ZK p0.qJ v34).bind fun x37=>(bif decide ((x37.length:Int) > 100) then some false else ZiY (Y2 (v34 + 1))) else loop F (ZgF p0) 0)
def ZgH (F:Nat) (p0:Zb):Int ->(Int ->Option Bool) ->Option Bool:=fun v21 Zyr=>
 (bif decide (v21 < (p0.qQ.length:Int)) then(ZK p0.qQ v21).bind fun x24=>(bif decide ((x24.length:Int) > 20) then some false else Zyr (Y2 (v21 + 1))) else loop F (ZgG F p0) 0)
def Zj7 (F:Nat) (p0:Zb):Int ->(Int ->Option Bool) ->Option Bool:=fun v8 Uj=>
 (bif decide (v8 < (p0.qK.length:Int)) then(ZK p0.qK v8).bind fun Ye=>(bif decide ((Ye.length:Int) > 100) then some false else Uj (Y2 (v8 + 1))) else loop F (ZgH F p0) 0)
def ZBm (F:Nat) (p0:Zb):Option Bool:=
 (bif(((((decide ((p0.Zx.length:Int) > 20)) || (decide ((p0.qK.length:Int) > 20))) || (decide ((p0.qQ.length:Int) > 20))) || (decide ((p0.qJ.length:Int) > 20))) || (decide ((p0.qG.length:Int) > 200))) then some false else loop F (Zj7 F p0) 0)
def ZnW (p0:(List Zv)) (p1:(List Zv)):Int ->(Int ->Option Bool) ->Option Bool:=fun v6 ZaO=>
 (bif decide (v6 < (p0.length:Int)) then(ZK p0 v6).bind fun x9=>(ZK p1 v6).bind fun x12=>(bif(!(Kv x9 x12)) then some false else ZaO (Y2 (v6 + 1))) else some true)
def Zwe (F:Nat) (p0:(List Zv)) (p1:(List Zv)):Option Bool:=
 (bif((p0.length:Int) != (p1.length:Int)) then some false else loop F (ZnW p0 p1) 0)
def ZnU (p0:(List Int)) (p1:(List Int)):Int ->(Int ->Option Bool) ->Option Bool:=fun v6 ZaO=>
 (bif decide (v6 < (p0.length:Int)) then(ZK p0 v6).bind fun x9=>(ZK p1 v6).bind fun x12=>(bif(x9 !=x12) then some false else ZaO (Y2 (v6 + 1))) else some true)
def ZnV (F:Nat) (p0:(List Int)) (p1:(List Int)):Option Bool:=
 (bif((p0.length:Int) != (p1.length:Int)) then some false else loop F (ZnU p0 p1) 0)
end Go.Proofs.YtbmbbcaaimehkaaGreat
end
section
set_option maxRecDepth 20000
noncomputable section
namespace Go.Proofs.YtbmbbcaaimehkaaGreat
open Go.YR Go.Lf
theorem ZKC {F wm h} {p0:Zb} {Zi Zh Zm Zl Zk Zj Zo Zn Zq Zp} {r} (Z0:wm <=h.size) (ZB:Sl (Zt .i64) wm h Zi Zh p0.Zx) (ZM:Sl (ZN (Zt .i64)) wm h Zm Zl p0.qK) (ZF:Sl (ZN Zc) wm h Zk Zj p0.qQ) (ZL:Sl (ZN Ze) wm h Zo Zn p0.qJ) (ZI:Sl Zd wm h Zq Zp p0.qG) (hL:ZBm F p0=some r):
 WR XX 19 #[.agg [.slice Zi p0.Zx.length Zh,.slice Zm p0.qK.length Zl,.slice Zk p0.qQ.length Zj,.slice Zo p0.qJ.length Zn,.slice Zq p0.qG.length Zp,.int .i64 p0.said].toArray] wm h (CP (fun(v:Value) (Gb:List (Ast wm))=>v= .bool r∧Gb= []) [] h):=by
 refine bg Tryz.ntmps19 Z0 Yd.nil ?_;intro T hT hS;unfold ZBm at hL;refine r3 ?_;rintro _ h2 ⟨b1,eb1,rfl,hS⟩;refine r16 ?_;refine r16 ?_;refine r4 ?_;refine cn hL ?_ ?_
 ·intro hc hL;refine r7 ?_;exact rt hL hT hS
 ·intro hc hL;refine WG ?_;refine WC.loop (WL.lift hL (fun v8 s=>∃ fr4 h3,s= ⟨fr4,[],h3,none⟩∧Sp wm T h [bx wm b1 (cW p0 Zi Zh Zm Zl Zk Zj Zo Zn Zq Zp)] h3∧fr4.at 1= .pointer (some ⟨b1,0,none⟩)∧fr4.at 40= .slice Zm p0.qK.length Zl∧fr4.at 41= .int .i64 (p0.qK.length:Int)∧fr4.at 42= .int .i64 v8) ⟨_,_,rfl,hS.only sl,Yv⟩ ?_);clear hL hS;rintro Uj v8 s Znh hL ⟨fr4,h3,rfl,hS,e5,e6,e7,e9⟩;dsimp only [Zj7] at hL;refine r6 ?_;refine cn hL ?_ ?_
  ·intro hc hL;refine r6 ?_;obtain⟨Ye,Zd8,hL⟩:=qZ hL;obtain⟨b12,o13,⟨a14,c15⟩,ZYN,ZZG,ZZp,ZO8⟩:=Sl.at_ ZM Zd8;refine r1 ?_;have ZYa:Sl (Zt .i64) wm h a14 c15 Ye:=ZO8;refine JC ?_;refine cn hL ?_ ?_
   ·intro hc hL;refine JC ?_;exact rt hL hT hS
   ·intro hc hL;refine r7 ?_;exact Ya.YU (Znh _ _ hL ⟨_,_,rfl,hS.only sl,Yv⟩)
  ·intro hc hL;refine r15 ?_;refine WC.loop (WL.lift hL (fun v21 s=>∃ Zff h16,s= ⟨Zff,[],h16,none⟩∧Sp wm T h [bx wm b1 (cW p0 Zi Zh Zm Zl Zk Zj Zo Zn Zq Zp)] h16∧Zff.at 1= .pointer (some ⟨b1,0,none⟩)∧Zff.at 51= .slice Zk p0.qQ.length Zj∧Zff.at 52= .int .i64 (p0.qQ.length:Int)∧Zff.at 53= .int .i64 v21) ⟨_,_,rfl,hS.only sl,Yv⟩ ?_);clear hL hS;rintro Zyr v21 s ZDN hL ⟨Zff,h16,rfl,hS,e18,e19,e20,e22⟩;dsimp only [ZgH] at hL;refine r6 ?_;refine cn hL ?_ ?_
   ·intro hc hL;refine r6 ?_;obtain⟨x24,hx24,hL⟩:=qZ hL;obtain⟨b25,o26,⟨a27,c28⟩,ZYJ,ZZD,ZZm,ZO4⟩:=Sl.at_ ZF hx24;refine r1 ?_;have ZX7:Sl Zc wm h a27 c28 x24:=ZO4;refine JC ?_;refine cn hL ?_ ?_
    ·intro hc hL;refine JC ?_;exact rt hL hT hS
    ·intro hc hL;refine r7 ?_;exact Ya.YU (ZDN _ _ hL ⟨_,_,rfl,hS.only sl,Yv⟩)
   ·intro hc hL;refine r15 ?_;refine WC.loop (WL.lift hL (fun v34 s=>∃ WM h29,s= ⟨WM,[],h29,none⟩∧Sp wm T h [bx wm b1 (cW p0 Zi Zh Zm Zl Zk Zj Zo Zn Zq Zp)] h29∧WM.at 1= .pointer (some ⟨b1,0,none⟩)∧WM.at 62= .slice Zo p0.qJ.length Zn∧WM.at 63= .int .i64 (p0.qJ.length:Int)∧WM.at 64= .int .i64 v34) ⟨_,_,rfl,hS.only sl,Yv⟩ ?_);clear hL hS;rintro ZiY v34 s Znc hL ⟨WM,h29,rfl,hS,e31,e32,e33,e35⟩;dsimp only [ZgG] at hL;refine r6 ?_;refine cn hL ?_ ?_
    ·intro hc hL;refine r6 ?_;obtain⟨x37,ZmU,hL⟩:=qZ hL;obtain⟨b38,o39,⟨a40,c41⟩,ZzW,ZAq,ZAi,ZlX⟩:=Sl.at_ ZL ZmU;refine r1 ?_;have ZpS:Sl Ze wm h a40 c41 x37:=ZlX;refine JC ?_;refine cn hL ?_ ?_
     ·intro hc hL;refine JC ?_;exact rt hL hT hS
     ·intro hc hL;refine r7 ?_;exact Ya.YU (Znc _ _ hL ⟨_,_,rfl,hS.only sl,Yv⟩)
    ·intro hc hL;refine r15 ?_;refine WC.loop (WL.lift hL (fun v46 s=>∃ ZAJ h42,s= ⟨ZAJ,[],h42,none⟩∧Sp wm T h [] h42∧ZAJ.at 73= .slice Zq p0.qG.length Zp∧ZAJ.at 74= .int .i64 (p0.qG.length:Int)∧ZAJ.at 75= .int .i64 v46) ⟨_,_,rfl,hS.only .n,Yv⟩ ?_);clear hL hS;rintro ZiW v46 s Zna hL ⟨ZAJ,h42,rfl,hS,e44,e45,e47⟩;dsimp only [ZgF] at hL;refine r6 ?_;refine cn hL ?_ ?_
     ·intro hc hL;refine r6 ?_;obtain⟨x49,ZvU,hL⟩:=qZ hL;obtain⟨b50,o51,⟨⟨a52,c53⟩,⟨a54,c55⟩⟩,ZzU,ZuA,ZGo,Zut⟩:=Sl.at_ ZI ZvU;refine r1 ?_;have ZX5:Sl (Zt .i64) wm h a52 c53 x49.qV:=Zut.1;have ZX4:Sl (Zt .i64) wm h a54 c55 x49.Yc:=Zut.2;refine WO.w gN rfl (YK WS Xf (YF fh rfl) (At.fz hS.fz ZGo ZuA) (j:=0) rfl rfl (ws:= (cL x49 a52 c53 a54 c55)) rfl) ?_;refine r1 ?_;rintro _ h57 ⟨b56,ZVT,rfl,hS⟩;refine r1 ?_;rintro h58 hS;refine r16 ?_;refine cn hL ?_ ?_
      ·intro hc hL;refine JC ?_;exact rt hL hT hS
      ·intro hc hL;refine r7 ?_;exact Ya.YU (Zna _ _ hL ⟨_,_,rfl,hS.only .n,Yv⟩)
     ·intro hc hL;refine JC ?_;exact rt hL hT hS
theorem ZKv {F wm h} {p0 p1:(List Zv)} {Zi Zh XK XJ} {r} (Z0:wm <=h.size) (ZB:Sl Zy wm h Zi Zh p0) (JY:Sl Zy wm h XK XJ p1) (hL:Zwe F p0 p1=some r):
 WR XX 24 #[.slice Zi p0.length Zh,.slice XK p1.length XJ] wm h (CP (fun(v:Value) (Gb:List (Ast wm))=>v= .bool r∧Gb= []) [] h):=by
 refine bg Tryz.ntmps24 Z0 Yd.nil ?_;intro T hT hS;unfold Zwe at hL;refine r15 ?_;refine cn hL ?_ ?_
 ·intro hc hL;refine r7 ?_;exact rt hL hT hS
 ·intro hc hL;refine JC ?_;refine WC.loop (WL.lift hL (fun v6 s=>∃ XT h1,s= ⟨XT,[],h1,none⟩∧Sp wm T h [] h1∧XT.at 0= .slice Zi p0.length Zh∧XT.at 1= .slice XK p1.length XJ∧XT.at 12= .int .i64 (p0.length:Int)∧XT.at 13= .int .i64 v6) ⟨_,_,rfl,hS.only .n,Yv⟩ ?_);clear hL hS;rintro ZaO v6 s Zd9 hL ⟨XT,h1,rfl,hS,e3,e4,e5,e7⟩;dsimp only [ZnW] at hL;refine r6 ?_;refine cn hL ?_ ?_
  ·intro hc hL;refine JC ?_;refine WC.YD mixed Kq0 ?_;refine r2 ?_;obtain⟨x9,hx9,hL⟩:=qZ hL;obtain⟨b10,o11,_,ZpZ,ZlY,Zux,Zp1⟩:=Sl.at_ ZB hx9;refine r1 ?_;refine WX.w gN rfl (YK ZBX KM (YF fh rfl) (At.fz hS.fz Zux ZlY) (j:=0) rfl rfl (ws:= [.int .i64 x9.deed,.int .i64 x9.place,.int .i64 x9.at_,.int .i64 x9.n,.int .i64 x9.hops]) rfl) ?_ rfl;refine r2 ?_;obtain⟨x12,Zr0,hL⟩:=qZ hL;obtain⟨b13,o14,_,ZGf,ZAv,ZAk,ZAc⟩:=Sl.at_ JY Zr0;refine r1 ?_;refine WX.w gN rfl (YK ZBX KM (YF fh rfl) (At.fz hS.fz ZAk ZAv) (j:=0) rfl rfl (ws:= [.int .i64 x12.deed,.int .i64 x12.place,.int .i64 x12.at_,.int .i64 x12.n,.int .i64 x12.hops]) rfl) ?_ rfl;refine WX.w gN rfl (Qe (YF (Y5 rfl fh) rfl) (YF fh rfl) (Za4 (xs:= [.int .i64 x9.deed,.int .i64 x9.place,.int .i64 x9.at_,.int .i64 x9.n,.int .i64 x9.hops]) (ys:= [.int .i64 x12.deed,.int .i64 x12.place,.int .i64 x12.at_,.int .i64 x12.n,.int .i64 x12.hops]) (ZQa x9 x12) rfl rfl)) ?_ rfl;refine r2 ?_;refine cn hL ?_ ?_
   ·intro hc hL;refine JC ?_;exact rt hL hT hS
   ·intro hc hL;refine r7 ?_;exact Ya.YU (Zd9 _ _ hL ⟨_,_,rfl,hS.only .n,Yv⟩)
  ·intro hc hL;refine JC ?_;exact rt hL hT hS
theorem ZKw {F h} {p0 p1:(List Zv)} {Zi Zh XK XJ} {r} (ZB:Sl Zy h.size h Zi Zh p0) (JY:Sl Zy h.size h XK XJ p1) (hL:Zwe F p0 p1=some r):Pure XX 24 #[.slice Zi p0.length Zh,.slice XK p1.length XJ] h (.bool r):=
 WR.X9 rfl (ZKv (Nat.le_refl _) ZB JY hL)
theorem ZKu {F wm h} {p0 p1:(List Int)} {Zi Zh XK XJ} {r} (Z0:wm <=h.size) (ZB:Sl (Zt .i64) wm h Zi Zh p0) (JY:Sl (Zt .i64) wm h XK XJ p1) (hL:ZnV F p0 p1=some r):
 WR XX 27 #[.slice Zi p0.length Zh,.slice XK p1.length XJ] wm h (CP (fun(v:Value) (Gb:List (Ast wm))=>v= .bool r∧Gb= []) [] h):=by
 refine bg Tryz.ntmps27 Z0 Yd.nil ?_;intro T hT hS;unfold ZnV at hL;refine r15 ?_;refine cn hL ?_ ?_
 ·intro hc hL;refine r7 ?_;exact rt hL hT hS
 ·intro hc hL;refine JC ?_;refine WC.loop (WL.lift hL (fun v6 s=>∃ XT h1,s= ⟨XT,[],h1,none⟩∧Sp wm T h [] h1∧XT.at 0= .slice Zi p0.length Zh∧XT.at 1= .slice XK p1.length XJ∧XT.at 12= .int .i64 (p0.length:Int)∧XT.at 13= .int .i64 v6) ⟨_,_,rfl,hS.only .n,Yv⟩ ?_);clear hL hS;rintro ZaO v6 s Zd9 hL ⟨XT,h1,rfl,hS,e3,e4,e5,e7⟩;dsimp only [ZnU] at hL;refine r6 ?_;refine cn hL ?_ ?_
  ·intro hc hL;refine JC ?_;refine WC.YD mixed Kq0 ?_;refine r2 ?_;obtain⟨x9,hx9,hL⟩:=qZ hL;obtain⟨b10,o11,_,ZpZ,ZlY,Zux,Zp1⟩:=Sl.at_ ZB hx9;refine r4 ?_;obtain⟨x12,Zr0,hL⟩:=qZ hL;obtain⟨b13,o14,_,ZGf,ZAv,ZAk,ZAc⟩:=Sl.at_ JY Zr0;refine r5 ?_;refine cn hL ?_ ?_
   ·intro hc hL;refine JC ?_;exact rt hL hT hS
   ·intro hc hL;refine r7 ?_;exact Ya.YU (Zd9 _ _ hL ⟨_,_,rfl,hS.only .n,Yv⟩)
  ·intro hc hL;refine JC ?_;exact rt hL hT hS
theorem ZnT {F h} {p0 p1:(List Int)} {Zi Zh XK XJ} {r} (ZB:Sl (Zt .i64) h.size h Zi Zh p0) (JY:Sl (Zt .i64) h.size h XK XJ p1) (hL:ZnV F p0 p1=some r):Pure XX 27 #[.slice Zi p0.length Zh,.slice XK p1.length XJ] h (.bool r):=
 WR.X9 rfl (ZKu (Nat.le_refl _) ZB JY hL)
end Go.Proofs.YtbmbbcaaimehkaaGreat
end
end
section
namespace Go.Proofs.YtbmbbcaaimehkaaGreat
open Go.Lf
end Go.Proofs.YtbmbbcaaimehkaaGreat
end
section
set_option maxRecDepth 20000
noncomputable section
namespace Go.Proofs.YtbmbbcaaimehkaaGreat
open Go.YR Go.Lf
end Go.Proofs.YtbmbbcaaimehkaaGreat
end
end
section
namespace Go.Proofs.YtbmbbcaaimehkaaGreat
open Go.Lf
def ZnS:Unit ->Option Bool:=fun _=>
 some false
def Zj2 (p0:Zb) (p1:ZH):Unit ->Option Bool:=fun _=>
 some ((decide (p1.a >=0)) && (decide (p1.a < (p0.Zx.length:Int))))
def Zwd (p0:Zb) (p1:ZH):Option Bool:=
 (bif(p1.act==1) then(bif((decide (p1.a >=0)) && (decide (p1.a < (p0.qQ.length:Int)))) then some ((decide (p1.b >=0)) && (decide (p1.b < (p0.Zx.length:Int)))) else some false) else(bif(p1.act==2) then(bif((decide (p1.a >=0)) && (decide (p1.a < (p0.Zx.length:Int)))) then some ((decide (p1.b >=0)) && (decide (p1.b < (p0.qQ.length:Int)))) else some false) else(bif(p1.act==3) then(bif(!((decide (p1.b >=0)) && (decide (p1.b < (p0.Zx.length:Int))))) then some false else(Zj2 p0 p1) ()) else(bif(p1.act==4) then(Zj2 p0 p1) () else(bif(p1.act==5) then some ((decide (p1.a >=0)) && (decide (p1.a < (p0.qG.length:Int)))) else(ZnS) ())))))
def ZjX (v16:Int) (U7:(Int×Int×Int×Int×Int×Bool ->Option (XO×Bool))):Int×Int×Int×Int×Bool ->Option (XO×Bool):=fun(v29,v33,v34,v35,v36)=>
 U7 (v29,Y2 (v16 + 1),v33,v34,v35,v36)
def ZjW (v94:Int) (Zdl:(Int×Int×Int×Int×Int×Bool ->Option (XO×Bool))):Int×Int×Int×Int×Bool ->Option (XO×Bool):=fun(ZhG,Zvm,v117,ZhF,ZCI)=>
 Zdl (ZhG,Y2 (v94 + 1),Zvm,v117,ZhF,ZCI)
def ZnL (p1:Int) (v63:Int) (ZmC:(Int×Int×Int×Int×Int×Bool ->Option (XO×Bool))) (x70:Zg):Int×Int×Int×Int×Int×Bool ->(Int×Int×Int×Int×Int×Bool ->Option (XO×Bool)) ->Option (XO×Bool):=fun(v85,v94,v96,v97,v98,v99) Zdl=>
 (bif decide (v94 < (x70.qV.length:Int)) then(ZK x70.qV v94).bind fun ZLR=>(bif((ZLR==p1) && (decide (v94 < (x70.Yc.length:Int)))) then(ZK x70.Yc v94).bind fun ZoO=>(ZjW v94 Zdl) (Y2 (v85 + 1),x70.ZX,ZoO,v63,false) else(ZjW v94 Zdl) (v85,v96,v97,v98,v99)) else ZmC (v85,Y2 (v63 + 1),v96,v97,v98,v99))
def ZjY (F:Nat) (p0:Zb) (p1:Int):Int×Int×Int×Int×Int×Bool ->(Int×Int×Int×Int×Int×Bool ->Option (XO×Bool)) ->Option (XO×Bool):=fun(v59,v63,v65,v66,v67,v68) ZmC=>
 (bif decide (v63 < (p0.qG.length:Int)) then(ZK p0.qG v63).bind fun x70=>loop F (ZnL p1 v63 ZmC x70) (v59,0,v65,v66,v67,v68) else some ((XO.mk v65 v66 v67 v68),(v59==1)))
def ZnM (F:Nat) (p0:Zb) (p1:Int):Int×Int×Int×Int×Int×Bool ->(Int×Int×Int×Int×Int×Bool ->Option (XO×Bool)) ->Option (XO×Bool):=fun(v13,v16,v18,v19,v20,v21) U7=>
 (bif decide (v16 < (p0.qQ.length:Int)) then(ZK p0.qQ v16).bind fun x37=>(ZK x37 p1).bind fun x42=>(bif x42.here then(ZK p0.qQ v16).bind fun Ww=>(ZK Ww p1).bind fun x50=>(ZjX v16 U7) (Y2 (v13 + 1),v16,x50.age,(-1),true) else(ZjX v16 U7) (v13,v18,v19,v20,v21)) else loop F (ZjY F p0 p1) (v13,0,v18,v19,v20,v21))
def Zgu (F:Nat) (p0:Zb) (p1:Int):Option (XO×Bool):=
 loop F (ZnM F p0 p1) (0,0,0,0,0,false)
def ZnK (p0:Zb) (p1:Int) (p2:XO) (p3:Int) (p4:Int):Option Bool:=
 (bif((((decide (p3 < 0)) || (decide (p3 >= (p0.qQ.length:Int)))) || (decide (p4 < 0))) || (decide (p4 > p2.age))) then some false else(bif(p4==p2.age) then some (p2.at_==p3) else(ZK p0.qQ p3).bind fun x5=>(ZK x5 p1).bind fun x10=>some (decide (x10.age > p4))))
def Zqj (p0:Zb) (p1:(List XO)) (p2:Zr) (p3:Int) (p4:Bool):Option Bool:=
 (bif((((((((decide (p2.place < 0)) || (decide (p2.place >= (p0.Zx.length:Int)))) || (decide (p2.from_ < 0))) || (decide (p2.from_ >= (p0.qQ.length:Int)))) || (decide (p2.age < 0))) || (decide (p2.age > 30))) || (decide (p2.hops < 1))) || (decide (p2.hops > (Y2 (p2.age + 1))))) then some false else(ZK p1 p2.place).bind fun x5=>(bif p4 then some (((!x5.is) && (x5.at_==p3)) && (x5.age==p2.age)) else(ZnK p0 p2.place x5 p3 p2.age).bind fun Ye=>some Ye))
end Go.Proofs.YtbmbbcaaimehkaaGreat
end
section
set_option maxRecDepth 20000
noncomputable section
namespace Go.Proofs.YtbmbbcaaimehkaaGreat
open Go.YR Go.Lf
theorem ZKr {wm h} {p0:Zb} {p1:ZH} {Zi Zh Zm Zl Zk Zj Zo Zn Zq Zp} {r} (Z0:wm <=h.size) (ZB:Sl (Zt .i64) wm h Zi Zh p0.Zx) (ZM:Sl (ZN (Zt .i64)) wm h Zm Zl p0.qK) (ZF:Sl (ZN Zc) wm h Zk Zj p0.qQ) (ZL:Sl (ZN Ze) wm h Zo Zn p0.qJ) (ZI:Sl Zd wm h Zq Zp p0.qG) (hL:Zwd p0 p1=some r):
 WR XX 47 #[.agg [.slice Zi p0.Zx.length Zh,.slice Zm p0.qK.length Zl,.slice Zk p0.qQ.length Zj,.slice Zo p0.qJ.length Zn,.slice Zq p0.qG.length Zp,.int .i64 p0.said].toArray,.agg [.int .i64 p1.act,.int .i64 p1.a,.int .i64 p1.b].toArray] wm h (CP (fun(v:Value) (Gb:List (Ast wm))=>v= .bool r∧Gb= []) [] h):=by
 refine bg Tryz.ntmps47 Z0 Yd.nil ?_;intro T hT hS;unfold Zwd at hL;refine r3 ?_;rintro _ h2 ⟨b1,eb1,rfl,hS⟩;refine r1 ?_;rintro _ h4 ⟨b3,eb3,rfl,hS⟩;refine r5 ?_;refine WO.w gN rfl (ZbA (Zf lk Zz)) ?_;refine r5 ?_;refine WO.w gN rfl (ZbA (Zf lk Zz)) ?_;refine r3 ?_;refine WC.Zae (r:=r) (fun(_:Unit) s=>∃ fr6 h5,s= ⟨fr6,[],h5,none⟩∧Sp wm T h [] h5) (ZnS) ?_ ?_
 ·clear hL hS;rintro _ s hL ⟨fr6,h5,rfl,hS⟩;dsimp only [ZnS] at hL;refine r6 ?_;exact rt hL hT hS
 ·skip;refine r9 ?_;refine WC.Zae (r:=r) (fun(_:Unit) s=>∃ fr8 h7,s= ⟨fr8,[],h7,none⟩∧Sp wm T h [bx wm b3 (cS p1),bx wm b1 (cW p0 Zi Zh Zm Zl Zk Zj Zo Zn Zq Zp)] h7∧fr8.at 3= .pointer (some ⟨b3,0,none⟩)∧fr8.at 5= .func (.func 75) #[] [.pointer (some ⟨b1,0,none⟩)].toArray) (Zj2 p0 p1) ?_ ?_
  ·clear hL hS;rintro _ s hL ⟨fr8,h7,rfl,hS,e9,e10⟩;dsimp only [Zj2] at hL;refine r6 ?_;refine WO.inl gN rfl (Y9.clo (first:= []) (cap:= [.pointer (some ⟨b1,0,none⟩)]) lk Zul lks rfl) (WF.begin (args:= [_,_]) (fn:=Tryz.f75) Kq0 (by exact rfl) Tryz.ntmps75 (by simp) ?_);simp only [Z4,Z9,Nat.reduceAdd];refine r16 ?_;refine r4 ?_;refine Yk.XF rfl (ZU lk ZE) ?_;refine r8 ?_;refine YT.ret ?_;exact rt hL hT hS
  ·skip;refine r15 ?_;refine cn hL ?_ ?_
   ·intro hc hL;refine JC ?_;refine WO.inl gN rfl (Y9.clo (first:= []) (cap:= [.pointer (some ⟨b1,0,none⟩)]) lk ZF4 lks rfl) (WF.begin (args:= [_,_]) (fn:=Tryz.f76) Kq0 (by exact rfl) Tryz.ntmps76 (by simp) ?_);simp only [Z4,Z9,Nat.reduceAdd];refine r16 ?_;refine r4 ?_;refine Yk.XF rfl (ZU lk ZE) ?_;refine r4 ?_;refine WO.ZcM (Zw.yes rfl rfl rfl (YC rfl (ZC rfl fh))) (fun Znj=>?_) (fun Znj=>?_)
    ·replace hL:=J8 Znj hL;refine WO.inl (Zw.on (Zw.yes rfl rfl rfl (YC rfl (ZC rfl fh))) Znj) rfl (Y9.clo (first:= []) (cap:= [.pointer (some ⟨b1,0,none⟩)]) (YQ (YC rfl fh) rfl Znj) Zul (Zf (YQ fh rfl Znj) Zz) rfl) (WF.begin (args:= [_,_]) (fn:=Tryz.f75) Kq0 (by exact rfl) Tryz.ntmps75 (by simp) ?_);simp only [Z4,Z9,Nat.reduceAdd];refine r16 ?_;refine r4 ?_;refine Yk.XF rfl (ZU lk ZE) ?_;refine WO.w gN rfl (Zeo lk Znj lk) ?_;refine r10 ?_;refine YT.ret ?_;refine r3 ?_;refine YT.ret ?_;exact rt hL hT hS
    ·replace hL:=J9 Znj hL;refine WO.ZcC (Zw.yes rfl rfl rfl (YC rfl (ZC rfl fh))) Znj rfl ?_;refine WO.w gN rfl (Zep lk Znj lk) ?_;refine r10 ?_;refine YT.ret ?_;refine r3 ?_;refine YT.ret ?_;exact rt hL hT hS
   ·intro hc hL;refine r9 ?_;refine cn hL ?_ ?_
    ·intro hc hL;refine r3 ?_;refine UN.other rfl ?_;refine r9 ?_;refine WO.inl gN rfl (Y9.clo (first:= []) (cap:= [.pointer (some ⟨b1,0,none⟩)]) lk Zul lks rfl) (WF.begin (args:= [_,_]) (fn:=Tryz.f75) Kq0 (by exact rfl) Tryz.ntmps75 (by simp) ?_);simp only [Z4,Z9,Nat.reduceAdd];refine r16 ?_;refine r4 ?_;refine Yk.XF rfl (ZU lk ZE) ?_;refine r4 ?_;refine WO.ZcM (Zw.yes rfl rfl rfl (YC rfl (ZC rfl fh))) (fun Zni=>?_) (fun Zni=>?_)
     ·replace hL:=J8 Zni hL;refine WO.inl (Zw.on (Zw.yes rfl rfl rfl (YC rfl (ZC rfl fh))) Zni) rfl (Y9.clo (first:= []) (cap:= [.pointer (some ⟨b1,0,none⟩)]) (YQ (YC rfl fh) rfl Zni) ZF4 (Zf (YQ fh rfl Zni) Zz) rfl) (WF.begin (args:= [_,_]) (fn:=Tryz.f76) Kq0 (by exact rfl) Tryz.ntmps76 (by simp) ?_);simp only [Z4,Z9,Nat.reduceAdd];refine r16 ?_;refine r4 ?_;refine Yk.XF rfl (ZU lk ZE) ?_;refine WO.w gN rfl (Zeo lk Zni lk) ?_;refine r8 ?_;refine YT.ret ?_;refine r3 ?_;refine YT.ret ?_;exact rt hL hT hS
     ·replace hL:=J9 Zni hL;refine WO.ZcC (Zw.yes rfl rfl rfl (YC rfl (ZC rfl fh))) Zni rfl ?_;refine WO.w gN rfl (Zep lk Zni lk) ?_;refine r8 ?_;refine YT.ret ?_;refine r3 ?_;refine YT.ret ?_;exact rt hL hT hS
    ·intro hc hL;refine r9 ?_;refine cn hL ?_ ?_
     ·intro hc hL;refine r3 ?_;refine UN.other rfl ?_;refine r1 ?_;refine UN.other rfl ?_;refine r8 ?_;refine WO.inl gN rfl (Y9.clo (first:= []) (cap:= [.pointer (some ⟨b1,0,none⟩)]) lk Zul lks rfl) (WF.begin (args:= [_,_]) (fn:=Tryz.f75) Kq0 (by exact rfl) Tryz.ntmps75 (by simp) ?_);simp only [Z4,Z9,Nat.reduceAdd];refine r16 ?_;refine r4 ?_;refine Yk.XF rfl (ZU lk ZE) ?_;refine r3 ?_;refine cn hL ?_ ?_
      ·intro hc hL;refine r7 ?_;refine YT.ret ?_;refine r3 ?_;refine YT.ret ?_;exact rt hL hT hS
      ·intro hc hL;refine r2 ?_;exact YT.YU _ hL ⟨_,_,rfl,hS.only sl,Yv⟩
     ·intro hc hL;refine r9 ?_;refine cn hL ?_ ?_
      ·intro hc hL;refine r3 ?_;refine UN.other rfl ?_;refine r1 ?_;refine UN.other rfl ?_;refine r1 ?_;refine UN.other rfl ?_;refine r2 ?_;exact YT.YU _ hL ⟨_,_,rfl,hS.only sl,Yv⟩
      ·intro hc hL;refine r8 ?_;refine cn hL ?_ ?_
       ·intro hc hL;refine r2 ?_;refine UN.other rfl ?_;refine r1 ?_;refine UN.other rfl ?_;refine r1 ?_;refine UN.other rfl ?_;refine r1 ?_;refine UN.other rfl ?_;refine YT.exit ?_;refine r16 ?_;refine r6 ?_;refine YT.ret ?_;exact rt hL hT hS
       ·intro hc hL;refine r3 ?_;refine UN.other rfl ?_;refine r1 ?_;refine UN.other rfl ?_;refine r1 ?_;refine UN.other rfl ?_;refine r1 ?_;refine UN.other rfl ?_;refine YT.exit ?_;refine UN.other rfl ?_;refine r2 ?_;exact YT.YU _ hL ⟨_,_,rfl,hS.only .n⟩
theorem ZKs {h} {p0:Zb} {p1:ZH} {Zi Zh Zm Zl Zk Zj Zo Zn Zq Zp} {r} (ZB:Sl (Zt .i64) h.size h Zi Zh p0.Zx) (ZM:Sl (ZN (Zt .i64)) h.size h Zm Zl p0.qK) (ZF:Sl (ZN Zc) h.size h Zk Zj p0.qQ) (ZL:Sl (ZN Ze) h.size h Zo Zn p0.qJ) (ZI:Sl Zd h.size h Zq Zp p0.qG) (hL:Zwd p0 p1=some r):Pure XX 47 #[.agg [.slice Zi p0.Zx.length Zh,.slice Zm p0.qK.length Zl,.slice Zk p0.qQ.length Zj,.slice Zo p0.qJ.length Zn,.slice Zq p0.qG.length Zp,.int .i64 p0.said].toArray,.agg [.int .i64 p1.act,.int .i64 p1.a,.int .i64 p1.b].toArray] h (.bool r):=
 WR.X9 rfl (ZKr (Nat.le_refl _) ZB ZM ZF ZL ZI hL)
theorem Zeh {F wm h} {p0:Zb} {p1:Int} {Zi Zh Zm Zl Zk Zj Zo Zn Zq Zp} {r} (Z0:wm <=h.size) (ZB:Sl (Zt .i64) wm h Zi Zh p0.Zx) (ZM:Sl (ZN (Zt .i64)) wm h Zm Zl p0.qK) (ZF:Sl (ZN Zc) wm h Zk Zj p0.qQ) (ZL:Sl (ZN Ze) wm h Zo Zn p0.qJ) (ZI:Sl Zd wm h Zq Zp p0.qG) (hL:Zgu F p0 p1=some r):
 WR XX 52 #[.agg [.slice Zi p0.Zx.length Zh,.slice Zm p0.qK.length Zl,.slice Zk p0.qQ.length Zj,.slice Zo p0.qJ.length Zn,.slice Zq p0.qG.length Zp,.int .i64 p0.said].toArray,.int .i64 p1] wm h (CP (fun(v:Value) (Gb:List (Ast wm))=>v= .tuple [.agg [.int .i64 r.1.at_,.int .i64 r.1.age,.int .i64 r.1.letter,.bool r.1.is].toArray,.bool r.2].toArray∧Gb= []) [] h):=by
 refine bg Tryz.ntmps52 Z0 Yd.nil ?_;intro T hT hS;unfold Zgu at hL;refine r3 ?_;rintro _ h2 ⟨b1,eb1,rfl,hS⟩;refine r1 ?_;rintro _ h4 ⟨b3,eb3,rfl,hS⟩;refine r6 ?_;rintro _ h6 ⟨b5,eb5,rfl,hS⟩;refine r16 ?_;refine r1 ?_;refine WC.loop (WL.lift hL (fun p s=>match p with | (v13,v16,v18,v19,v20,v21)=>∃ fr8 h7,s= ⟨fr8,[],h7,none⟩∧Sp wm T h [bx wm b1 (cW p0 Zi Zh Zm Zl Zk Zj Zo Zn Zq Zp),bx wm b3 [.int .i64 0,.int .i64 0,.int .i64 0,.bool false],bx wm b5 [.int .i64 v18,.int .i64 v19,.int .i64 v20,.bool v21]] h7∧fr8.at 1= .int .i64 p1∧fr8.at 2= .pointer (some ⟨b1,0,none⟩)∧fr8.at 4= .pointer (some ⟨b3,0,none⟩)∧fr8.at 6= .pointer (some ⟨b5,0,none⟩)∧fr8.at 7= .int .i64 v13∧fr8.at 15= .int .i64 (p0.qQ.length:Int)∧fr8.at 16= .int .i64 v16) ⟨_,_,rfl,hS.only sl,Yv⟩ ?_);clear hL hS;rintro U7 ⟨v13,v16,v18,v19,v20,v21⟩ s Zne hL ⟨fr8,h7,rfl,hS,e9,e10,e11,e12,e14,e15,e17⟩;dsimp only [ZnM] at hL;refine r6 ?_;refine cn hL ?_ ?_
 ·intro hc hL;refine r2 ?_;refine WC.Zae (r:=r) (fun(p:Int×Int×Int×Int×Bool) s=>match p with | (v29,v33,v34,v35,v36)=>∃ UO h23,s= ⟨UO,[],h23,none⟩∧Sp wm T h [bx wm b1 (cW p0 Zi Zh Zm Zl Zk Zj Zo Zn Zq Zp),bx wm b3 [.int .i64 0,.int .i64 0,.int .i64 0,.bool false],bx wm b5 [.int .i64 v33,.int .i64 v34,.int .i64 v35,.bool v36]] h23∧UO.at 1= .int .i64 p1∧UO.at 2= .pointer (some ⟨b1,0,none⟩)∧UO.at 4= .pointer (some ⟨b3,0,none⟩)∧UO.at 6= .pointer (some ⟨b5,0,none⟩)∧UO.at 7= .int .i64 v29∧UO.at 15= .int .i64 (p0.qQ.length:Int)∧UO.at 16= .int .i64 v16) (ZjX v16 U7) ?_ ?_
  ·clear hL hS;rintro⟨v29,v33,v34,v35,v36⟩ s hL ⟨UO,h23,rfl,hS,e25,e26,e27,e28,e30,e31,e32⟩;dsimp only [ZjX] at hL;refine r4 ?_;exact Ya.YU (Zne _ _ hL ⟨_,_,rfl,hS.only sl,Yv⟩)
  ·skip;refine WG ?_;obtain⟨x37,ZmU,hL⟩:=qZ hL;obtain⟨b38,o39,⟨a40,c41⟩,ZzW,ZAq,ZAi,ZlX⟩:=Sl.at_ ZF ZmU;refine r1 ?_;have ZpS:Sl Zc wm h a40 c41 x37:=ZlX;refine r2 ?_;obtain⟨x42,ZyQ,hL⟩:=qZ hL;obtain⟨b43,o44,_,ZOE,ZPD,ZPm,ZOZ⟩:=Sl.at_ ZpS ZyQ;refine r5 ?_;refine cn hL ?_ ?_
   ·intro hc hL;refine r6 ?_;obtain⟨Ww,ZyP,hL⟩:=qZ hL;obtain⟨b46,o47,⟨a48,c49⟩,ZGd,ZAp,ZAg,Zp0⟩:=Sl.at_ ZF ZyP;refine r1 ?_;have ZpR:Sl Zc wm h a48 c49 Ww:=Zp0;refine r2 ?_;obtain⟨x50,ZTl,hL⟩:=qZ hL;obtain⟨b51,o52,_,ZYC,ZZw,ZZf,ZY0⟩:=Sl.at_ ZpR ZTl;refine r3 ?_;refine WO.w gN rfl (YS ZBJ (Zu lk (Zu lk (Zu lk (Zu lk ZT)))) rfl (cs':= [.int .i64 v16,.int .i64 x50.age,.int .i64 (-1),.bool true]) rfl) ?_;refine r1 ?_;rintro h53 hS;refine r8 ?_;exact YT.YU _ hL ⟨_,_,rfl,hS.only sl,Yv⟩
   ·intro hc hL;refine r2 ?_;exact YT.YU _ hL ⟨_,_,rfl,hS.only sl,Yv⟩
 ·intro hc hL;refine r15 ?_;refine WC.loop (WL.lift hL (fun p s=>match p with | (v59,v63,v65,v66,v67,v68)=>∃ ZdE h54,s= ⟨ZdE,[],h54,none⟩∧Sp wm T h [bx wm b3 [.int .i64 0,.int .i64 0,.int .i64 0,.bool false],bx wm b5 [.int .i64 v65,.int .i64 v66,.int .i64 v67,.bool v68]] h54∧ZdE.at 1= .int .i64 p1∧ZdE.at 4= .pointer (some ⟨b3,0,none⟩)∧ZdE.at 6= .pointer (some ⟨b5,0,none⟩)∧ZdE.at 7= .int .i64 v59∧ZdE.at 43= .slice Zq p0.qG.length Zp∧ZdE.at 44= .int .i64 (p0.qG.length:Int)∧ZdE.at 45= .int .i64 v63) ⟨_,_,rfl,hS.only sl,Yv⟩ ?_);clear hL hS;rintro ZmC ⟨v59,v63,v65,v66,v67,v68⟩ s ZDx hL ⟨ZdE,h54,rfl,hS,e56,e57,e58,e60,e61,e62,e64⟩;dsimp only [ZjY] at hL;refine r6 ?_;refine cn hL ?_ ?_
  ·intro hc hL;refine r7 ?_;obtain⟨x70,ZH3,hL⟩:=qZ hL;obtain⟨b71,o72,⟨⟨a73,c74⟩,⟨a75,c76⟩⟩,ZOx,ZGt,ZGm,Zz8⟩:=Sl.at_ ZI ZH3;refine r1 ?_;have ZNz:Sl (Zt .i64) wm h a73 c74 x70.qV:=Zz8.1;have ZNy:Sl (Zt .i64) wm h a75 c76 x70.Yc:=Zz8.2;refine WO.w gN rfl (YK WS Xf (YF fh rfl) (At.fz hS.fz ZGm ZGt) (j:=0) rfl rfl (ws:= (cL x70 a73 c74 a75 c76)) rfl) ?_;refine r1 ?_;rintro _ h78 ⟨b77,Z4q,rfl,hS⟩;refine r2 ?_;rintro h79 hS;refine JC ?_;refine WC.loop (WL.lift hL (fun p s=>match p with | (v85,v94,v96,v97,v98,v99)=>∃ Zah h80,s= ⟨Zah,[],h80,none⟩∧Sp wm T h [bx wm b3 [.int .i64 0,.int .i64 0,.int .i64 0,.bool false],bx wm b5 [.int .i64 v96,.int .i64 v97,.int .i64 v98,.bool v99],bx wm b77 (cL x70 a73 c74 a75 c76)] h80∧Zah.at 1= .int .i64 p1∧Zah.at 4= .pointer (some ⟨b3,0,none⟩)∧Zah.at 6= .pointer (some ⟨b5,0,none⟩)∧Zah.at 7= .int .i64 v85∧Zah.at 9= .int .i64 v63∧Zah.at 10= .pointer (some ⟨b77,0,none⟩)∧Zah.at 43= .slice Zq p0.qG.length Zp∧Zah.at 44= .int .i64 (p0.qG.length:Int)∧Zah.at 45= .int .i64 v63∧Zah.at 51= .slice a73 x70.qV.length c74∧Zah.at 52= .int .i64 (x70.qV.length:Int)∧Zah.at 53= .int .i64 v94) ⟨_,_,rfl,hS.only sl,Yv⟩ ?_);clear hL hS;rintro Zdl ⟨v85,v94,v96,v97,v98,v99⟩ s ZzA hL ⟨Zah,h80,rfl,hS,e82,e83,e84,e86,e87,e88,e89,e90,e91,e92,e93,e95⟩;dsimp only [ZnL] at hL;refine r6 ?_;refine cn hL ?_ ?_
   ·intro hc hL;refine r2 ?_;refine WC.Zae (r:=r) (fun(p:Int×Int×Int×Int×Bool) s=>match p with | (ZhG,Zvm,v117,ZhF,ZCI)=>∃ Zam Zp5,s= ⟨Zam,[],Zp5,none⟩∧Sp wm T h [bx wm b3 [.int .i64 0,.int .i64 0,.int .i64 0,.bool false],bx wm b5 [.int .i64 Zvm,.int .i64 v117,.int .i64 ZhF,.bool ZCI],bx wm b77 (cL x70 a73 c74 a75 c76)] Zp5∧Zam.at 1= .int .i64 p1∧Zam.at 4= .pointer (some ⟨b3,0,none⟩)∧Zam.at 6= .pointer (some ⟨b5,0,none⟩)∧Zam.at 7= .int .i64 ZhG∧Zam.at 9= .int .i64 v63∧Zam.at 10= .pointer (some ⟨b77,0,none⟩)∧Zam.at 43= .slice Zq p0.qG.length Zp∧Zam.at 44= .int .i64 (p0.qG.length:Int)∧Zam.at 45= .int .i64 v63∧Zam.at 51= .slice a73 x70.qV.length c74∧Zam.at 52= .int .i64 (x70.qV.length:Int)∧Zam.at 53= .int .i64 v94) (ZjW v94 Zdl) ?_ ?_
    ·clear hL hS;rintro⟨ZhG,Zvm,v117,ZhF,ZCI⟩ s hL ⟨Zam,Zp5,rfl,hS,ZKM,ZQm,ZKL,ZQl,e108,e109,ZQk,Z5x,ZWj,ZWi,ZKK,e115⟩;dsimp only [ZjW] at hL;refine r4 ?_;exact Ya.YU (ZzA _ _ hL ⟨_,_,rfl,hS.only sl,Yv⟩)
    ·skip;refine r4 ?_;obtain⟨ZLR,ZNr,hL⟩:=qZ hL;obtain⟨Z6U,Z2h,_,ZUa,ZVf,ZUS,ZUH⟩:=Sl.at_ ZNz ZNr;refine r16 ?_;refine r4 ?_;refine cn hL ?_ ?_
     ·intro hc hL;refine r1 ?_;refine WC.YD mixed Kq0 ?_;refine r5 ?_;obtain⟨ZoO,Zy2,hL⟩:=qZ hL;obtain⟨ZQ0,ZSO,_,ZIW,ZJz,ZI9,ZI0⟩:=Sl.at_ ZNy Zy2;refine r3 ?_;refine WX.w gN rfl (YS ZBJ (Zu lk (Zu lk (Zu lk (Zu lk ZT)))) rfl (cs':= [.int .i64 x70.ZX,.int .i64 ZoO,.int .i64 v63,.bool false]) rfl) ?_ rfl;refine WX.hu gN (Ug hS k1 Qo lk lk (vs:= [.int .i64 x70.ZX,.int .i64 ZoO,.int .i64 v63,.bool false]) rfl rfl rfl rfl (cs':= [.int .i64 x70.ZX,.int .i64 ZoO,.int .i64 v63,.bool false]) rfl) ?_ rfl rfl [] Kq0 Yg.e;rintro ZP1 hS;refine r8 ?_;exact YT.YU _ hL ⟨_,_,rfl,hS.only sl,Yv⟩
     ·intro hc hL;refine r2 ?_;exact YT.YU _ hL ⟨_,_,rfl,hS.only sl,Yv⟩
   ·intro hc hL;refine r10 ?_;exact Ya.YU (ZDx _ _ hL ⟨_,_,rfl,hS.only sl,Yv⟩)
  ·intro hc hL;refine JC ?_;rintro h127 hS;refine r4 ?_;have hr:=Oi0 hL;subst hr;exact Yk.gen (vs:= [.agg [.int .i64 v65,.int .i64 v66,.int .i64 v67,.bool v68].toArray,.bool (v59==1)]) rfl (Y6 (Y5 rfl (ZC rfl e57)) (Ji Zkz Qo (hS.KC k0) (j:=0) rfl rfl (ws:= [.int .i64 v65,.int .i64 v66,.int .i64 v67,.bool v68]) rfl) (ZU lk ZE)) rfl ⟨_,⟨rfl,rfl⟩,hT ▸ hS.only .n⟩
theorem ZKl {wm h} {p0:Zb} {p1:Int} {p2:XO} {p3 p4:Int} {Zi Zh Zm Zl Zk Zj Zo Zn Zq Zp} {r} (Z0:wm <=h.size) (ZB:Sl (Zt .i64) wm h Zi Zh p0.Zx) (ZM:Sl (ZN (Zt .i64)) wm h Zm Zl p0.qK) (ZF:Sl (ZN Zc) wm h Zk Zj p0.qQ) (ZL:Sl (ZN Ze) wm h Zo Zn p0.qJ) (ZI:Sl Zd wm h Zq Zp p0.qG) (hL:ZnK p0 p1 p2 p3 p4=some r):
 WR XX 53 #[.agg [.slice Zi p0.Zx.length Zh,.slice Zm p0.qK.length Zl,.slice Zk p0.qQ.length Zj,.slice Zo p0.qJ.length Zn,.slice Zq p0.qG.length Zp,.int .i64 p0.said].toArray,.int .i64 p1,.agg [.int .i64 p2.at_,.int .i64 p2.age,.int .i64 p2.letter,.bool p2.is].toArray,.int .i64 p3,.int .i64 p4] wm h (CP (fun(v:Value) (Gb:List (Ast wm))=>v= .bool r∧Gb= []) [] h):=by
 refine bg Tryz.ntmps53 Z0 Yd.nil ?_;intro T hT hS;unfold ZnK at hL;refine r3 ?_;rintro _ h2 ⟨b1,eb1,rfl,hS⟩;refine r1 ?_;rintro _ h4 ⟨b3,eb3,rfl,hS⟩;refine r16 ?_;refine JC ?_;refine cn hL ?_ ?_
 ·intro hc hL;refine r7 ?_;exact rt hL hT hS
 ·intro hc hL;refine JC ?_;refine cn hL ?_ ?_
  ·intro hc hL;refine JC ?_;exact rt hL hT hS
  ·intro hc hL;refine r7 ?_;obtain⟨x5,hx5,hL⟩:=qZ hL;obtain⟨b6,o7,⟨a8,c9⟩,ZTW,ZPz,ZPh,ZOU⟩:=Sl.at_ ZF hx5;refine r1 ?_;have ZTA:Sl Zc wm h a8 c9 x5:=ZOU;refine r2 ?_;obtain⟨x10,Zy6,hL⟩:=qZ hL;obtain⟨b11,o12,_,ZYO,ZZH,ZZq,ZY8⟩:=Sl.at_ ZTA Zy6;refine r9 ?_;exact rt hL hT hS
theorem ZsD {h} {p0:Zb} {p1:Int} {p2:XO} {p3 p4:Int} {Zi Zh Zm Zl Zk Zj Zo Zn Zq Zp} {r} (ZB:Sl (Zt .i64) h.size h Zi Zh p0.Zx) (ZM:Sl (ZN (Zt .i64)) h.size h Zm Zl p0.qK) (ZF:Sl (ZN Zc) h.size h Zk Zj p0.qQ) (ZL:Sl (ZN Ze) h.size h Zo Zn p0.qJ) (ZI:Sl Zd h.size h Zq Zp p0.qG) (hL:ZnK p0 p1 p2 p3 p4=some r):Pure XX 53 #[.agg [.slice Zi p0.Zx.length Zh,.slice Zm p0.qK.length Zl,.slice Zk p0.qQ.length Zj,.slice Zo p0.qJ.length Zn,.slice Zq p0.qG.length Zp,.int .i64 p0.said].toArray,.int .i64 p1,.agg [.int .i64 p2.at_,.int .i64 p2.age,.int .i64 p2.letter,.bool p2.is].toArray,.int .i64 p3,.int .i64 p4] h (.bool r):=
 WR.X9 rfl (ZKl (Nat.le_refl _) ZB ZM ZF ZL ZI hL)
theorem ZKk {wm h} {p0:Zb} {p1:(List XO)} {p2:Zr} {p3:Int} {p4:Bool} {Zi Zh Zm Zl Zk Zj Zo Zn Zq Zp XK XJ} {r} (Z0:wm <=h.size) (ZB:Sl (Zt .i64) wm h Zi Zh p0.Zx) (ZM:Sl (ZN (Zt .i64)) wm h Zm Zl p0.qK) (ZF:Sl (ZN Zc) wm h Zk Zj p0.qQ) (ZL:Sl (ZN Ze) wm h Zo Zn p0.qJ) (ZI:Sl Zd wm h Zq Zp p0.qG) (JY:Sl Zcr wm h XK XJ p1) (hL:Zqj p0 p1 p2 p3 p4=some r):
 WR XX 54 #[.agg [.slice Zi p0.Zx.length Zh,.slice Zm p0.qK.length Zl,.slice Zk p0.qQ.length Zj,.slice Zo p0.qJ.length Zn,.slice Zq p0.qG.length Zp,.int .i64 p0.said].toArray,.slice XK p1.length XJ,.agg [.int .i64 p2.msg,.int .i64 p2.place,.int .i64 p2.from_,.int .i64 p2.age,.int .i64 p2.hops].toArray,.int .i64 p3,.bool p4] wm h (CP (fun(v:Value) (Gb:List (Ast wm))=>v= .bool r∧Gb= []) [] h):=by
 refine bg Tryz.ntmps54 Z0 Yd.nil ?_;intro T hT hS;unfold Zqj at hL;refine r3 ?_;rintro _ h2 ⟨b1,eb1,rfl,hS⟩;refine r1 ?_;rintro _ h4 ⟨b3,eb3,rfl,hS⟩;refine r16 ?_;refine r16 ?_;refine r16 ?_;refine r7 ?_;refine cn hL ?_ ?_
 ·intro hc hL;refine r7 ?_;exact rt hL hT hS
 ·intro hc hL;refine r7 ?_;obtain⟨x5,hx5,hL⟩:=qZ hL;obtain⟨b6,o7,_,ZTW,ZPz,ZPh,ZOU⟩:=Sl.at_ JY hx5;refine r1 ?_;refine WO.w gN rfl (YK Zkz Qo (YF fh rfl) (At.fz hS.fz ZPh ZPz) (j:=0) rfl rfl (ws:= [.int .i64 x5.at_,.int .i64 x5.age,.int .i64 x5.letter,.bool x5.is]) rfl) ?_;refine r1 ?_;rintro _ h9 ⟨b8,eb8,rfl,hS⟩;refine r1 ?_;rintro h10 hS;refine r8 ?_;refine cn hL ?_ ?_
  ·intro hc hL;refine r16 ?_;refine r7 ?_;exact rt hL hT hS
  ·intro hc hL;refine JC ?_;obtain⟨Ye,Zd8,hL⟩:=qZ hL;refine WO.cp gN rfl (Y9.fn ZzM (Zf lk (Zf lk (Zf lk (Zf lk (Zf lk Zz)))))) (ZsD (hS.Y1 ZB) (hS.Y1 ZM) (hS.Y1 ZF) (hS.Y1 ZL) (hS.Y1 ZI) Zd8) ?_;refine r4 ?_;exact rt hL hT hS
theorem ZBf {h} {p0:Zb} {p1:(List XO)} {p2:Zr} {p3:Int} {p4:Bool} {Zi Zh Zm Zl Zk Zj Zo Zn Zq Zp XK XJ} {r} (ZB:Sl (Zt .i64) h.size h Zi Zh p0.Zx) (ZM:Sl (ZN (Zt .i64)) h.size h Zm Zl p0.qK) (ZF:Sl (ZN Zc) h.size h Zk Zj p0.qQ) (ZL:Sl (ZN Ze) h.size h Zo Zn p0.qJ) (ZI:Sl Zd h.size h Zq Zp p0.qG) (JY:Sl Zcr h.size h XK XJ p1) (hL:Zqj p0 p1 p2 p3 p4=some r):Pure XX 54 #[.agg [.slice Zi p0.Zx.length Zh,.slice Zm p0.qK.length Zl,.slice Zk p0.qQ.length Zj,.slice Zo p0.qJ.length Zn,.slice Zq p0.qG.length Zp,.int .i64 p0.said].toArray,.slice XK p1.length XJ,.agg [.int .i64 p2.msg,.int .i64 p2.place,.int .i64 p2.from_,.int .i64 p2.age,.int .i64 p2.hops].toArray,.int .i64 p3,.bool p4] h (.bool r):=
 WR.X9 rfl (ZKk (Nat.le_refl _) ZB ZM ZF ZL ZI JY hL)
end Go.Proofs.YtbmbbcaaimehkaaGreat
end
end
section
namespace Go.Proofs.YtbmbbcaaimehkaaGreat
open Go.Lf
def ZnI (v35:Int) (ZmF:((List Int)×Int ->Option (List Int))) (x38:(List Zr)):(List Int)×Int ->((List Int)×Int ->Option (List Int)) ->Option (List Int):=fun(v46,v56) ZiV=>
 (bif decide (v56 < (x38.length:Int)) then(ZK x38 v56).bind fun x59=>(app 8 v46 [x59.msg]).bind fun z67=>ZiV (z67,Y2 (v56 + 1)) else ZmF (v46,Y2 (v35 + 1)))
def ZjT (v80:Int) (KU:((List Int)×Int ->Option (List Int))):(List Int) ->Option (List Int):=fun v85=>
 KU (v85,Y2 (v80 + 1))
def ZjU (p0:Zb):(List Int)×Int ->((List Int)×Int ->Option (List Int)) ->Option (List Int):=fun(v73,v80) KU=>
 (bif decide (v80 < (p0.qG.length:Int)) then(ZK p0.qG v80).bind fun x93=>(bif(x93.kind==1) then(app 8 v73 [x93.ZV.msg]).bind fun z105=>(ZjT v80 KU) z105 else(ZjT v80 KU) v73) else some v73)
def ZjV (F:Nat) (p0:Zb):(List Int)×Int ->((List Int)×Int ->Option (List Int)) ->Option (List Int):=fun(v28,v35) ZmF=>
 (bif decide (v35 < (p0.qJ.length:Int)) then(ZK p0.qJ v35).bind fun x38=>loop F (ZnI v35 ZmF x38) (v28,0) else loop F (ZjU p0) (v28,0))
def ZnJ (F:Nat) (p0:Zb):(List Int)×Int ->((List Int)×Int ->Option (List Int)) ->Option (List Int):=fun(v6,v13) ZiZ=>
 (bif decide (v13 < (p0.qK.length:Int)) then(ZK p0.qK v13).bind fun x16=>(app 8 v6 x16).bind fun z21=>ZiZ (z21,Y2 (v13 + 1)) else loop F (ZjV F p0) (v6,0))
def ZBe (F:Nat) (p0:Zb):Option (List Int):=
 loop F (ZnJ F p0) ([],0)
def ZhO (p0:Int) (p1:Int):Option Bool:=
 some ((decide (p0 >=0)) && (decide (p0 < p1)))
def ZjP (p0:Zb) (z8:(List Int)) (v22:(List (List Int))) (v56:(List (List ZA))) (v90:(List (List Zr))):Int×(List Zg) ->(Int×(List Zg) ->Option Zb) ->Option Zb:=fun(Zix,Zrv) ZtQ=>
 (bif decide (Zix < (p0.qG.length:Int)) then(ZK p0.qG Zix).bind fun Km=>(app 8 ([]:List Int) Km.qV).bind fun z138=>(app 8 ([]:List Int) Km.Yc).bind fun z143=>(app 128 Zrv [(Zg.mk Km.kind Km.ZX Km.ZV z138 z143 Km.place Km.at_ Km.age)]).bind fun z154=>ZtQ (Y2 (Zix + 1),z154) else some (Zb.mk z8 v22 v56 v90 Zrv p0.said))
def ZjQ (F:Nat) (p0:Zb) (z8:(List Int)) (v22:(List (List Int))) (v56:(List (List ZA))):Int×(List (List Zr)) ->(Int×(List (List Zr)) ->Option Zb) ->Option Zb:=fun(v88,v90) Zyf=>
 (bif decide (v88 < (p0.qJ.length:Int)) then(ZK p0.qJ v88).bind fun x96=>(app 40 ([]:List Zr) x96).bind fun ZG4=>(app 24 v90 [ZG4]).bind fun z109=>Zyf (Y2 (v88 + 1),z109) else loop F (ZjP p0 z8 v22 v56 v90) (0,[]))
def ZjR (F:Nat) (p0:Zb) (z8:(List Int)) (v22:(List (List Int))):Int×(List (List ZA)) ->(Int×(List (List ZA)) ->Option Zb) ->Option Zb:=fun(v54,v56) Zd6=>
 (bif decide (v54 < (p0.qQ.length:Int)) then(ZK p0.qQ v54).bind fun x62=>(app 24 ([]:List ZA) x62).bind fun z69=>(app 24 v56 [z69]).bind fun z75=>Zd6 (Y2 (v54 + 1),z75) else loop F (ZjQ F p0 z8 v22 v56) (0,[]))
def ZnH (F:Nat) (p0:Zb) (z8:(List Int)):Int×(List (List Int)) ->(Int×(List (List Int)) ->Option Zb) ->Option Zb:=fun(v20,v22) Zyq=>
 (bif decide (v20 < (p0.qK.length:Int)) then(ZK p0.qK v20).bind fun x28=>(app 8 ([]:List Int) x28).bind fun z35=>(app 24 v22 [z35]).bind fun z41=>Zyq (Y2 (v20 + 1),z41) else loop F (ZjR F p0 z8 v22) (0,[]))
def ZBb (F:Nat) (p0:Zb):Option Zb:=
 (app 8 ([]:List Int) p0.Zx).bind fun z8=>loop F (ZnH F p0 z8) (0,[])
def ZjO (v11:Int) (Qa:((List Int)×Int ->Option (List Int))):(List Int) ->Option (List Int):=fun v18=>
 Qa (v18,Y2 (v11 + 1))
def ZnF (p0:(List Int)) (p1:Int) (v11:Int) (Qa:((List Int)×Int ->Option (List Int))):(List Int)×Int×Int ->((List Int)×Int×Int ->Option (List Int)) ->Option (List Int):=fun(v29,v35,v37) Zyo=>
 (bif(((decide (v37 <= (p0.length:Int))) && (decide (v35 >=0))) && (decide (v35 < (p0.length:Int)))) then(bif(v35==p1) then(app 8 v29 [v11]).bind fun z44=>(ZjO v11 Qa) z44 else(ZK p0 v35).bind fun x48=>Zyo (v29,x48,Y2 (v37 + 1))) else(ZjO v11 Qa) v29)
def ZnG (F:Nat) (p0:(List Int)) (p1:Int):(List Int)×Int ->((List Int)×Int ->Option (List Int)) ->Option (List Int):=fun(v5,v11) Qa=>
 (bif decide (v11 < (p0.length:Int)) then loop F (ZnF p0 p1 v11 Qa) (v5,v11,0) else some v5)
def Zqi (F:Nat) (p0:(List Int)) (p1:Int):Option (List Int):=
 loop F (ZnG F p0 p1) ([],0)
def ZcU (p0:Zb) (z23:(List Zg)):(List Zv)×(List (List Int))×(List (List ZA))×(List (List Zr)) ->Option (Zb×(List Zv)):=fun(v30,v35,v37,v39)=>
 some ((Zb.mk p0.Zx v35 v37 v39 z23 p0.said),v30)
def Zgq (p0:Zb):(List Zv)×(List Zg)×(List (List Int))×(List (List Zr)) ->Option (Zb×(List Zv)):=fun(v43,v47,v51,v53)=>
 some ((Zb.mk p0.Zx v51 p0.qQ v53 v47 p0.said),v43)
def ZjL (p0:Zb):(List Zg) ->Option (Zb×(List Zv)):=fun ZkV=>
 (Zgq p0) ([],ZkV,p0.qK,p0.qJ)
def ZjK (WW:Int) (Kr:((List Zv)×(List Zr)×Int×(List (List Int)) ->Option (Zb×(List Zv)))):(List Zv)×(List Zr)×(List (List Int)) ->Option (Zb×(List Zv)):=fun(v226,v232,ZCG)=>
 Kr (v226,v232,Y2 (WW + 1),ZCG)
def ZnE (v201:(List Zv)) (ZeH:(List Zr)) (WW:Int) (Kr:((List Zv)×(List Zr)×Int×(List (List Int)) ->Option (Zb×(List Zv)))):(List Zv)×(List (List Int)) ->Option (Zb×(List Zv)):=fun(ZCF,ZCE)=>
 (app 40 v201 ZCF).bind fun ZGZ=>(ZjK WW Kr) (ZGZ,ZeH,ZCE)
def ZjM (x1:Zg) (Zad:(List (List ZA))) (v175:Int) (Zbc:(List (List Zr))) (Zh3:((List Zv)×Int×(List (List Int))×(List (List Zr)) ->Option (Zb×(List Zv)))) (ZkS:Int) (Zrk:(List Zr)):(List Zv)×(List Zr)×Int×(List (List Int)) ->((List Zv)×(List Zr)×Int×(List (List Int)) ->Option (Zb×(List Zv))) ->Option (Zb×(List Zv)):=fun(v201,ZeH,WW,ZoV) Kr=>
 (bif decide (WW < (Zrk.length:Int)) then(ZK Zrk WW).bind fun U1=>(bif(U1.place==ZkS) then(ZK Zad x1.ZX).bind fun ZLL=>(ZK ZLL U1.place).bind fun Zw2=>(bif Zw2.here then(ZK ZoV U1.place).bind fun ZLJ=>(app 8 ZLJ [U1.msg]).bind fun ZCt=>(ZK ZoV U1.place).bind fun ZR7=>(ZnE v201 ZeH WW Kr) ([(Zv.mk 1 U1.place x1.ZX U1.msg U1.hops)],Yl ZoV U1.place ZCt) else none) else(app 40 ZeH [U1]).bind fun ZGY=>(ZjK WW Kr) (v201,ZGY,ZoV)) else(ZK Zbc x1.ZX).bind fun ZR5=>Zh3 (v201,Y2 (v175 + 1),ZoV,Yl Zbc x1.ZX ZeH))
def Zgr (F:Nat) (p0:Zb) (x1:Zg) (z23:(List Zg)) (Zad:(List (List ZA))):(List Zv)×Int×(List (List Int))×(List (List Zr)) ->((List Zv)×Int×(List (List Int))×(List (List Zr)) ->Option (Zb×(List Zv))) ->Option (Zb×(List Zv)):=fun(v168,v175,ZaI,Zbc) Zh3=>
 (bif decide (v175 < (x1.qV.length:Int)) then(ZK x1.qV v175).bind fun ZkS=>(app 40 v168 [(Zv.mk 3 ZkS x1.ZX 0 0)]).bind fun ZG2=>(ZK Zbc x1.ZX).bind fun Zrk=>loop F (ZjM x1 Zad v175 Zbc Zh3 ZkS Zrk) (ZG2,[],0,ZaI) else(ZcU p0 z23) (v168,ZaI,Zad,Zbc))
def ZjN (F:Nat) (p0:Zb) (x1:Zg) (z23:(List Zg)):Int×(List (List ZA)) ->(Int×(List (List ZA)) ->Option (Zb×(List Zv))) ->Option (Zb×(List Zv)):=fun(Zru,Zad) Ze1=>
 (bif decide (Zru < (x1.qV.length:Int)) then(ZK x1.qV Zru).bind fun Zar=>(ZK Zad x1.ZX).bind fun ZHb=>(ZK x1.Yc Zru).bind fun Zmh=>(ZK ZHb Zar).bind fun x157=>Ze1 (Y2 (Zru + 1),Yl Zad x1.ZX (Yl ZHb Zar (ZA.mk true x1.ZX Zmh))) else loop F (Zgr F p0 x1 z23 Zad) ([],0,p0.qK,p0.qJ))
def ZBa (F:Nat) (p0:Zb) (p1:Int):Option (Zb×(List Zv)):=
 (ZK p0.qG p1).bind fun x1=>(slL p0.qG 0 p1).bind fun z11=>(app 128 ([]:List Zg) z11).bind fun z15=>(slL p0.qG (Y2 (p1 + 1)) (p0.qG.length:Int)).bind fun z19=>(app 128 z15 z19).bind fun z23=>(bif(x1.kind==1) then(ZK p0.qQ x1.ZX).bind fun x57=>(ZK x57 x1.ZV.place).bind fun x63=>(bif x63.here then(ZK p0.qK x1.ZV.place).bind fun x73=>(app 8 x73 [x1.ZV.msg]).bind fun z81=>(ZK p0.qK x1.ZV.place).bind fun x85=>(Zgq p0) ([(Zv.mk 1 x1.ZV.place x1.ZX x1.ZV.msg x1.ZV.hops)],z23,Yl p0.qK x1.ZV.place z81,p0.qJ) else(bif((!false) && (decide (x63.age <=x1.ZV.age))) then(ZK p0.qJ x1.ZX).bind fun x94=>(app 40 x94 [x1.ZV]).bind fun ZCy=>(ZK p0.qJ x1.ZX).bind fun ZSd=>(Zgq p0) ([],z23,p0.qK,Yl p0.qJ x1.ZX ZCy) else(app 128 z23 ([(Zg.mk 1 x63.ZX (Zr.mk x1.ZV.msg x1.ZV.place x1.ZV.from_ x63.age (Y2 (x1.ZV.hops + 1))) [] [] 0 0 0)])).bind fun Zu8=>(bif(((!false) && (x1.ZV.from_ !=x1.ZX)) && (x1.ZV.from_ !=x63.ZX)) then(app 128 Zu8 ([(Zg.mk 3 x1.ZV.from_ (Zr.mk 0 0 0 0 0) [] [] x1.ZV.place x63.ZX x63.age)])).bind fun ZwX=>(ZjL p0) ZwX else(ZjL p0) Zu8))) else(bif(x1.kind==2) then loop F (ZjN F p0 x1 z23) (0,p0.qQ) else(bif(x1.kind==3) then(ZK p0.qQ x1.ZX).bind fun ZLI=>(ZK ZLI x1.place).bind fun Zvb=>(bif((!Zvb.here) && (decide (Zvb.age < x1.age))) then(ZK p0.qQ x1.ZX).bind fun ZG6=>(ZK ZG6 x1.place).bind fun ZR4=>(ZcU p0 z23) ([],p0.qK,Yl p0.qQ x1.ZX (Yl ZG6 x1.place (ZA.mk false x1.at_ x1.age)),p0.qJ) else(ZcU p0 z23) ([],p0.qK,p0.qQ,p0.qJ)) else(ZcU p0 z23) ([],p0.qK,p0.qQ,p0.qJ))))
end Go.Proofs.YtbmbbcaaimehkaaGreat
end
section
set_option maxRecDepth 20000
set_option maxHeartbeats 4000000
noncomputable section
namespace Go.Proofs.YtbmbbcaaimehkaaGreat
open Go.YR Go.Lf
theorem ZKj {F wm h} {p0:Zb} {Zi Zh Zm Zl Zk Zj Zo Zn Zq Zp} {r} (Z0:wm <=h.size) (ZB:Sl (Zt .i64) wm h Zi Zh p0.Zx) (ZM:Sl (ZN (Zt .i64)) wm h Zm Zl p0.qK) (ZF:Sl (ZN Zc) wm h Zk Zj p0.qQ) (ZL:Sl (ZN Ze) wm h Zo Zn p0.qJ) (ZI:Sl Zd wm h Zq Zp p0.qG) (hL:ZBe F p0=some r):
 WR XX 55 #[.agg [.slice Zi p0.Zx.length Zh,.slice Zm p0.qK.length Zl,.slice Zk p0.qQ.length Zj,.slice Zo p0.qJ.length Zn,.slice Zq p0.qG.length Zp,.int .i64 p0.said].toArray] wm h (CP (fun(v:Value) (Gb:List (Ast wm))=>∃ Xq Xo Xp,v= .slice Xq Xo Xp∧Gb= [ow wm (Zt .i64) Xq Xo Xp r]) [] h):=by
 refine bg Tryz.ntmps55 Z0 Yd.nil ?_;intro T hT hS;unfold ZBe at hL;refine r3 ?_;rintro _ h2 ⟨b1,eb1,rfl,hS⟩;refine r16 ?_;refine r2 ?_;have hS:=hS.nil (e:= (Zt .i64));refine WC.loop (WL.lift hL (fun p s=>match p with | (v6,v13)=>∃ fr4 h3 a7 c8 n9,s= ⟨fr4,[],h3,none⟩∧Sp wm T h [ow wm (Zt .i64) a7 n9 c8 v6,bx wm b1 (cW p0 Zi Zh Zm Zl Zk Zj Zo Zn Zq Zp)] h3∧fr4.at 1= .pointer (some ⟨b1,0,none⟩)∧fr4.at 3= .slice a7 n9 c8∧fr4.at 13= .slice Zm p0.qK.length Zl∧fr4.at 14= .int .i64 (p0.qK.length:Int)∧fr4.at 15= .int .i64 v13) ⟨_,_,none,0,0,rfl,hS.only sl,Yv⟩ ?_);clear hL hS;rintro ZiZ ⟨v6,v13⟩ s Znf hL ⟨fr4,h3,a7,c8,n9,rfl,hS,e5,e10,e11,e12,e14⟩;obtain rfl:=hS.on k0;dsimp only [ZnJ] at hL;refine r6 ?_;refine cn hL ?_ ?_
 ·intro hc hL;refine r6 ?_;obtain⟨x16,hx16,hL⟩:=qZ hL;obtain⟨b17,o18,⟨a19,c20⟩,ZOK,ZGB,ZGq,Zuu⟩:=Sl.at_ ZM hx16;refine r1 ?_;have Zuf:Sl (Zt .i64) wm h a19 c20 x16:=Zuu;refine r7 ?_;obtain⟨z21,ZS7,hL⟩:=qZ hL;refine WO.hv gN rfl (XY (e:= (Zt .i64)) hS k0 Xk lk lk (Sl.src (hS.sl Zuf)) rfl ZS7) ?_;rintro _ h24 ⟨a22,c23,rfl,hS⟩;refine r8 ?_;exact Ya.YU (Znf _ _ hL ⟨_,_,a22,c23,z21.length,rfl,hS.only sl,Yv⟩)
 ·intro hc hL;refine r15 ?_;refine WC.loop (WL.lift hL (fun p s=>match p with | (v28,v35)=>∃ WY h25 a29 c30 n31,s= ⟨WY,[],h25,none⟩∧Sp wm T h [ow wm (Zt .i64) a29 n31 c30 v28,bx wm b1 (cW p0 Zi Zh Zm Zl Zk Zj Zo Zn Zq Zp)] h25∧WY.at 1= .pointer (some ⟨b1,0,none⟩)∧WY.at 3= .slice a29 n31 c30∧WY.at 24= .slice Zo p0.qJ.length Zn∧WY.at 25= .int .i64 (p0.qJ.length:Int)∧WY.at 26= .int .i64 v35) ⟨_,_,a7,c8,v6.length,rfl,hS.only sl,Yv⟩ ?_);clear hL hS;rintro ZmF ⟨v28,v35⟩ s ZDI hL ⟨WY,h25,a29,c30,n31,rfl,hS,e27,e32,e33,e34,e36⟩;obtain rfl:=hS.on k0;dsimp only [ZjV] at hL;refine r6 ?_;refine cn hL ?_ ?_
  ·intro hc hL;refine r6 ?_;obtain⟨x38,hx38,hL⟩:=qZ hL;obtain⟨b39,o40,⟨a41,c42⟩,ZOG,ZPF,ZPo,ZAa⟩:=Sl.at_ ZL hx38;refine r1 ?_;have ZFV:Sl Ze wm h a41 c42 x38:=ZAa;refine WG ?_;refine WC.loop (WL.lift hL (fun p s=>match p with | (v46,v56)=>∃ Zk8 h43 a47 c48 n49,s= ⟨Zk8,[],h43,none⟩∧Sp wm T h [ow wm (Zt .i64) a47 n49 c48 v46,bx wm b1 (cW p0 Zi Zh Zm Zl Zk Zj Zo Zn Zq Zp)] h43∧Zk8.at 1= .pointer (some ⟨b1,0,none⟩)∧Zk8.at 3= .slice a47 n49 c48∧Zk8.at 24= .slice Zo p0.qJ.length Zn∧Zk8.at 25= .int .i64 (p0.qJ.length:Int)∧Zk8.at 26= .int .i64 v35∧Zk8.at 30= .slice a41 x38.length c42∧Zk8.at 31= .int .i64 (x38.length:Int)∧Zk8.at 32= .int .i64 v56) ⟨_,_,a29,c30,v28.length,rfl,hS.only sl,Yv⟩ ?_);clear hL hS;rintro ZiV ⟨v46,v56⟩ s Zm9 hL ⟨Zk8,h43,a47,c48,n49,rfl,hS,e45,e50,e51,e52,e53,e54,e55,e57⟩;obtain rfl:=hS.on k0;dsimp only [ZnI] at hL;refine r6 ?_;refine cn hL ?_ ?_
   ·intro hc hL;refine r6 ?_;obtain⟨x59,ZyM,hL⟩:=qZ hL;obtain⟨b60,o61,_,ZOA,ZGv,ZGn,ZGh⟩:=Sl.at_ ZFV ZyM;refine r1 ?_;refine WO.w gN rfl (YK Zfz Js (YF fh rfl) (At.fz hS.fz ZGn ZGv) (j:=0) rfl rfl (ws:= (cM x59)) rfl) ?_;refine r1 ?_;rintro _ h63 ⟨b62,Z4x,rfl,hS⟩;refine r1 ?_;rintro h64 hS;refine r6 ?_;refine WO.hn gN rfl (Q8 (e:= (Zt .i64)) hS XP XE Kb rfl rfl rfl (Zu lk ZT) rfl [((),x59.msg)] rfl (xs:= [x59.msg]) rfl (by intro q hq;simp only [List.mem_cons,List.not_mem_nil,or_false] at hq;subst hq;exact trivial) rfl) ?_;rintro _ h66 ⟨b65,Z4u,rfl,hS⟩;obtain⟨z67,ZSX,hL⟩:=qZ hL;refine WO.hv gN rfl (XY (e:= (Zt .i64)) hS k2 Xk lk lk (hS.Xj k0) (hS.on k0) ZSX) ?_;rintro _ h70 ⟨a68,c69,rfl,hS⟩;refine r8 ?_;exact Ya.YU (Zm9 _ _ hL ⟨_,_,a68,c69,z67.length,rfl,hS.only sl,Yv⟩)
   ·intro hc hL;refine r10 ?_;exact Ya.YU (ZDI _ _ hL ⟨_,_,a47,c48,v46.length,rfl,hS.only sl,Yv⟩)
  ·intro hc hL;refine r15 ?_;refine WC.loop (WL.lift hL (fun p s=>match p with | (v73,v80)=>∃ Zv4 h71 a74 c75 n76,s= ⟨Zv4,[],h71,none⟩∧Sp wm T h [ow wm (Zt .i64) a74 n76 c75 v73] h71∧Zv4.at 3= .slice a74 n76 c75∧Zv4.at 44= .slice Zq p0.qG.length Zp∧Zv4.at 45= .int .i64 (p0.qG.length:Int)∧Zv4.at 46= .int .i64 v80) ⟨_,_,a29,c30,v28.length,rfl,hS.only sl,Yv⟩ ?_);clear hL hS;rintro KU ⟨v73,v80⟩ s Zm7 hL ⟨Zv4,h71,a74,c75,n76,rfl,hS,e77,e78,e79,e81⟩;obtain rfl:=hS.on k0;dsimp only [ZjU] at hL;refine r6 ?_;refine cn hL ?_ ?_
   ·intro hc hL;refine r2 ?_;refine WC.Zae (r:=r) (fun(v85:(List Int)) s=>∃ Zv2 h83 a86 c87 n88,s= ⟨Zv2,[],h83,none⟩∧Sp wm T h [ow wm (Zt .i64) a86 n88 c87 v85] h83∧Zv2.at 3= .slice a86 n88 c87∧Zv2.at 44= .slice Zq p0.qG.length Zp∧Zv2.at 45= .int .i64 (p0.qG.length:Int)∧Zv2.at 46= .int .i64 v80) (ZjT v80 KU) ?_ ?_
    ·clear hL hS;rintro v85 s hL ⟨Zv2,h83,a86,c87,n88,rfl,hS,e89,e90,e91,e92⟩;obtain rfl:=hS.on k0;dsimp only [ZjT] at hL;refine r4 ?_;exact Ya.YU (Zm7 _ _ hL ⟨_,_,a86,c87,v85.length,rfl,hS.only sl,Yv⟩)
    ·skip;refine r3 ?_;obtain⟨x93,hx93,hL⟩:=qZ hL;obtain⟨b94,o95,⟨⟨a96,c97⟩,⟨a98,c99⟩⟩,ZGa,Zuy,Zuv,Zjj⟩:=Sl.at_ ZI hx93;refine r1 ?_;have ZFT:Sl (Zt .i64) wm h a96 c97 x93.qV:=Zjj.1;have ZNv:Sl (Zt .i64) wm h a98 c99 x93.Yc:=Zjj.2;refine WO.w gN rfl (YK WS Xf (YF fh rfl) (At.fz hS.fz Zuv Zuy) (j:=0) rfl rfl (ws:= (cL x93 a96 c97 a98 c99)) rfl) ?_;refine r1 ?_;rintro _ Zp5 ⟨ZbV,ZBq,rfl,hS⟩;refine r1 ?_;rintro ZVJ hS;refine r9 ?_;refine cn hL ?_ ?_
     ·intro hc hL;refine r5 ?_;refine WO.hn gN rfl (Q8 (e:= (Zt .i64)) hS XP XE Kb rfl rfl rfl (Zu lk ZT) rfl [((),x93.ZV.msg)] rfl (xs:= [x93.ZV.msg]) rfl (by intro q hq;simp only [List.mem_cons,List.not_mem_nil,or_false] at hq;subst hq;exact trivial) rfl) ?_;rintro _ ZP3 ⟨ZW2,ZQi,rfl,hS⟩;obtain⟨z105,ZyK,hL⟩:=qZ hL;refine WO.hv gN rfl (XY (e:= (Zt .i64)) hS k2 Xk lk lk (hS.Xj k0) (hS.on k0) ZyK) ?_;rintro _ ZJO ⟨ZLj,c107,rfl,hS⟩;refine r3 ?_;exact YT.YU _ hL ⟨_,_,ZLj,c107,z105.length,rfl,hS.only sl,Yv⟩
     ·intro hc hL;refine r2 ?_;exact YT.YU _ hL ⟨_,_,a74,c75,v73.length,rfl,hS.only sl,Yv⟩
   ·intro hc hL;refine WG ?_;have hr:=Oi0 hL;subst hr;exact Yk.XF rfl (ZU lk ZE) ⟨_,⟨a74,v73.length,c75,rfl,rfl⟩,hT ▸ hS.only sl⟩
theorem ZKi {wm h} {p0 p1:Int} {r} (Z0:wm <=h.size) (hL:ZhO p0 p1=some r):
 WR XX 56 #[.int .i64 p0,.int .i64 p1] wm h (CP (fun(v:Value) (Gb:List (Ast wm))=>v= .bool r∧Gb= []) [] h):=by
 refine bg Tryz.ntmps56 Z0 Yd.nil ?_;intro T hT hS;unfold ZhO at hL;refine r16 ?_;refine r2 ?_;exact rt hL hT hS
theorem Zeg {h} {p0 p1:Int} {r} (hL:ZhO p0 p1=some r):Pure XX 56 #[.int .i64 p0,.int .i64 p1] h (.bool r):=
 WR.X9 rfl (ZKi (Nat.le_refl _) hL)
theorem ZKf {F wm h} {p0:Zb} {Zi Zh Zm Zl Zk Zj Zo Zn Zq Zp} {r} (Z0:wm <=h.size) (ZB:Sl (Zt .i64) wm h Zi Zh p0.Zx) (ZM:Sl (ZN (Zt .i64)) wm h Zm Zl p0.qK) (ZF:Sl (ZN Zc) wm h Zk Zj p0.qQ) (ZL:Sl (ZN Ze) wm h Zo Zn p0.qJ) (ZI:Sl Zd wm h Zq Zp p0.qG) (hL:ZBb F p0=some r):
 WR XX 59 #[.agg [.slice Zi p0.Zx.length Zh,.slice Zm p0.qK.length Zl,.slice Zk p0.qQ.length Zj,.slice Zo p0.qJ.length Zn,.slice Zq p0.qG.length Zp,.int .i64 p0.said].toArray] wm h (CP (fun(v:Value) (Gb:List (Ast wm))=>∃ Xq Xo Xp Zcq Zcf Zcm Zbn Zcp Zce Zcl Zbm Zco Zcd Zck Zbl Zcn Zcc Zcj,v= .agg [.slice Xq Xo Xp,.slice Zcq Zcf Zcm,.slice Zcp Zce Zcl,.slice Zco Zcd Zck,.slice Zcn Zcc Zcj,.int .i64 r.said].toArray∧Gb= [ow wm (Zt .i64) Xq Xo Xp r.Zx,YG wm (ZP (Zt .i64)) Zcq Zcf Zcm Zbn r.qK,YG wm (ZP Zc) Zcp Zce Zcl Zbm r.qQ,YG wm (ZP Ze) Zco Zcd Zck Zbl r.qJ,ow wm Zd Zcn Zcc Zcj r.qG]) [] h):=by
 refine bg Tryz.ntmps59 Z0 Yd.nil ?_;intro T hT hS;unfold ZBb at hL;refine r3 ?_;rintro _ h2 ⟨b1,eb1,rfl,hS⟩;refine r1 ?_;rintro _ h4 ⟨b3,eb3,rfl,hS⟩;refine r6 ?_;refine WO.w gN rfl (YS Zkr (Zu lk ZT) rfl (cs':= (cV none 0 0 none 0 0 none 0 0 none 0 0 none 0 0 p0.said)) rfl) ?_;refine r1 ?_;rintro _ h6 ⟨b5,eb5,rfl,hS⟩;refine r1 ?_;rintro h7 hS;refine r8 ?_;obtain⟨z8,hz8,hL⟩:=qZ hL;have hS:=hS.nil (e:= (Zt .i64));refine WO.hv gN rfl (XY (e:= (Zt .i64)) hS k0 Xk lk lk (Sl.src (hS.sl ZB)) rfl hz8) ?_;rintro _ h11 ⟨a9,c10,rfl,hS⟩;refine r2 ?_;rintro h12 hS;refine WG ?_;have hS:=hS.ZbR (e:= (ZP (Zt .i64))) (ps:=fun _=>(ZP (Zt .i64)).dflt);refine WC.loop (WL.lift hL (fun p s=>match p with | (v20,v22)=>∃ Zaj h13 a23 c24 n25 ZvC,s= ⟨Zaj,[],h13,none⟩∧Sp wm T h [bx wm b1 (cW p0 Zi Zh Zm Zl Zk Zj Zo Zn Zq Zp),bx wm b3 (cV none 0 0 none 0 0 none 0 0 none 0 0 none 0 0 0),YG wm (ZP (Zt .i64)) a23 n25 c24 ZvC v22,bx wm b5 (cV a9 z8.length c10 a23 n25 c24 none 0 0 none 0 0 none 0 0 p0.said),ow wm (Zt .i64) a9 z8.length c10 z8] h13∧Zaj.at 1= .pointer (some ⟨b1,0,none⟩)∧Zaj.at 2= .pointer (some ⟨b3,0,none⟩)∧Zaj.at 3= .pointer (some ⟨b5,0,none⟩)∧Zaj.at 22= .slice Zm p0.qK.length Zl∧Zaj.at 23= .int .i64 (p0.qK.length:Int)∧Zaj.at 24= .int .i64 v20) ⟨_,_,none,0,0,(fun _=>(ZP (Zt .i64)).dflt),rfl,hS.only sl,Yv⟩ ?_);clear hL hS;rintro Zyq ⟨v20,v22⟩ s ZDL hL ⟨Zaj,h13,a23,c24,n25,ZvC,rfl,hS,e15,e16,e17,e18,e19,e21⟩;obtain rfl:=hS.YP k2;dsimp only [ZnH] at hL;refine r6 ?_;refine cn hL ?_ ?_
 ·intro hc hL;refine r6 ?_;obtain⟨x28,hx28,hL⟩:=qZ hL;obtain⟨b29,o30,⟨a31,c32⟩,ZYG,ZZA,ZZj,ZO3⟩:=Sl.at_ ZM hx28;refine r1 ?_;have ZNE:Sl (Zt .i64) wm h a31 c32 x28:=ZO3;refine r4 ?_;refine WC.YD mixed Kq0 ?_;refine r1 ?_;refine WX.wr (fun x=>x=b5) hS gN rfl (fun _ _ hR=>Y4 Zky (YF fh rfl) (At.eqv (hR b5 rfl) (hS.KC k3)) (j:=1) rfl (v:= .slice a23 v22.length c24) rfl) ?_ rfl rfl;rintro h33 e34 hS;refine r1 ?_;obtain⟨z35,ZS4,hL⟩:=qZ hL;have hS:=hS.nil (e:= (Zt .i64));refine WX.hv0 gN rfl (XY (e:= (Zt .i64)) hS k0 Xk lk lk (Sl.src (hS.sl ZNE)) rfl ZS4) (fun _ z=>Zh2 z) ?_ rfl rfl;rintro _ h38 ⟨a36,c37,rfl,hS⟩;refine WX.hn gN rfl (ZlE (e:= (Zt .i64)) (x:=z35) hS k0 Zg4 Uf Zrg rfl rfl (Zu lk ZT) rfl rfl) ?_ rfl;rintro _ h40 ⟨b39,ZVU,rfl,hS⟩;obtain⟨z41,ZS2,hL⟩:=qZ hL;refine WX.hv gN rfl (ZlF (e:= (ZP (Zt .i64))) hS (.c k3 (.c k0 .n)) ZqQ lk lk ZS2) ?_ rfl rfl [] Kq0 Yg.e;rintro _ h45 ⟨a42,c43,ZSE,rfl,hS⟩;refine WX.w gN rfl (Qd ZuI lk) ?_ Kq0;refine WX.hu gN (Ug hS k3 Zxy lk lk (vs:= [.slice a42 z41.length c43]) rfl rfl rfl rfl (cs':= (cV a9 z8.length c10 a42 z41.length c43 none 0 0 none 0 0 none 0 0 p0.said)) rfl) ?_ rfl Kq0 [] Kq0 Yg.e;rintro h46 hS;refine r7 ?_;exact Ya.YU (ZDL _ _ hL ⟨_,_,a42,c43,z41.length,ZSE,rfl,hS.only sl,Yv⟩)
 ·intro hc hL;refine r15 ?_;have hS:=hS.ZbR (e:= (ZP Zc)) (ps:=fun _=>(ZP Zc).dflt);refine WC.loop (WL.lift hL (fun p s=>match p with | (v54,v56)=>∃ Zqa h47 a57 c58 n59 ZxW,s= ⟨Zqa,[],h47,none⟩∧Sp wm T h [bx wm b1 (cW p0 Zi Zh Zm Zl Zk Zj Zo Zn Zq Zp),bx wm b3 (cV none 0 0 none 0 0 none 0 0 none 0 0 none 0 0 0),YG wm (ZP Zc) a57 n59 c58 ZxW v56,bx wm b5 (cV a9 z8.length c10 a23 v22.length c24 a57 n59 c58 none 0 0 none 0 0 p0.said),ow wm (Zt .i64) a9 z8.length c10 z8,YG wm (ZP (Zt .i64)) a23 v22.length c24 ZvC v22] h47∧Zqa.at 1= .pointer (some ⟨b1,0,none⟩)∧Zqa.at 2= .pointer (some ⟨b3,0,none⟩)∧Zqa.at 3= .pointer (some ⟨b5,0,none⟩)∧Zqa.at 37= .slice Zk p0.qQ.length Zj∧Zqa.at 38= .int .i64 (p0.qQ.length:Int)∧Zqa.at 39= .int .i64 v54) ⟨_,_,none,0,0,(fun _=>(ZP Zc).dflt),rfl,hS.only sl,Yv⟩ ?_);clear hL hS;rintro Zd6 ⟨v54,v56⟩ s Zm8 hL ⟨Zqa,h47,a57,c58,n59,ZxW,rfl,hS,e49,e50,e51,e52,e53,e55⟩;obtain rfl:=hS.YP k2;dsimp only [ZjR] at hL;refine r6 ?_;refine cn hL ?_ ?_
  ·intro hc hL;refine r6 ?_;obtain⟨x62,ZyL,hL⟩:=qZ hL;obtain⟨b63,o64,⟨a65,c66⟩,ZOz,ZPx,ZPg,Zz9⟩:=Sl.at_ ZF ZyL;refine r1 ?_;have Zzc:Sl Zc wm h a65 c66 x62:=Zz9;refine r4 ?_;refine WC.YD mixed Kq0 ?_;refine r1 ?_;refine WX.wr (fun x=>x=b5) hS gN rfl (fun _ _ hR=>Y4 ZqV (YF fh rfl) (At.eqv (hR b5 rfl) (hS.KC k3)) (j:=2) rfl (v:= .slice a57 v56.length c58) rfl) ?_ rfl rfl;rintro h67 e68 hS;refine r1 ?_;obtain⟨z69,ZSW,hL⟩:=qZ hL;have hS:=hS.nil (e:=Zc);refine WX.hv0 gN rfl (XY (e:=Zc) hS k0 ZqN lk lk (Sl.src (hS.sl Zzc)) rfl ZSW) (fun _ z=>Zh2 z) ?_ rfl rfl;rintro _ h72 ⟨a70,c71,rfl,hS⟩;refine WX.hn gN rfl (ZlE (e:=Zc) (x:=z69) hS k0 ZeM Zbf Zre rfl rfl (Zu lk ZT) rfl rfl) ?_ rfl;rintro _ h74 ⟨b73,ZVR,rfl,hS⟩;obtain⟨z75,ZHV,hL⟩:=qZ hL;refine WX.hv gN rfl (ZlF (e:= (ZP Zc)) hS (.c k3 (.c k0 .n)) ZqP lk lk ZHV) ?_ rfl rfl [] Kq0 Yg.e;rintro _ h79 ⟨a76,c77,ZHy,rfl,hS⟩;refine WX.w gN rfl (Qd ZuH lk) ?_ Kq0;refine WX.hu gN (Ug hS k3 Zxx lk lk (vs:= [.slice a76 z75.length c77]) rfl rfl rfl rfl (cs':= (cV a9 z8.length c10 a23 v22.length c24 a76 z75.length c77 none 0 0 none 0 0 p0.said)) rfl) ?_ rfl Kq0 [] Kq0 Yg.e;rintro h80 hS;refine r7 ?_;exact Ya.YU (Zm8 _ _ hL ⟨_,_,a76,c77,z75.length,ZHy,rfl,hS.only sl,Yv⟩)
  ·intro hc hL;refine r15 ?_;have hS:=hS.ZbR (e:= (ZP Ze)) (ps:=fun _=>(ZP Ze).dflt);refine WC.loop (WL.lift hL (fun p s=>match p with | (v88,v90)=>∃ Zp9 h81 a91 c92 n93 ZC1,s= ⟨Zp9,[],h81,none⟩∧Sp wm T h [bx wm b1 (cW p0 Zi Zh Zm Zl Zk Zj Zo Zn Zq Zp),bx wm b3 (cV none 0 0 none 0 0 none 0 0 none 0 0 none 0 0 0),YG wm (ZP Ze) a91 n93 c92 ZC1 v90,bx wm b5 (cV a9 z8.length c10 a23 v22.length c24 a57 v56.length c58 a91 n93 c92 none 0 0 p0.said),ow wm (Zt .i64) a9 z8.length c10 z8,YG wm (ZP (Zt .i64)) a23 v22.length c24 ZvC v22,YG wm (ZP Zc) a57 v56.length c58 ZxW v56] h81∧Zp9.at 1= .pointer (some ⟨b1,0,none⟩)∧Zp9.at 2= .pointer (some ⟨b3,0,none⟩)∧Zp9.at 3= .pointer (some ⟨b5,0,none⟩)∧Zp9.at 52= .slice Zo p0.qJ.length Zn∧Zp9.at 53= .int .i64 (p0.qJ.length:Int)∧Zp9.at 54= .int .i64 v88) ⟨_,_,none,0,0,(fun _=>(ZP Ze).dflt),rfl,hS.only sl,Yv⟩ ?_);clear hL hS;rintro Zyf ⟨v88,v90⟩ s ZDr hL ⟨Zp9,h81,a91,c92,n93,ZC1,rfl,hS,e83,e84,e85,e86,e87,e89⟩;obtain rfl:=hS.YP k2;dsimp only [ZjQ] at hL;refine r6 ?_;refine cn hL ?_ ?_
   ·intro hc hL;refine r6 ?_;obtain⟨x96,hx96,hL⟩:=qZ hL;obtain⟨b97,o98,⟨a99,ZWF⟩,ZYw,ZZs,ZZa,ZOQ⟩:=Sl.at_ ZL hx96;refine r1 ?_;have ZNu:Sl Ze wm h a99 ZWF x96:=ZOQ;refine r4 ?_;refine WC.YD mixed Kq0 ?_;refine r1 ?_;refine WX.wr (fun x=>x=b5) hS gN rfl (fun _ _ hR=>Y4 Zkx (YF fh rfl) (At.eqv (hR b5 rfl) (hS.KC k3)) (j:=3) rfl (v:= .slice a91 v90.length c92) rfl) ?_ rfl rfl;rintro Zp5 ZKN hS;refine r1 ?_;obtain⟨ZG4,ZM3,hL⟩:=qZ hL;have hS:=hS.nil (e:=Ze);refine WX.hv0 gN rfl (XY (e:=Ze) hS k0 K8 lk lk (Sl.src (hS.sl ZNu)) rfl ZM3) (fun _ z=>Zh2 z) ?_ rfl rfl;rintro _ ZAC ⟨Z69,c105,rfl,hS⟩;refine WX.hn gN rfl (ZlE (e:=Ze) (x:=ZG4) hS k0 ZeL Ue Zrd rfl rfl (Zu lk ZT) rfl rfl) ?_ rfl;rintro _ ZJO ⟨Z60,Z0D,rfl,hS⟩;obtain⟨z109,ZM1,hL⟩:=qZ hL;refine WX.hv gN rfl (ZlF (e:= (ZP Ze)) hS (.c k3 (.c k0 .n)) ZqO lk lk ZM1) ?_ rfl rfl [] Kq0 Yg.e;rintro _ ZVH ⟨ZwI,Zws,ZMu,rfl,hS⟩;refine WX.w gN rfl (Qd ZuG lk) ?_ Kq0;refine WX.hu gN (Ug hS k3 Zxw lk lk (vs:= [.slice ZwI z109.length Zws]) rfl rfl rfl rfl (cs':= (cV a9 z8.length c10 a23 v22.length c24 a57 v56.length c58 ZwI z109.length Zws none 0 0 p0.said)) rfl) ?_ rfl Kq0 [] Kq0 Yg.e;rintro ZP2 hS;refine r7 ?_;exact Ya.YU (ZDr _ _ hL ⟨_,_,ZwI,Zws,z109.length,ZMu,rfl,hS.only sl,Yv⟩)
   ·intro hc hL;refine r15 ?_;have hS:=hS.nil (e:=Zd);refine WC.loop (WL.lift hL (fun p s=>match p with | (Zix,Zrv)=>∃ Zjq ZJN a124 ZBH n126,s= ⟨Zjq,[],ZJN,none⟩∧Sp wm T h [bx wm b3 (cV none 0 0 none 0 0 none 0 0 none 0 0 none 0 0 0),ow wm Zd a124 n126 ZBH Zrv,bx wm b5 (cV a9 z8.length c10 a23 v22.length c24 a57 v56.length c58 a91 v90.length c92 a124 n126 ZBH p0.said),ow wm (Zt .i64) a9 z8.length c10 z8,YG wm (ZP (Zt .i64)) a23 v22.length c24 ZvC v22,YG wm (ZP Zc) a57 v56.length c58 ZxW v56,YG wm (ZP Ze) a91 v90.length c92 ZC1 v90] ZJN∧Zjq.at 2= .pointer (some ⟨b3,0,none⟩)∧Zjq.at 3= .pointer (some ⟨b5,0,none⟩)∧Zjq.at 67= .slice Zq p0.qG.length Zp∧Zjq.at 68= .int .i64 (p0.qG.length:Int)∧Zjq.at 69= .int .i64 Zix) ⟨_,_,none,0,0,rfl,hS.only sl,Yv⟩ ?_);clear hL hS;rintro ZtQ ⟨Zix,Zrv⟩ s Zzs hL ⟨Zjq,ZJN,a124,ZBH,n126,rfl,hS,e117,e118,e119,e120,ZWh⟩;obtain rfl:=hS.on k1;dsimp only [ZjP] at hL;refine r6 ?_;refine cn hL ?_ ?_
    ·intro hc hL;refine r6 ?_;obtain⟨Km,hx128,hL⟩:=qZ hL;obtain⟨Z6R,Z2e,⟨⟨a131,ZqD⟩,⟨ZRf,ZQJ⟩⟩,ZT7,ZJx,ZI8,ZAd⟩:=Sl.at_ ZI hx128;refine r1 ?_;have ZId:Sl (Zt .i64) wm h a131 ZqD Km.qV:=ZAd.1;have ZIc:Sl (Zt .i64) wm h ZRf ZQJ Km.Yc:=ZAd.2;refine WO.w gN rfl (YK WS Xf (YF fh rfl) (At.fz hS.fz ZI8 ZJx) (j:=0) rfl rfl (ws:= (cL Km a131 ZqD ZRf ZQJ)) rfl) ?_;refine r1 ?_;rintro _ ZAA ⟨UI,ZQh,rfl,hS⟩;refine r1 ?_;rintro Z36 hS;refine r6 ?_;obtain⟨z138,ZMW,hL⟩:=qZ hL;have hS:=hS.nil (e:= (Zt .i64));refine WO.hv gN rfl (XY (e:= (Zt .i64)) hS k0 Xk lk lk (Sl.src (hS.sl ZId)) rfl ZMW) ?_;rintro _ ZPZ ⟨a139,ZqC,rfl,hS⟩;refine r2 ?_;rintro ZAz hS;refine r6 ?_;obtain⟨z143,ZMU,hL⟩:=qZ hL;have hS:=hS.nil (e:= (Zt .i64));refine WO.hv gN rfl (XY (e:= (Zt .i64)) hS k0 Xk lk lk (Sl.src (hS.sl ZIc)) rfl ZMU) ?_;rintro _ ZVB ⟨ZXp,c145,rfl,hS⟩;refine r2 ?_;rintro ZDZ hS;refine r6 ?_;refine WO.fzn hS k2 ?_;rintro Z34 ⟨ZYq,hS⟩;refine WO.fzn hS k2 ?_;rintro Z33 ⟨ZYp,hS⟩;refine WO.hn gN rfl (Q8 (e:=Zd) hS UR Xf U0 rfl rfl rfl (Zu lk ZT) rfl [(((a139,ZqC),(ZXp,c145)),(Zg.mk Km.kind Km.ZX Km.ZV z138 z143 Km.place Km.at_ Km.age))] rfl (xs:= [(Zg.mk Km.kind Km.ZX Km.ZV z138 z143 Km.place Km.at_ Km.age)]) rfl (by intro q hq;simp only [List.mem_cons,List.not_mem_nil,or_false] at hq;subst hq;exact⟨(hS.fsl k1),(hS.fsl k0)⟩) rfl) ?_;rintro _ ZPY ⟨Zon,ZGJ,rfl,hS⟩;obtain⟨z154,ZMT,hL⟩:=qZ hL;refine WO.hv gN rfl (XY (e:=Zd) hS k5 QZ lk lk (hS.Xj k0) (hS.on k0) ZMT) ?_;rintro _ Z30 ⟨Ztf,c156,rfl,hS⟩;refine r2 ?_;rintro ZVz hS;refine r7 ?_;exact Ya.YU (Zzs _ _ hL ⟨_,_,Ztf,c156,z154.length,rfl,hS.only sl,Yv⟩)
    ·intro hc hL;refine r9 ?_;rintro ZDY hS;refine r3 ?_;have hr:=Oi0 hL;subst hr;exact Yk.XF rfl (Y6 (YC rfl e117) (Ji ZfA KN (hS.KC k0) (j:=0) rfl rfl (ws:= (cV a9 z8.length c10 a23 v22.length c24 a57 v56.length c58 a91 v90.length c92 a124 Zrv.length ZBH p0.said)) rfl) ZE) ⟨_,⟨a9,z8.length,c10,a23,v22.length,c24,ZvC,a57,v56.length,c58,ZxW,a91,v90.length,c92,ZC1,a124,Zrv.length,ZBH,rfl,rfl⟩,hT ▸ hS.only sl⟩
theorem ZsC {F wm h} {p0:(List Int)} {p1:Int} {Zi Zh} {r} (Z0:wm <=h.size) (ZB:Sl (Zt .i64) wm h Zi Zh p0) (hL:Zqi F p0 p1=some r):
 WR XX 61 #[.slice Zi p0.length Zh,.int .i64 p1] wm h (CP (fun(v:Value) (Gb:List (Ast wm))=>∃ Xq Xo Xp,v= .slice Xq Xo Xp∧Gb= [ow wm (Zt .i64) Xq Xo Xp r]) [] h):=by
 refine bg Tryz.ntmps61 Z0 Yd.nil ?_;intro T hT hS;unfold Zqi at hL;refine r16 ?_;refine r3 ?_;have hS:=hS.nil (e:= (Zt .i64));refine WC.loop (WL.lift hL (fun p s=>match p with | (v5,v11)=>∃ XT h1 a6 c7 n8,s= ⟨XT,[],h1,none⟩∧Sp wm T h [ow wm (Zt .i64) a6 n8 c7 v5] h1∧XT.at 0= .slice Zi p0.length Zh∧XT.at 1= .int .i64 p1∧XT.at 5= .slice a6 n8 c7∧XT.at 10= .int .i64 (p0.length:Int)∧XT.at 11= .int .i64 v11) ⟨_,_,none,0,0,rfl,hS.only sl,Yv⟩ ?_);clear hL hS;rintro Qa ⟨v5,v11⟩ s UD hL ⟨XT,h1,a6,c7,n8,rfl,hS,e3,e4,e9,e10,e12⟩;obtain rfl:=hS.on k0;dsimp only [ZnG] at hL;refine r6 ?_;refine cn hL ?_ ?_
 ·intro hc hL;refine r2 ?_;refine WC.Zae (r:=r) (fun(v18:(List Int)) s=>∃ ZbS h14 a19 c20 n21,s= ⟨ZbS,[],h14,none⟩∧Sp wm T h [ow wm (Zt .i64) a19 n21 c20 v18] h14∧ZbS.at 0= .slice Zi p0.length Zh∧ZbS.at 1= .int .i64 p1∧ZbS.at 5= .slice a19 n21 c20∧ZbS.at 10= .int .i64 (p0.length:Int)∧ZbS.at 11= .int .i64 v11) (ZjO v11 Qa) ?_ ?_
  ·clear hL hS;rintro v18 s hL ⟨ZbS,h14,a19,c20,n21,rfl,hS,e16,e17,e22,e23,e24⟩;obtain rfl:=hS.on k0;dsimp only [ZjO] at hL;refine r4 ?_;exact Ya.YU (UD _ _ hL ⟨_,_,a19,c20,v18.length,rfl,hS.only sl,Yv⟩)
  ·skip;refine r16 ?_;refine r3 ?_;refine WC.loop (WL.lift hL (fun p s=>match p with | (v29,v35,v37)=>∃ WY h25 a30 c31 n32,s= ⟨WY,[],h25,none⟩∧Sp wm T h [ow wm (Zt .i64) a30 n32 c31 v29] h25∧WY.at 0= .slice Zi p0.length Zh∧WY.at 1= .int .i64 p1∧WY.at 5= .slice a30 n32 c31∧WY.at 6= .int .i64 v11∧WY.at 7= .int .i64 v35∧WY.at 8= .int .i64 v37∧WY.at 10= .int .i64 (p0.length:Int)∧WY.at 11= .int .i64 v11) ⟨_,_,a6,c7,v5.length,rfl,hS.only sl,Yv⟩ ?_);clear hL hS;rintro Zyo ⟨v29,v35,v37⟩ s ZDG hL ⟨WY,h25,a30,c31,n32,rfl,hS,e27,e28,e33,e34,e36,e38,e39,e40⟩;obtain rfl:=hS.on k0;dsimp only [ZnF] at hL;refine r16 ?_;refine r3 ?_;refine cn hL ?_ ?_
   ·intro hc hL;refine WG ?_;refine cn hL ?_ ?_
    ·intro hc hL;refine r4 ?_;refine WO.hn gN rfl (Q8 (e:= (Zt .i64)) hS XP XE Kb rfl rfl rfl (Zu lk ZT) rfl [((),v11)] rfl (xs:= [v11]) rfl (by intro q hq;simp only [List.mem_cons,List.not_mem_nil,or_false] at hq;subst hq;exact trivial) rfl) ?_;rintro _ h43 ⟨b42,Z4F,rfl,hS⟩;obtain⟨z44,ZS1,hL⟩:=qZ hL;refine WO.hv gN rfl (XY (e:= (Zt .i64)) hS k1 Xk lk lk (hS.Xj k0) (hS.on k0) ZS1) ?_;rintro _ h47 ⟨a45,c46,rfl,hS⟩;refine r5 ?_;refine UN.other rfl ?_;refine r4 ?_;exact YT.YU _ hL ⟨_,_,a45,c46,z44.length,rfl,hS.only sl,Yv⟩
    ·intro hc hL;refine r5 ?_;obtain⟨x48,ZTm,hL⟩:=qZ hL;obtain⟨b49,o50,_,ZYD,ZZx,ZZg,ZY1⟩:=Sl.at_ ZB ZTm;refine JC ?_;exact Ya.YU (ZDG _ _ hL ⟨_,_,a30,c31,v29.length,rfl,hS.only sl,Yv⟩)
   ·intro hc hL;refine r5 ?_;exact YT.YU _ hL ⟨_,_,a30,c31,v29.length,rfl,hS.only sl,Yv⟩
 ·intro hc hL;refine WG ?_;have hr:=Oi0 hL;subst hr;exact Yk.XF rfl (ZU lk ZE) ⟨_,⟨a6,v5.length,c7,rfl,rfl⟩,hT ▸ hS.only sl⟩
theorem ZKe {F wm h} {p0:Zb} {p1:Int} {Zi Zh XA Zm Zl Qu Yr Zk Zj Qt Yw Zo Zn Qs Yq Zq Zp Qr YO} {r} (Z0:wm <=h.size) (hO:Yd (wm:=wm) [bx wm YO (cV Zi XA Zh Zm Qu Zl Zk Qt Zj Zo Qs Zn Zq Qr Zp p0.said),ow wm (Zt .i64) Zi XA Zh p0.Zx,YG wm (ZP (Zt .i64)) Zm Qu Zl Yr p0.qK,YG wm (ZP Zc) Zk Qt Zj Yw p0.qQ,YG wm (ZP Ze) Zo Qs Zn Yq p0.qJ,ow wm Zd Zq Qr Zp p0.qG] h) (hL:ZBa F p0 p1=some r):
 WR XX 62 #[.pointer (some ⟨YO,0,none⟩),.int .i64 p1] wm h (CP (fun(v:Value) (Gb:List (Ast wm))=>∃ QT Jz QM QS Jy QL JF QR Jw QK JE QO Jv QJ JD QN Ju QI Xq Xo Xp,v= .slice Xq Xo Xp∧Gb= [bx wm YO (cV QT Jz QM QS Jy QL QR Jw QK QO Jv QJ QN Ju QI r.1.said),ow wm (Zt .i64) QT Jz QM r.1.Zx,YG wm (ZP (Zt .i64)) QS Jy QL JF r.1.qK,YG wm (ZP Zc) QR Jw QK JE r.1.qQ,YG wm (ZP Ze) QO Jv QJ JD r.1.qJ,ow wm Zd QN Ju QI r.1.qG,ow wm Zy Xq Xo Xp r.2]) [bx wm YO (cV Zi XA Zh Zm Qu Zl Zk Qt Zj Zo Qs Zn Zq Qr Zp p0.said),ow wm (Zt .i64) Zi XA Zh p0.Zx,YG wm (ZP (Zt .i64)) Zm Qu Zl Yr p0.qK,YG wm (ZP Zc) Zk Qt Zj Yw p0.qQ,YG wm (ZP Ze) Zo Qs Zn Yq p0.qJ,ow wm Zd Zq Qr Zp p0.qG] h):=by
 refine bg Tryz.ntmps62 Z0 hO ?_;intro T hT hS;unfold ZBa at hL;obtain rfl:=hS.on k1;obtain rfl:=hS.YP k2;obtain rfl:=hS.YP k3;obtain rfl:=hS.YP k4;obtain rfl:=hS.on k5;refine WG ?_;obtain⟨x1,hx1,hL⟩:=qZ hL;obtain⟨b2,o3,⟨⟨a4,c5⟩,⟨a6,c7⟩⟩,ZOJ,ZAr,ZvY⟩:=Src.at_ (hS.Xj k5) hx1;refine r1 ?_;have hS:=hS.add (A:=YA wm (ZN (Zt .i64)) (a4,c5) x1.qV) ZvY.1 (fun _ z=>z);have hS:=hS.add (A:=YA wm (ZN (Zt .i64)) (a6,c7) x1.Yc) ZvY.2 (fun _ z=>z);refine WO.w gN rfl (YK WS Xf (YF fh rfl) ZAr (j:=0) rfl rfl (ws:= (cL x1 a4 c5 a6 c7)) rfl) ?_;refine r1 ?_;rintro _ h9 ⟨b8,eb8,rfl,hS⟩;refine r1 ?_;rintro h10 hS;refine r3 ?_;refine WC.YD mixed Kq0 ?_;refine r6 ?_;obtain⟨z11,ZS8,hL⟩:=qZ hL;refine WX.he gN rfl (ZxF (hS.get k8).2 rfl UR Xf (YF (ZC rfl fh) rfl) (.inl ⟨rfl,rfl⟩) (.inr ⟨_,Xy (YF fh rfl)⟩) ZS8) ?_ rfl;rintro _ ⟨a12,c13,rfl,ZTw⟩;obtain⟨z15,ZHY,hL⟩:=qZ hL;have hS:=hS.nil (e:=Zd);refine WX.hv0 gN rfl (XY (e:=Zd) hS k0 QZ lk lk (ZTw.own (hS.get k9).2).src rfl ZHY) (fun _ z=>Zh2 z) ?_ rfl rfl;rintro _ h18 ⟨a16,c17,rfl,hS⟩;refine r6 ?_;obtain⟨z19,ZHW,hL⟩:=qZ hL;refine WX.he gN rfl (ZxF (hS.get k9).2 rfl UR Xf (YF (YC rfl fh) rfl) (.inr ⟨_,Xy (YF fh rfl)⟩) (.inl ⟨rfl,rfl⟩) ZHW) ?_ rfl;rintro _ ⟨a20,c21,rfl,ZTu⟩;obtain⟨z23,ZS6,hL⟩:=qZ hL;refine WX.hv gN rfl (XY (e:=Zd) hS k0 QZ lk lk (ZTu.own (hS.get k9).2).src rfl ZS6) ?_ rfl rfl [] Kq0 Yg.e;rintro _ h26 ⟨a24,c25,rfl,hS⟩;refine WX.w gN rfl (Ka lk) ?_ Kq0;refine WX.w gN rfl (Qd Ku lk) ?_ Kq0;refine WX.hu gN (Ug hS k4 Zbg lk lk (vs:= [.slice a24 z23.length c25]) rfl rfl rfl rfl (cs':= (cV Zi p0.Zx.length Zh Zm p0.qK.length Zl Zk p0.qQ.length Zj Zo p0.qJ.length Zn a24 z23.length c25 p0.said)) rfl) ?_ rfl Kq0 [] Kq0 Yg.e;rintro h27 hS;refine r7 ?_;refine WC.Zae (r:=r) (fun(p:(List Zv)×(List (List Int))×(List (List ZA))×(List (List Zr))) s=>match p with | (v30,v35,v37,v39)=>∃ Zai h28 a31 c32 n33 ZHG ZHF ZHE,s= ⟨Zai,[],h28,none⟩∧Sp wm T h [ow wm Zy a31 n33 c32 v30,bx wm YO (cV Zi p0.Zx.length Zh Zm p0.qK.length Zl Zk p0.qQ.length Zj Zo p0.qJ.length Zn a24 z23.length c25 p0.said),ow wm (Zt .i64) Zi p0.Zx.length Zh p0.Zx,YG wm (ZP (Zt .i64)) Zm p0.qK.length Zl ZHG v35,YG wm (ZP Zc) Zk p0.qQ.length Zj ZHF v37,YG wm (ZP Ze) Zo p0.qJ.length Zn ZHE v39,ow wm Zd a24 z23.length c25 z23] h28∧Zai.at 6= .slice a31 n33 c32) (ZcU p0 z23) ?_ ?_
 ·clear hL hS;rintro⟨v30,v35,v37,v39⟩ s hL ⟨Zai,h28,a31,c32,n33,ZHG,ZHF,ZHE,rfl,hS,e34⟩;obtain rfl:=hS.on k0;dsimp only [ZcU] at hL;refine r7 ?_;have hr:=Oi0 hL;subst hr;exact Yk.XF rfl (ZU lk ZE) ⟨_,⟨Zi,p0.Zx.length,Zh,Zm,p0.qK.length,Zl,ZHG,Zk,p0.qQ.length,Zj,ZHF,Zo,p0.qJ.length,Zn,ZHE,a24,z23.length,c25,a31,v30.length,c32,rfl,rfl⟩,hT ▸ hS.only sl⟩
 ·skip;refine r13 ?_;refine cn hL ?_ ?_
  ·intro hc hL;refine r7 ?_;refine WO.ZmR (r:=r) (fun(p:(List Zv)×(List Zg)×(List (List Int))×(List (List Zr))) (v:Value) (h41:H)=>match p with | (v43,v47,v51,v53)=>∃ a44 c45 n46 a48 c49 n50 ZrI ZHC,v= .slice a44 n46 c45∧Sp wm T h [ow wm Zy a44 n46 c45 v43,ow wm Zd a48 n50 c49 v47,bx wm YO (cV Zi p0.Zx.length Zh Zm p0.qK.length Zl Zk p0.qQ.length Zj Zo p0.qJ.length Zn a48 n50 c49 p0.said),bx wm b8 (cL x1 a4 c5 a6 c7),ow wm Zd Zq p0.qG.length Zp p0.qG,YA wm (ZN (Zt .i64)) (a4,c5) x1.qV,YA wm (ZN (Zt .i64)) (a6,c7) x1.Yc,ow wm (Zt .i64) Zi p0.Zx.length Zh p0.Zx,YG wm (ZP (Zt .i64)) Zm p0.qK.length Zl ZrI v51,YG wm (ZP Zc) Zk p0.qQ.length Zj Yw p0.qQ,YG wm (ZP Ze) Zo p0.qJ.length Zn ZHC v53] h41) (Zgq p0) gN rfl (Y9.fn ZzL (Zf lk (Zf lk (Zf lk (Zf lk Zz))))) ?_ (WF.begin (args:= [_,_,_,_]) (fn:=Tryz.f60) Kq0 (by exact rfl) Tryz.ntmps60 (by simp) ?_)
   ·clear hL hS;rintro⟨v43,v47,v51,v53⟩ v h41 hL ⟨a44,c45,n46,a48,c49,n50,ZrI,ZHC,rfl,hS⟩;obtain rfl:=hS.on k0;obtain rfl:=hS.on k1;dsimp only [Zgq] at hL;refine r5 ?_;refine YT.ret ?_;have hr:=Oi0 hL;subst hr;exact Yk.XF rfl (ZU lk ZE) ⟨_,⟨Zi,p0.Zx.length,Zh,Zm,p0.qK.length,Zl,ZrI,Zk,p0.qQ.length,Zj,Yw,Zo,p0.qJ.length,Zn,ZHC,a48,v47.length,c49,a44,v43.length,c45,rfl,rfl⟩,hT ▸ hS.only sl⟩
   ·skip;simp only [Z4,Z9,Nat.reduceAdd];refine r3 ?_;rintro _ h56 ⟨b55,Z4z,rfl,hS⟩;refine r4 ?_;refine WC.YD mixed Kq0 ?_;refine r5 ?_;obtain⟨x57,ZyO,hL⟩:=qZ hL;obtain⟨b58,o59,a60,n61,c62,ZFY,ZOB,ZGx⟩:=hS.atS k8 ZyO;refine r4 ?_;obtain⟨x63,ZM7,hL⟩:=qZ hL;obtain⟨b64,o65,_,ZOy,ZPw,ZYW⟩:=Src.at_ (hS.inS k8 ZyO ZFY).2.1 ZM7;refine WX.w gN rfl (Yn Wz Y3 lk lk (hS.inS k8 ZyO ZFY).1 ZOy ZM7) ?_ rfl;refine WX.w gN rfl (YK ZbO Y3 (YF fh rfl) ZPw (j:=0) rfl rfl (ws:= (cE x63)) rfl) ?_ rfl;refine WX.hn gN rfl (Zha hS Za9 (vs:= [.bool false,.int .i64 0,.int .i64 0]) rfl) ?_ rfl;rintro _ h67 ⟨b66,Z4t,rfl,hS⟩;refine WX.hu gN (Ug hS k0 Y3 lk lk (vs:= (cE x63)) rfl rfl rfl rfl (cs':= (cE x63)) rfl) ?_ rfl rfl [] Kq0 Yg.e;rintro h68 hS;refine r9 ?_;refine cn hL ?_ ?_
    ·intro hc hL;refine r1 ?_;refine WC.YD mixed Kq0 ?_;refine r3 ?_;refine WX.wr (fun x=>x=YO) hS gN rfl (fun _ _ hR=>Y4 Zky (YF fh rfl) (At.eqv (hR YO rfl) (hS.KC k2)) (j:=1) rfl (v:= .slice Zm p0.qK.length Zl) rfl) ?_ rfl rfl;rintro h69 e70 hS;refine r1 ?_;refine WX.wr (fun x=>x=b55) hS gN rfl (fun _ _ hR=>Y4 WT (YF fh rfl) (At.eqv (hR b55 rfl) (hS.KC k1)) (j:=1) rfl (v:= .int .i64 x1.ZV.place) rfl) ?_ rfl rfl;rintro h71 e72 hS;refine r6 ?_;obtain⟨x73,Zk4,hL⟩:=qZ hL;obtain⟨b74,o75,a76,n77,c78,ZNK,ZlU,Zuz⟩:=hS.atS k8 Zk4;refine r4 ?_;refine WX.hn gN rfl (Q8 (e:= (Zt .i64)) hS XP XE Kb rfl rfl rfl (Zu lk ZT) rfl [((),x1.ZV.msg)] rfl (xs:= [x1.ZV.msg]) rfl (by intro q hq;simp only [List.mem_cons,List.not_mem_nil,or_false] at hq;subst hq;exact trivial) rfl) ?_ rfl;rintro _ h80 ⟨b79,Z4p,rfl,hS⟩;obtain⟨z81,ZSU,hL⟩:=qZ hL;have hS:=hS.Kc k9 Zk4 ZNK;refine WX.hv gN rfl (XY (e:= (Zt .i64)) hS k1 Xk lk lk (hS.Xj k2) (hS.on k2) ZSU) ?_ rfl rfl [3,5] Kq0 (.c (.s (.s .z)) (hS.dj (.c k1 (.c k4 .n))) (.c (.s .z) (hS.dj (.c k1 (.c k3 .n))) Yg.e));rintro _ h84 ⟨a82,c83,rfl,hS⟩;obtain⟨x85,ZH2,hL⟩:=qZ hL;refine WX.w gN rfl (Yn Zg4 Uf lk lk rfl ZlU ZH2) ?_ Kq0;refine WX.hu gN (ZdM hS k1 Uf (YF fh rfl) (YF (ZC rfl fh) rfl) ZlU Zk4 (j:=0) rfl (vs:= [.slice a82 z81.length c83]) rfl rfl rfl rfl rfl (cs':= [.slice a82 z81.length c83]) rfl rfl rfl) ?_ rfl Kq0 [] Kq0 Yg.e;rintro h87 hS;obtain⟨ZSB,Z2A,hS⟩:=hS.Kj (.c k0 (.c k0 .n)) Zk4;refine JC ?_;refine WO.w gN rfl (YS ZhA (Zu lk (Zu lk (Zu lk (Zu lk (Zu lk ZT))))) rfl (cs':= [.int .i64 1,.int .i64 x1.ZV.place,.int .i64 x1.ZX,.int .i64 x1.ZV.msg,.int .i64 x1.ZV.hops]) rfl) ?_;refine WO.hn gN rfl (Q8 (e:=Zy) hS ZeK KM Zaq rfl rfl rfl (Zu lk ZT) rfl [((),(Zv.mk 1 x1.ZV.place x1.ZX x1.ZV.msg x1.ZV.hops))] rfl (xs:= [(Zv.mk 1 x1.ZV.place x1.ZX x1.ZV.msg x1.ZV.hops)]) rfl (by intro q hq;simp only [List.mem_cons,List.not_mem_nil,or_false] at hq;subst hq;exact trivial) rfl) ?_;rintro _ h91 ⟨b90,Z4k,rfl,hS⟩;refine r5 ?_;exact Yk.XF rfl (ZU lk ZE) ⟨_,hL,⟨(some ⟨b90,0,none⟩),2,1,a24,c25,z23.length,ZSB,Yq,rfl,hS.only sl⟩⟩
    ·intro hc hL;refine WG ?_;refine WO.gv (Zw.yes rfl rfl rfl (Y5 rfl fh)) rfl (fun hg=>(Qe (YQ (YC rfl fh) rfl hg) (YQ fh rfl hg) ZkD)) ?_;refine r3 ?_;refine cn hL ?_ ?_
     ·intro hc hL;refine r1 ?_;refine WC.YD mixed Kq0 ?_;refine r3 ?_;refine WX.wr (fun x=>x=YO) hS gN rfl (fun _ _ hR=>Y4 Zkx (YF fh rfl) (At.eqv (hR YO rfl) (hS.KC k2)) (j:=3) rfl (v:= .slice Zo p0.qJ.length Zn) rfl) ?_ rfl rfl;rintro h92 e93 hS;refine r6 ?_;obtain⟨x94,ZDh,hL⟩:=qZ hL;obtain⟨b95,o96,a97,n98,c99,ZNJ,ZF9,ZZt⟩:=hS.atS k10 ZDh;refine r3 ?_;refine WX.hn gN rfl (Q8 (e:=Ze) hS ZaJ Js Zb1 rfl rfl rfl (Zu lk ZT) rfl [((),x1.ZV)] rfl (xs:= [x1.ZV]) rfl (by intro q hq;simp only [List.mem_cons,List.not_mem_nil,or_false] at hq;subst hq;exact trivial) rfl) ?_ rfl;rintro _ Zp5 ⟨ZbV,ZBq,rfl,hS⟩;obtain⟨ZCy,ZM4,hL⟩:=qZ hL;have hS:=hS.Kc k11 ZDh ZNJ;refine WX.hv gN rfl (XY (e:=Ze) hS k1 K8 lk lk (hS.Xj k2) (hS.on k2) ZM4) ?_ rfl rfl [3] Kq0 (.c (.s .z) (hS.dj (.c k1 (.c k4 .n))) Yg.e);rintro _ Z4d ⟨Zlp,Zol,rfl,hS⟩;obtain⟨ZSd,ZNs,hL⟩:=qZ hL;refine WX.w gN rfl (Yn ZeL Ue lk lk rfl ZF9 ZNs) ?_ Kq0;refine WX.hu gN (ZdM hS k1 Ue (YF fh rfl) (YF (ZC rfl fh) rfl) ZF9 ZDh (j:=0) rfl (vs:= [.slice Zlp ZCy.length Zol]) rfl rfl rfl rfl rfl (cs':= [.slice Zlp ZCy.length Zol]) rfl rfl rfl) ?_ rfl Kq0 [] Kq0 Yg.e;rintro ZJO hS;obtain⟨ZMv,ZYl,hS⟩:=hS.Kj (.c k0 (.c k0 .n)) ZDh;refine r9 ?_;have hS:=hS.nil (e:=Zy);exact Yk.XF rfl (ZU lk ZE) ⟨_,hL,⟨none,0,0,a24,c25,z23.length,Yr,ZMv,rfl,hS.only sl⟩⟩
     ·intro hc hL;refine r8 ?_;rintro ZVI hS;refine r9 ?_;rintro h112 hS;refine r3 ?_;refine WC.YD mixed Kq0 ?_;refine r8 ?_;refine WX.w gN rfl (YS Zfu (Zu lk (Zu lk (Zu lk ZT))) rfl (cs':= [.int .i64 1,.int .i64 x63.ZX,.int .i64 x1.ZV.msg,.int .i64 x1.ZV.place,.int .i64 x1.ZV.from_,.int .i64 x63.age,.int .i64 (Y2 (x1.ZV.hops + 1)),.slice none 0 0,.slice none 0 0,.int .i64 0,.int .i64 0,.int .i64 0]) rfl) ?_ rfl;refine WX.hn gN rfl (Q8 (e:=Zd) hS UR Xf U0 rfl rfl rfl (Zu lk ZT) rfl [(((none,0),(none,0)),(Zg.mk 1 x63.ZX (Zr.mk x1.ZV.msg x1.ZV.place x1.ZV.from_ x63.age (Y2 (x1.ZV.hops + 1))) [] [] 0 0 0))] rfl (xs:= [(Zg.mk 1 x63.ZX (Zr.mk x1.ZV.msg x1.ZV.place x1.ZV.from_ x63.age (Y2 (x1.ZV.hops + 1))) [] [] 0 0 0)]) rfl (by intro q hq;simp only [List.mem_cons,List.not_mem_nil,or_false] at hq;subst hq;exact⟨Sl.nil,Sl.nil⟩) rfl) ?_ rfl;rintro _ ZP2 ⟨ZW1,Z0C,rfl,hS⟩;obtain⟨Zu8,ZM0,hL⟩:=qZ hL;refine WX.hv gN rfl (XY (e:=Zd) hS k4 QZ lk lk (hS.Xj k0) (hS.on k0) ZM0) ?_ rfl rfl [] Kq0 Yg.e;rintro _ ZVG ⟨a116,c117,rfl,hS⟩;refine WX.w gN rfl (Ka lk) ?_ Kq0;refine WX.w gN rfl (Qd Ku lk) ?_ Kq0;refine WX.hu gN (Ug hS k4 Zbg lk lk (vs:= [.slice a116 Zu8.length c117]) rfl rfl rfl rfl (cs':= (cV Zi p0.Zx.length Zh Zm p0.qK.length Zl Zk p0.qQ.length Zj Zo p0.qJ.length Zn a116 Zu8.length c117 p0.said)) rfl) ?_ rfl Kq0 [] Kq0 Yg.e;rintro h119 hS;refine r2 ?_;refine WC.Zae (r:=r) (fun(ZkV:(List Zg)) s=>∃ ZGG ZD3 ZqY c124 n125,s= ⟨ZGG,[],ZD3,none⟩∧Sp wm T h [ow wm Zd ZqY n125 c124 ZkV,bx wm YO (cV Zi p0.Zx.length Zh Zm p0.qK.length Zl Zk p0.qQ.length Zj Zo p0.qJ.length Zn ZqY n125 c124 p0.said),bx wm b8 (cL x1 a4 c5 a6 c7),ow wm (Zt .i64) Zi p0.Zx.length Zh p0.Zx,YG wm (ZP (Zt .i64)) Zm p0.qK.length Zl Yr p0.qK,YG wm (ZP Zc) Zk p0.qQ.length Zj Yw p0.qQ,YG wm (ZP Ze) Zo p0.qJ.length Zn Yq p0.qJ,YA wm (ZN (Zt .i64)) (a4,c5) x1.qV,YA wm (ZN (Zt .i64)) (a6,c7) x1.Yc,ow wm Zd Zq p0.qG.length Zp p0.qG] ZD3) (ZjL p0) ?_ ?_
      ·clear hL hS;rintro ZkV s hL ⟨ZGG,ZD3,ZqY,c124,n125,rfl,hS⟩;obtain rfl:=hS.on k0;dsimp only [ZjL] at hL;refine r6 ?_;have hS:=hS.nil (e:=Zy);exact Yk.XF rfl (ZU lk ZE) ⟨_,hL,⟨none,0,0,ZqY,c124,ZkV.length,Yr,Yq,rfl,hS.only sl⟩⟩
      ·skip;refine r8 ?_;refine WO.gv (Zw.yes rfl rfl rfl (YC rfl (ZC rfl fh))) rfl (fun hg=>(Qe (YQ (ZC rfl fh) rfl hg) (YQ fh rfl hg) ZfC)) ?_;refine r10 ?_;refine cn hL ?_ ?_
       ·intro hc hL;refine WC.YD mixed Kq0 ?_;refine r13 ?_;refine WX.w gN rfl (YS Zfu (Zu lk (Zu lk (Zu lk (Zu lk (Zu lk ZT))))) rfl (cs':= [.int .i64 3,.int .i64 x1.ZV.from_,.int .i64 0,.int .i64 0,.int .i64 0,.int .i64 0,.int .i64 0,.slice none 0 0,.slice none 0 0,.int .i64 x1.ZV.place,.int .i64 x63.ZX,.int .i64 x63.age]) rfl) ?_ rfl;refine WX.hn gN rfl (Q8 (e:=Zd) hS UR Xf U0 rfl rfl rfl (Zu lk ZT) rfl [(((none,0),(none,0)),(Zg.mk 3 x1.ZV.from_ (Zr.mk 0 0 0 0 0) [] [] x1.ZV.place x63.ZX x63.age))] rfl (xs:= [(Zg.mk 3 x1.ZV.from_ (Zr.mk 0 0 0 0 0) [] [] x1.ZV.place x63.ZX x63.age)]) rfl (by intro q hq;simp only [List.mem_cons,List.not_mem_nil,or_false] at hq;subst hq;exact⟨Sl.nil,Sl.nil⟩) rfl) ?_ rfl;rintro _ h127 ⟨Z6S,Z0w,rfl,hS⟩;obtain⟨ZwX,hz128,hL⟩:=qZ hL;refine WX.hv gN rfl (XY (e:=Zd) hS k2 QZ lk lk (hS.Xj k0) (hS.on k0) hz128) ?_ rfl rfl [] Kq0 Yg.e;rintro _ Z39 ⟨ZLi,c130,rfl,hS⟩;refine WX.w gN rfl (Ka lk) ?_ Kq0;refine WX.w gN rfl (Qd Ku lk) ?_ Kq0;refine WX.hu gN (Ug hS k2 Zbg lk lk (vs:= [.slice ZLi ZwX.length c130]) rfl rfl rfl rfl (cs':= (cV Zi p0.Zx.length Zh Zm p0.qK.length Zl Zk p0.qQ.length Zj Zo p0.qJ.length Zn ZLi ZwX.length c130 p0.said)) rfl) ?_ rfl Kq0 [] Kq0 Yg.e;rintro ZVD hS;refine r1 ?_;exact YT.YU _ hL ⟨_,_,ZLi,c130,ZwX.length,rfl,hS.only sl⟩
       ·intro hc hL;refine r1 ?_;exact YT.YU _ hL ⟨_,_,a116,c117,Zu8.length,rfl,hS.only sl⟩
  ·intro hc hL;refine r6 ?_;refine cn hL ?_ ?_
   ·intro hc hL;refine r10 ?_;refine WC.loop (WL.lift hL (fun p s=>match p with | (Zru,Zad)=>∃ Zhr ZD1 ZiL,s= ⟨Zhr,[],ZD1,none⟩∧Sp wm T h [bx wm YO (cV Zi p0.Zx.length Zh Zm p0.qK.length Zl Zk p0.qQ.length Zj Zo p0.qJ.length Zn a24 z23.length c25 p0.said),bx wm b8 (cL x1 a4 c5 a6 c7),YA wm (ZN (Zt .i64)) (a4,c5) x1.qV,ow wm (Zt .i64) Zi p0.Zx.length Zh p0.Zx,YG wm (ZP (Zt .i64)) Zm p0.qK.length Zl Yr p0.qK,YG wm (ZP Zc) Zk p0.qQ.length Zj ZiL Zad,YG wm (ZP Ze) Zo p0.qJ.length Zn Yq p0.qJ,ow wm Zd a24 z23.length c25 z23,YA wm (ZN (Zt .i64)) (a6,c7) x1.Yc] ZD1∧Zhr.at 0= .pointer (some ⟨YO,0,none⟩)∧Zhr.at 5= .pointer (some ⟨b8,0,none⟩)∧Zhr.at 6= .slice none 0 0∧Zhr.at 53= .slice a4 x1.qV.length c5∧Zhr.at 54= .int .i64 (x1.qV.length:Int)∧Zhr.at 55= .int .i64 Zru) ⟨_,_,Yw,rfl,hS.only sl,Yv⟩ ?_);clear hL hS;rintro Ze1 ⟨Zru,Zad⟩ s Zja hL ⟨Zhr,ZD1,ZiL,rfl,hS,ZWg,Z5p,e137,e138,ZWf,ZWe⟩;dsimp only [ZjN] at hL;refine r6 ?_;refine cn hL ?_ ?_
    ·intro hc hL;refine r7 ?_;obtain⟨Zar,Zy0,hL⟩:=qZ hL;obtain⟨ZWU,ZSK,_,ZIU,ZAs,ZAj,Zsc⟩:=Sl.at_ (hS.fsl k2) Zy0;refine r6 ?_;refine WC.YD mixed Kq0 ?_;refine r6 ?_;obtain⟨ZHb,ZlS,hL⟩:=qZ hL;obtain⟨Z6O,Z2b,ZLh,n152,Z5M,Zr7,ZIT,ZVd⟩:=hS.atS k5 ZlS;refine WX.w gN rfl (Yn ZeM Zbf lk lk (hS.YP k5) ZIT ZlS) ?_ rfl;refine r7 ?_;obtain⟨Zmh,ZyZ,hL⟩:=qZ hL;obtain⟨Z6L,Z2a,_,ZT5,ZVc,ZUP,ZUC⟩:=Sl.at_ (hS.fsl k8) ZyZ;refine r2 ?_;refine WX.w gN rfl (YS Zkq (Zu lk (Zu lk (Zu lk ZT))) rfl (cs':= [.bool true,.int .i64 x1.ZX,.int .i64 Zmh]) rfl) ?_ rfl;obtain⟨x157,hx157,hL⟩:=qZ hL;obtain⟨Z6J,Z18,_,Zz4,ZJu,ZUA⟩:=Src.at_ (hS.inS k5 ZlS Zr7).2.1 hx157;refine WX.w gN rfl (Yn Wz Y3 lk lk (hS.inS k5 ZlS Zr7).1 Zz4 hx157) ?_ rfl;have hS:=hS.Kc k5 ZlS Zr7;refine WX.hu gN (KP (e:=Zc) (ZA.mk true x1.ZX Zmh) () hS k1 Y3 (YF fh rfl) (YF (ZC rfl fh) rfl) Zz4 hx157 ZJu (j:=0) rfl (vs:= [.bool true,.int .i64 x1.ZX,.int .i64 Zmh]) rfl rfl rfl rfl rfl (cs':= [.bool true,.int .i64 x1.ZX,.int .i64 Zmh]) rfl rfl trivial) ?_ rfl rfl [] Kq0 Yg.e;rintro Z3Z ⟨hS,ZZP⟩;obtain⟨ZlH,ZYh,hS⟩:=hS.Kj (.c k1 (.c k0 .n)) ZlS;refine r7 ?_;exact Ya.YU (Zja _ _ hL ⟨_,_,ZlH,rfl,hS.only sl,Yv⟩)
    ·intro hc hL;refine r14 ?_;have hS:=hS.nil (e:=Zy);refine WC.loop (WL.lift hL (fun p s=>match p with | (v168,v175,ZaI,Zbc)=>∃ Zhq ZAy ZkF Zko n171 ZtD ZlG,s= ⟨Zhq,[],ZAy,none⟩∧Sp wm T h [ow wm Zy ZkF n171 Zko v168,bx wm YO (cV Zi p0.Zx.length Zh Zm p0.qK.length Zl Zk p0.qQ.length Zj Zo p0.qJ.length Zn a24 z23.length c25 p0.said),bx wm b8 (cL x1 a4 c5 a6 c7),YA wm (ZN (Zt .i64)) (a4,c5) x1.qV,ow wm (Zt .i64) Zi p0.Zx.length Zh p0.Zx,YG wm (ZP (Zt .i64)) Zm p0.qK.length Zl ZtD ZaI,YG wm (ZP Zc) Zk p0.qQ.length Zj ZiL Zad,YG wm (ZP Ze) Zo p0.qJ.length Zn ZlG Zbc,ow wm Zd a24 z23.length c25 z23,YA wm (ZN (Zt .i64)) (a6,c7) x1.Yc] ZAy∧Zhq.at 0= .pointer (some ⟨YO,0,none⟩)∧Zhq.at 5= .pointer (some ⟨b8,0,none⟩)∧Zhq.at 6= .slice ZkF n171 Zko∧Zhq.at 80= .slice a4 x1.qV.length c5∧Zhq.at 81= .int .i64 (x1.qV.length:Int)∧Zhq.at 82= .int .i64 v175) ⟨_,_,none,0,0,Yr,Yq,rfl,hS.only sl,Yv⟩ ?_);clear hL hS;rintro Zh3 ⟨v168,v175,ZaI,Zbc⟩ s Zzn hL ⟨Zhq,ZAy,ZkF,Zko,n171,ZtD,ZlG,rfl,hS,e166,e167,ZWd,ZWc,ZWb,ZWa⟩;obtain rfl:=hS.on k0;dsimp only [Zgr] at hL;refine r6 ?_;refine cn hL ?_ ?_
     ·intro hc hL;refine r6 ?_;obtain⟨ZkS,ZNi,hL⟩:=qZ hL;obtain⟨Z6H,Z15,_,ZT3,ZVa,ZUO,ZUy⟩:=Sl.at_ (hS.fsl k3) ZNi;refine JC ?_;refine WO.w gN rfl (YS ZhA (Zu lk (Zu lk (Zu lk ZT))) rfl (cs':= [.int .i64 3,.int .i64 ZkS,.int .i64 x1.ZX,.int .i64 0,.int .i64 0]) rfl) ?_;refine WO.hn gN rfl (Q8 (e:=Zy) hS ZeK KM Zaq rfl rfl rfl (Zu lk ZT) rfl [((),(Zv.mk 3 ZkS x1.ZX 0 0))] rfl (xs:= [(Zv.mk 3 ZkS x1.ZX 0 0)]) rfl (by intro q hq;simp only [List.mem_cons,List.not_mem_nil,or_false] at hq;subst hq;exact trivial) rfl) ?_;rintro _ Z3S ⟨ZWT,Z0n,rfl,hS⟩;obtain⟨ZG2,ZMQ,hL⟩:=qZ hL;refine WO.hv gN rfl (XY (e:=Zy) hS k1 Za3 lk lk (hS.Xj k0) (hS.on k0) ZMQ) ?_;rintro _ ZPV ⟨ZXo,ZWB,rfl,hS⟩;refine r10 ?_;refine WC.YD mixed Kq0 ?_;refine r6 ?_;obtain⟨Zrk,ZpP,hL⟩:=qZ hL;obtain⟨Z6E,Z12,a194,n195,c196,Zm6,ZIQ,ZU9⟩:=hS.atS k8 ZpP;refine WX.w gN rfl (Yn ZeL Ue lk lk (hS.YP k8) ZIQ ZpP) ?_ rfl;refine r1 ?_;refine WX.w gN rfl (ZbB ZaJ lk (congrArg Nat.cast (hS.inS k8 ZpP Zm6).1)) ?_ rfl;refine r4 ?_;have hS:=hS.nil (e:=Ze);refine WC.loop (WL.lift hL (fun p s=>match p with | (v201,ZeH,WW,ZoV)=>∃ J6 Zsf ZwG c203 n204 a208 ZsX n210 ZtC,s= ⟨J6,[],Zsf,none⟩∧Sp wm T h [ow wm Zy ZwG n204 c203 v201,ow wm Ze a208 n210 ZsX ZeH,bx wm YO (cV Zi p0.Zx.length Zh Zm p0.qK.length Zl Zk p0.qQ.length Zj Zo p0.qJ.length Zn a24 z23.length c25 p0.said),bx wm b8 (cL x1 a4 c5 a6 c7),YA wm (ZN (Zt .i64)) (a4,c5) x1.qV,YG wm (ZP Ze) Zo p0.qJ.length Zn ZlG Zbc,ow wm (Zt .i64) Zi p0.Zx.length Zh p0.Zx,YG wm (ZP (Zt .i64)) Zm p0.qK.length Zl ZtC ZoV,YG wm (ZP Zc) Zk p0.qQ.length Zj ZiL Zad,ow wm Zd a24 z23.length c25 z23,YA wm (ZN (Zt .i64)) (a6,c7) x1.Yc] Zsf∧J6.at 0= .pointer (some ⟨YO,0,none⟩)∧J6.at 5= .pointer (some ⟨b8,0,none⟩)∧J6.at 6= .slice ZwG n204 c203∧J6.at 10= .int .i64 ZkS∧J6.at 11= .slice a208 n210 ZsX∧J6.at 80= .slice a4 x1.qV.length c5∧J6.at 81= .int .i64 (x1.qV.length:Int)∧J6.at 82= .int .i64 v175∧J6.at 100= .slice a194 n195 c196∧J6.at 101= .int .i64 (Zrk.length:Int)∧J6.at 102= .int .i64 WW) ⟨_,_,ZXo,ZWB,ZG2.length,none,0,0,ZtD,rfl,hS.only sl,Yv⟩ ?_);clear hL hS;rintro Kr ⟨v201,ZeH,WW,ZoV⟩ s Zzk hL ⟨J6,Zsf,ZwG,c203,n204,a208,ZsX,n210,ZtC,rfl,hS,e199,ZV6,Z46,e206,e211,e212,e213,e214,e215,e216,Z45⟩;obtain rfl:=hS.on k0;obtain rfl:=hS.on k1;dsimp only [ZjM] at hL;refine r6 ?_;refine cn hL ?_ ?_
      ·intro hc hL;refine r2 ?_;refine WC.Zae (r:=r) (fun(p:(List Zv)×(List Zr)×(List (List Int))) s=>match p with | (v226,v232,ZCG)=>∃ ZaV ZJJ a227 c228 n229 a233 c234 n235 Zx0,s= ⟨ZaV,[],ZJJ,none⟩∧Sp wm T h [ow wm Zy a227 n229 c228 v226,ow wm Ze a233 n235 c234 v232,bx wm YO (cV Zi p0.Zx.length Zh Zm p0.qK.length Zl Zk p0.qQ.length Zj Zo p0.qJ.length Zn a24 z23.length c25 p0.said),bx wm b8 (cL x1 a4 c5 a6 c7),YA wm (ZN (Zt .i64)) (a4,c5) x1.qV,YG wm (ZP Ze) Zo p0.qJ.length Zn ZlG Zbc,ow wm (Zt .i64) Zi p0.Zx.length Zh p0.Zx,YG wm (ZP (Zt .i64)) Zm p0.qK.length Zl Zx0 ZCG,YG wm (ZP Zc) Zk p0.qQ.length Zj ZiL Zad,ow wm Zd a24 z23.length c25 z23,YA wm (ZN (Zt .i64)) (a6,c7) x1.Yc] ZJJ∧ZaV.at 0= .pointer (some ⟨YO,0,none⟩)∧ZaV.at 5= .pointer (some ⟨b8,0,none⟩)∧ZaV.at 6= .slice a227 n229 c228∧ZaV.at 10= .int .i64 ZkS∧ZaV.at 11= .slice a233 n235 c234∧ZaV.at 80= .slice a4 x1.qV.length c5∧ZaV.at 81= .int .i64 (x1.qV.length:Int)∧ZaV.at 82= .int .i64 v175∧ZaV.at 100= .slice a194 n195 c196∧ZaV.at 101= .int .i64 (Zrk.length:Int)∧ZaV.at 102= .int .i64 WW) (ZjK WW Kr) ?_ ?_
       ·clear hL hS;rintro⟨v226,v232,ZCG⟩ s hL ⟨ZaV,ZJJ,a227,c228,n229,a233,c234,n235,Zx0,rfl,hS,e224,Z44,e230,e231,Z43,e237,e238,Z42,e240,e241,e242⟩;obtain rfl:=hS.on k0;obtain rfl:=hS.on k1;dsimp only [ZjK] at hL;refine r4 ?_;exact Ya.YU (Zzk _ _ hL ⟨_,_,a227,c228,v226.length,a233,c234,v232.length,Zx0,rfl,hS.only sl,Yv⟩)
       ·skip;refine r3 ?_;obtain⟨U1,ZFO,hL⟩:=qZ hL;obtain⟨Z6q,Z1T,_,ZIL,ZJp,ZUq⟩:=Src.at_ (hS.inS k5 ZpP Zm6).2.1 ZFO;refine WO.w gN rfl (Yn ZaJ Js lk lk (hS.inS k5 ZpP Zm6).1 ZIL ZFO) ?_;refine WO.w gN rfl (YK Zfz Js (YF fh rfl) ZJp (j:=0) rfl rfl (ws:= (cM U1)) rfl) ?_;refine r1 ?_;rintro _ Z3y ⟨ZQX,Z0g,rfl,hS⟩;refine r1 ?_;rintro ZVt hS;refine r10 ?_;refine cn hL ?_ ?_
        ·intro hc hL;refine r6 ?_;refine WO.ZmR (r:=r) (fun(p:(List Zv)×(List (List Int))) (v:Value) (ZJI:H)=>match p with | (ZCF,ZCE)=>∃ ZLf ZBD n256 ZxZ,v= .slice ZLf n256 ZBD∧Sp wm T h [ow wm Zy ZLf n256 ZBD ZCF,bx wm YO (cV Zi p0.Zx.length Zh Zm p0.qK.length Zl Zk p0.qQ.length Zj Zo p0.qJ.length Zn a24 z23.length c25 p0.said),bx wm b8 (cL x1 a4 c5 a6 c7),bx wm ZQX (cM U1),ow wm Zy ZwG v201.length c203 v201,ow wm Ze a208 ZeH.length ZsX ZeH,YA wm (ZN (Zt .i64)) (a4,c5) x1.qV,YG wm (ZP Ze) Zo p0.qJ.length Zn ZlG Zbc,ow wm (Zt .i64) Zi p0.Zx.length Zh p0.Zx,YG wm (ZP (Zt .i64)) Zm p0.qK.length Zl ZxZ ZCE,YG wm (ZP Zc) Zk p0.qQ.length Zj ZiL Zad,ow wm Zd a24 z23.length c25 z23,YA wm (ZN (Zt .i64)) (a6,c7) x1.Yc] ZJI) (ZnE v201 ZeH WW Kr) gN rfl (Y9.fn ZzL (Zf lk (Zf lk (Zf lk (Zf lk Zz))))) ?_ (WF.begin (args:= [_,_,_,_]) (fn:=Tryz.f60) Kq0 (by exact rfl) Tryz.ntmps60 (by simp) ?_)
         ·clear hL hS;rintro⟨ZCF,ZCE⟩ v ZJI hL ⟨ZLf,ZBD,n256,ZxZ,rfl,hS⟩;obtain rfl:=hS.on k0;dsimp only [ZnE] at hL;obtain⟨ZGZ,ZMJ,hL⟩:=qZ hL;refine WO.hv gN rfl (XY (e:=Zy) hS k4 Za3 lk lk (hS.Xj k0) rfl ZMJ) ?_;rintro _ ZVq ⟨ZXf,ZK0,rfl,hS⟩;refine r3 ?_;exact YT.YU _ hL ⟨_,_,ZXf,ZK0,ZGZ.length,a208,ZsX,ZeH.length,ZxZ,rfl,hS.only sl,Yv⟩
         ·skip;simp only [Z4,Z9,Nat.reduceAdd];refine r3 ?_;rintro _ Z3t ⟨ZQW,Z0d,rfl,hS⟩;refine r4 ?_;refine WC.YD mixed Kq0 ?_;refine r5 ?_;obtain⟨ZLL,Zt5,hL⟩:=qZ hL;obtain⟨Z6l,Z1O,Z67,n269,Z5K,Zzi,ZIH,ZU2⟩:=hS.atS k10 Zt5;refine WX.w gN rfl (Yn ZeM Zbf lk lk (hS.YP k10) ZIH Zt5) ?_ rfl;refine r3 ?_;obtain⟨Zw2,ZFK,hL⟩:=qZ hL;obtain⟨Z6i,Z1M,_,ZIE,ZJk,ZUl⟩:=Src.at_ (hS.inS k10 Zt5 Zzi).2.1 ZFK;refine WX.w gN rfl (Yn Wz Y3 lk lk (hS.inS k10 Zt5 Zzi).1 ZIE ZFK) ?_ rfl;refine WX.w gN rfl (YK ZbO Y3 (YF fh rfl) ZJk (j:=0) rfl rfl (ws:= (cE Zw2)) rfl) ?_ rfl;refine WX.hn gN rfl (Zha hS Za9 (vs:= [.bool false,.int .i64 0,.int .i64 0]) rfl) ?_ rfl;rintro _ Z3q ⟨Z6h,Z0c,rfl,hS⟩;refine WX.hu gN (Ug hS k0 Y3 lk lk (vs:= (cE Zw2)) rfl rfl rfl rfl (cs':= (cE Zw2)) rfl) ?_ rfl rfl [] Kq0 Yg.e;rintro ZVp hS;refine r9 ?_;refine cn hL ?_ ?_
          ·intro hc hL;refine r1 ?_;refine WC.YD mixed Kq0 ?_;refine r3 ?_;refine WX.wr (fun x=>x=YO) hS gN rfl (fun _ _ hR=>Y4 Zky (YF fh rfl) (At.eqv (hR YO rfl) (hS.KC k5)) (j:=1) rfl (v:= .slice Zm p0.qK.length Zl) rfl) ?_ rfl rfl;rintro Z3p e278 hS;refine r1 ?_;refine WX.wr (fun x=>x=ZQW) hS gN rfl (fun _ _ hR=>Y4 WT (YF fh rfl) (At.eqv (hR ZQW rfl) (hS.KC k1)) (j:=1) rfl (v:= .int .i64 U1.place) rfl) ?_ rfl rfl;rintro Z3o e280 hS;refine r6 ?_;obtain⟨ZLJ,ZpO,hL⟩:=qZ hL;obtain⟨Z6e,Z1K,Z66,n285,Z5J,ZIj,Zsb,ZU0⟩:=hS.atS k10 ZpO;refine WX.w gN rfl (Yn Zg4 Uf lk lk (hS.YP k10) Zsb ZpO) ?_ rfl;refine r3 ?_;refine WX.hn gN rfl (Q8 (e:= (Zt .i64)) hS XP XE Kb rfl rfl rfl (Zu lk ZT) rfl [((),U1.msg)] rfl (xs:= [U1.msg]) rfl (by intro q hq;simp only [List.mem_cons,List.not_mem_nil,or_false] at hq;subst hq;exact trivial) rfl) ?_ rfl;rintro _ ZVo ⟨Z6b,ZZ9,rfl,hS⟩;obtain⟨ZCt,ZMI,hL⟩:=qZ hL;have hS:=hS.Kc k11 ZpO ZIj;refine WX.hv gN rfl (XY (e:= (Zt .i64)) hS k1 Xk lk lk (hS.Xj k2) (hS.on k2) ZMI) ?_ rfl rfl [3,5] Kq0 (.c (.s (.s .z)) (hS.dj (.c k1 (.c k7 .n))) (.c (.s .z) (hS.dj (.c k1 (.c k3 .n))) Yg.e));rintro _ ZVn ⟨ZQ9,ZEG,rfl,hS⟩;obtain⟨ZR7,ZM9,hL⟩:=qZ hL;refine WX.w gN rfl (Yn Zg4 Uf lk lk (hS.hlen k1) Zsb ZM9) ?_ Kq0;refine WX.hu gN (ZdM hS k1 Uf (YF fh rfl) (YF (ZC rfl fh) rfl) Zsb ZpO (j:=0) rfl (vs:= [.slice ZQ9 ZCt.length ZEG]) rfl rfl rfl rfl rfl (cs':= [.slice ZQ9 ZCt.length ZEG]) rfl rfl rfl) ?_ rfl Kq0 [] Kq0 Yg.e;rintro Z3m hS;obtain⟨ZMo,ZYe,hS⟩:=hS.Kj (.c k0 (.c k0 .n)) ZpO;refine JC ?_;refine WO.w gN rfl (YS ZhA (Zu lk (Zu lk (Zu lk (Zu lk (Zu lk ZT))))) rfl (cs':= [.int .i64 1,.int .i64 U1.place,.int .i64 x1.ZX,.int .i64 U1.msg,.int .i64 U1.hops]) rfl) ?_;refine WO.hn gN rfl (Q8 (e:=Zy) hS ZeK KM Zaq rfl rfl rfl (Zu lk ZT) rfl [((),(Zv.mk 1 U1.place x1.ZX U1.msg U1.hops))] rfl (xs:= [(Zv.mk 1 U1.place x1.ZX U1.msg U1.hops)]) rfl (by intro q hq;simp only [List.mem_cons,List.not_mem_nil,or_false] at hq;subst hq;exact trivial) rfl) ?_;rintro _ Z3k ⟨ZWR,ZZ8,rfl,hS⟩;refine r5 ?_;exact Yk.XF rfl (ZU lk ZE) ⟨_,hL,⟨(some ⟨ZWR,0,none⟩),2,1,ZMo,rfl,hS.only sl⟩⟩
          ·intro hc hL;cases hL
        ·intro hc hL;refine r3 ?_;refine WO.hn gN rfl (Q8 (e:=Ze) hS ZaJ Js Zb1 rfl rfl rfl (Zu lk ZT) rfl [((),U1)] rfl (xs:= [U1]) rfl (by intro q hq;simp only [List.mem_cons,List.not_mem_nil,or_false] at hq;subst hq;exact trivial) rfl) ?_;rintro _ Z3j ⟨Z58,ZZ7,rfl,hS⟩;obtain⟨ZGY,ZMH,hL⟩:=qZ hL;refine WO.hv gN rfl (XY (e:=Ze) hS k3 K8 lk lk (hS.Xj k0) (hS.on k0) ZMH) ?_;rintro _ Z3i ⟨ZW6,ZWn,rfl,hS⟩;refine r3 ?_;exact YT.YU _ hL ⟨_,_,ZwG,c203,v201.length,ZW6,ZWn,ZGY.length,ZtC,rfl,hS.only sl,Yv⟩
      ·intro hc hL;refine r5 ?_;refine WC.YD mixed Kq0 ?_;refine r7 ?_;obtain⟨ZR5,ZpM,hL⟩:=qZ hL;obtain⟨Z57,Z1F,ZW5,n310,ZWm,Zzh,ZzY,ZUY⟩:=hS.atS k5 ZpM;obtain⟨e1,e2,e3⟩:a194=ZW5∧n195=n310∧c196=ZWm:=by have z:=Zm6.symm.trans Zzh;simpa only [Prod.mk.injEq] using z
       subst e1 e2 e3;refine WX.w gN rfl (Yn ZeL Ue lk lk (hS.YP k5) ZzY ZpM) ?_ rfl;have hS:=hS.Kc k5 ZpM Zzh;refine WX.hu gN (ZdM hS k0 Ue (YF fh rfl) (YF (ZC rfl fh) rfl) ZzY ZpM (j:=0) rfl (vs:= [.slice a208 ZeH.length ZsX]) rfl rfl rfl rfl rfl (cs':= [.slice a208 ZeH.length ZsX]) rfl rfl rfl) ?_ rfl rfl [] Kq0 Yg.e;rintro Z3h hS;obtain⟨ZMm,ZYc,hS⟩:=hS.Kj (.c k0 (.c k2 .n)) ZpM;refine r7 ?_;exact Ya.YU (Zzn _ _ hL ⟨_,_,ZwG,c203,v201.length,ZtC,ZMm,rfl,hS.only sl,Yv⟩)
     ·intro hc hL;refine r5 ?_;exact YT.YU _ hL ⟨_,_,ZkF,Zko,v168.length,ZtD,ZiL,ZlG,rfl,hS.only sl,Yv⟩
   ·intro hc hL;refine r6 ?_;refine cn hL ?_ ?_
    ·intro hc hL;refine r1 ?_;refine WC.YD mixed Kq0 ?_;refine r6 ?_;obtain⟨ZLI,ZyT,hL⟩:=qZ hL;obtain⟨Z56,Z1E,ZW4,n319,ZWl,Zr4,ZTY,ZUX⟩:=hS.atS k7 ZyT;refine r4 ?_;obtain⟨Zvb,ZFI,hL⟩:=qZ hL;obtain⟨Z55,Z1D,_,ZIC,ZJh,ZUi⟩:=Src.at_ (hS.inS k7 ZyT Zr4).2.1 ZFI;refine WX.w gN rfl (Yn Wz Y3 lk lk (hS.inS k7 ZyT Zr4).1 ZIC ZFI) ?_ rfl;refine WX.w gN rfl (YK ZbO Y3 (YF fh rfl) ZJh (j:=0) rfl rfl (ws:= (cE Zvb)) rfl) ?_ rfl;refine WX.hn gN rfl (Zha hS Za9 (vs:= [.bool false,.int .i64 0,.int .i64 0]) rfl) ?_ rfl;rintro _ Z3g ⟨Z54,ZZ6,rfl,hS⟩;refine WX.hu gN (Ug hS k0 Y3 lk lk (vs:= (cE Zvb)) rfl rfl rfl rfl (cs':= (cE Zvb)) rfl) ?_ rfl rfl [] Kq0 Yg.e;rintro Z3f hS;refine r16 ?_;refine cn hL ?_ ?_
     ·intro hc hL;refine WC.YD mixed Kq0 ?_;refine r6 ?_;obtain⟨ZG6,ZpL,hL⟩:=qZ hL;obtain⟨Z53,Z1C,ZW3,n331,ZWk,Zm3,ZTX,ZUW⟩:=hS.atS k8 ZpL;obtain⟨e1,e2,e3⟩:ZW4=ZW3∧n319=n331∧ZWl=ZWk:=by have z:=Zr4.symm.trans Zm3;simpa only [Prod.mk.injEq] using z
      subst e1 e2 e3;refine r8 ?_;refine WX.w gN rfl (YS Zkq (Zu lk (Zu lk ZT)) rfl (cs':= [.bool false,.int .i64 x1.at_,.int .i64 x1.age]) rfl) ?_ rfl;obtain⟨ZR4,ZyR,hL⟩:=qZ hL;obtain⟨Z52,Z1B,_,ZzX,ZJg,ZUh⟩:=Src.at_ (hS.inS k8 ZpL Zm3).2.1 ZyR;refine WX.w gN rfl (Yn Wz Y3 lk lk (hS.inS k8 ZpL Zm3).1 ZzX ZyR) ?_ rfl;have hS:=hS.Kc k8 ZpL Zm3;refine WX.hu gN (KP (e:=Zc) (ZA.mk false x1.at_ x1.age) () hS k1 Y3 (YF fh rfl) (YF (ZC rfl fh) rfl) ZzX ZyR ZJg (j:=0) rfl (vs:= [.bool false,.int .i64 x1.at_,.int .i64 x1.age]) rfl rfl rfl rfl rfl (cs':= [.bool false,.int .i64 x1.at_,.int .i64 x1.age]) rfl rfl trivial) ?_ rfl rfl [] Kq0 Yg.e;rintro h336 ⟨hS,ZZI⟩;obtain⟨ZMl,ZYb,hS⟩:=hS.Kj (.c k1 (.c k0 .n)) ZpL;refine r2 ?_;have hS:=hS.nil (e:=Zy);exact YT.YU _ hL ⟨_,_,none,0,0,Yr,ZMl,Yq,rfl,hS.only sl,Yv⟩
     ·intro hc hL;refine r2 ?_;have hS:=hS.nil (e:=Zy);exact YT.YU _ hL ⟨_,_,none,0,0,Yr,Yw,Yq,rfl,hS.only sl,Yv⟩
    ·intro hc hL;refine r2 ?_;have hS:=hS.nil (e:=Zy);exact YT.YU _ hL ⟨_,_,none,0,0,Yr,Yw,Yq,rfl,hS.only sl,Yv⟩
end Go.Proofs.YtbmbbcaaimehkaaGreat
end
end
