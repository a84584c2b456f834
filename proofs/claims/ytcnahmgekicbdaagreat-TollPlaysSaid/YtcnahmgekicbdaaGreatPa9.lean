/- Plays Part 9 of the proof. -/
import Derived.Test.YtcnahmgekicbdaaGreatPa8
set_option linter.all false
set_option maxHeartbeats 2000000
section
noncomputable section
namespace Go.Xy
open Go.Lf
section
variable {X:Ctx} {n wm:Nat} {rd:Option Nat} {ops:Array Oper} {ol:List Oper} {fr:Fr} {ds:List Deferred} {h h0:H} {ty:TypeId} {p:String} {af:Array Edge} {g:Option (Nat×Bool)} {T:Nat ->Prop} {G Gr:List (Ast wm)} {d l df:Nat} {LO:Qe} {ps:Array Tmp} {Xj bd:Code}
theorem Zfb {α β:Type} {body:α ->(α ->Option β) ->Option β} (C:α ->β ->Prop) (hb:∀ next:α ->Option β,(∀ x r,next x=some r ->C x r) ->∀ x r,body x next=some r ->C x r):∀ F x r,loop F body x=some r ->C x r:=by
 intro F
 induction F with
 | zero=>intro x r h;cases h
 | succ F ih=>intro x r h;exact hb _ ih x r h
def dne (c:Code):Qe ->Qe
 | .loop _ _ fr n ps Xj bd df=>.loop .done (some c) fr n ps Xj bd df
 | A=>A
def lst (b:Bool) (c:Code) (A:Qe):Qe:=bif b then dne c A else A
inductive ZwC:XX ->Code ->Prop
 | ret:ZwC .ret .ret
 | exit (id:Nat):ZwC (.exit id) (.exit id)
structure BdS (n lo l:Nat) (fr:Fr) (ps:Array Tmp) (Xj bd:Code) (df:Nat) (R:Bool ->H ->Prop) (e:XX) (s:Fs):Prop where
 out:s.h.at l= .loop .busy none fr n ps Xj bd df∧
  ((e= .normal∧∀ h',(lo <=l ->Up lo (fun i=>i=l) s.h h') ->h'.at l= .loop .ready none fr n ps Xj bd df ->R true h')∨
   (∃ c,ZwC e c∧∀ h',(lo <=l ->Up lo (fun i=>i=l) s.h h') ->h'.at l= .loop .done (some c) fr n ps Xj bd df ->R false h'))
structure AsS (X:Ctx) (n wm lo l:Nat) (fr:Fr) (ps:Array Tmp) (Xj bd:Code) (df:Nat) (R:Bool ->H ->Prop) (e:XX) (s:Fs):Prop where
 out:e= .normal∧s.h.at l= .loop .ready none fr n ps Xj bd df∧∀ h1,(lo <=l ->Up lo (fun i=>i=l) s.h h1) ->h1.at l= .loop .busy none fr n ps Xj bd df ->WC X n wm (some l) bd ⟨s.fr,s.ds,h1,s.wr⟩ (BdS n lo l fr ps Xj bd df R)
theorem Zu0.mkS {l:Nat} {args:List Value} {fr fr1:Fr} {ps:Array Tmp} {Xj bd:Code} {df:Nat} {R:Bool ->H ->Prop} (lo:Nat) (hat:h.at l= .loop .ready none fr n ps Xj bd df) (hw:wm <=l) (hl:Nat.beq args.length ps.toList.length=true) (hs:Je (ps.toList.zip args) n fr=some fr1)
 (k:WC X n wm (some l) Xj ⟨fr1,[],h,none⟩ (AsS X n wm lo l fr ps Xj bd df R)):Zu0 X l args.toArray wm h R:=by
 obtain⟨e1,s1,⟨rfl,h1,k1⟩,j1⟩:=k;have o1:(s1.h.at l).own=true:=by rw [h1];rfl
 have s1l:=QA h1 rfl;obtain⟨e2,s2,⟨h2,k2⟩,j2⟩:=k1 (s1.h.put l (.loop .busy none fr n ps Xj bd df)) (fun hl=>Up.put hl o1) (XH s1l _);have o2:(s2.h.at l).own=true:=by rw [h2];rfl
 have s2l:=QA h2 rfl
 have key:∃ b A,R b (s2.h.put l A)∧Ku l e2 s2=some (.fin (.ret (.bool b)) (s2.h.put l A)):=by
  rcases k2 with⟨rfl,k2⟩ | ⟨c,hx,k2⟩
  ·refine⟨true,_,k2 _ (fun hl=>Up.put hl o2) (XH s2l _),?_⟩;unfold Ku;rw [h2]
  ·refine⟨false,_,k2 _ (fun hl=>Up.put hl o2) (XH s2l _),?_⟩;unfold Ku;rw [h2];cases hx <;> rfl
 obtain⟨b,A,hR,hev⟩:=key;refine⟨b,s2.h.put l A,hR,?_⟩
 classical
 let ih:JU ->Option XP:=fun j=>if j= .code Xj n wm (some l) ⟨fr1,[],h,none⟩ then some (.code .normal s1) else ZaZ (.code bd n wm (some l) {s1 with h:=s1.h.put l (.loop .busy none fr n ps Xj bd df)}) (.code e2 s2) j
 have HI:∀ j r,ih j=some r ->XI X j r:=by
  intro j r e;dsimp only [ih] at e;split at e
  ·rename_i hj;cases e;rw [hj];exact j1
  ·exact U3 (X:=X) j2 j r e
 refine Za4 (C:=cfg X fun _=>false) (ih:=ih) HI ?_;unfold Zd3;rw [hat];have hl':Nat.beq args.toArray.toList.length ps.toList.length=true:=hl;dsimp only;rw [Nm0 hw,hl'];simp only [Bool.and_self,Cq1];have hs':Je (ps.toList.zip args.toArray.toList) n fr=some fr1:=hs;rw [hs'];dsimp only;have i1:ih (.code Xj n wm (some l) {fr:=fr1,ds:= [],h:=h})=some (.code .normal s1):=by dsimp only [ih];rw [if_pos rfl]
 rw [i1];show Zao ih l bd n wm .normal s1=_;unfold Zao;dsimp only;rw [h1];dsimp only
 have i2:ih (.code bd n wm (some l) {s1 with h:=s1.h.put l (.loop .busy none fr n ps Xj bd df)})=some (.code e2 s2):=by
  dsimp only [ih];split
  ·rename_i hj;exfalso;injection hj with _ _ _ _ hs
   have:({s1 with h:=s1.h.put l (.loop .busy none fr n ps Xj bd df)}:Fs).h.at l=h.at l:=by rw [hs]
   dsimp only at this;rw [XH s1l,hat] at this;cases this
  ·exact U4 _ _
 rw [i2];exact hev
theorem WO.ZQi {Q:XX ->Fs ->Prop} {fo:Operand} {xs:Array Operand} {ts:Array TypeId} {vs:List Value} {n2:Nat} {QO fr1:Fr} {as2 bd2:Code} (hg:YO ops ⟨some d,.call {callee:= .value fo,args:=xs,argTypes:=ts},ty,p,af,g⟩ fr) (hd:Nat.blt d n=true) (hf:Xe fr fo=some (.func (.yield l) #[] #[])) (hx:evs (Xe fr) xs.toList=some vs)
 (hS:Sp wm T h0 G h) (pk:Pk G (ob wm l LO) Gr) (hLO:LO= .loop .ready none QO n2 ps as2 bd2 df) (hl:Nat.beq vs.length ps.toList.length=true) (hs:Je (ps.toList.zip vs) n2 QO=some fr1)
 (k:WC X n2 wm (some l) as2 ⟨fr1,[],h,none⟩ (AsS X n2 wm wm l QO ps as2 bd2 df (fun b h'=>WO X n wm rd ops ol ⟨Tr.set fr d (.bool b),ds,h',none⟩ Q))):
 WO X n wm rd ops (⟨some d,.call {callee:= .value fo,args:=xs,argTypes:=ts},ty,p,af,g⟩::ol) ⟨fr,ds,h,none⟩ Q:=by
 obtain⟨h1,h2,h3⟩:=hS.get pk;have hat:=h1.trans hLO;exact WO.yld hg hd hf hx hat (Nb0 hl) (Zu0.mkS (lo:=wm) hat h2 hl hs k) fun b h' hk=>hk
theorem AsS.sp {QO:Fr} {R:Bool ->H ->Prop} (hLO:LO= .loop .ready none fr n ps Xj bd df) (hS:Sp wm T h0 G h) (pk:Pk G (ob wm l LO) Gr) (k:∀ h1,Sp wm T h0 (ob wm l (bsy LO)::Gr) h1 ->WC X n wm (some l) bd ⟨QO,ds,h1,none⟩ (BdS n wm l fr ps Xj bd df R)):AsS X n wm wm l fr ps Xj bd df R .normal ⟨QO,ds,h,none⟩:=by
 obtain⟨h1,h2,h3⟩:=hS.get pk;refine⟨⟨rfl,h1.trans hLO,fun h' u e=>k h' ?_⟩⟩;exact hS.one pk (u h2) (fun _ q=>q) ⟨by rw [e,hLO];rfl,h2,by rw [hLO];rfl⟩ fun _ q=>.inl q
theorem BdS.sp {QO:Fr} {R:Bool ->H ->Prop} (hLO:LO= .loop .ready none fr n ps Xj bd df) (hS:Sp wm T h0 G h) (pk:Pk G (ob wm l (bsy LO)) Gr) (k:∀ h1,Sp wm T h0 (ob wm l LO::Gr) h1 ->R true h1):BdS n wm l fr ps Xj bd df R .normal ⟨QO,ds,h,none⟩:=by
 obtain⟨h1,h2,h3⟩:=hS.get pk;refine⟨⟨h1.trans (by rw [hLO];rfl),.inl ⟨rfl,fun h' u e=>k h' ?_⟩⟩⟩;exact hS.one pk (u h2) (fun _ q=>q) ⟨by rw [e,hLO],h2,by rw [hLO];rfl⟩ fun _ q=>.inl q
theorem BdS.stop {QO:Fr} {R:Bool ->H ->Prop} {e:XX} {c:Code} (hx:ZwC e c) (hLO:LO= .loop .ready none fr n ps Xj bd df) (hS:Sp wm T h0 G h) (pk:Pk G (ob wm l (bsy LO)) Gr) (k:∀ h1,Sp wm T h0 (ob wm l (lst true c LO)::Gr) h1 ->R false h1):BdS n wm l fr ps Xj bd df R e ⟨QO,ds,h,none⟩:=by
 obtain⟨h1,h2,h3⟩:=hS.get pk;refine⟨⟨h1.trans (by rw [hLO];rfl),.inr ⟨c,hx,fun h' u e=>k h' ?_⟩⟩⟩;exact hS.one pk (u h2) (fun _ q=>q) ⟨by rw [e,hLO];rfl,h2,by rw [hLO];rfl⟩ fun _ q=>.inl q
structure RgS (X:Ctx) (wm l:Nat) (fr:Fr) (n:Nat) (ps:Array Tmp) (Xj bd:Code) (df:Nat) (ds:List Deferred) (Q:XX ->Fs ->Prop) (h:H):Prop where
 low:wm <=l
 k:(h.at l= .loop .ready none fr n ps Xj bd df∧∀ h',Up wm (fun i=>i=l) h h' ->Q .normal ⟨fr,⟨.collected df,#[]⟩::ds,h',none⟩)∨
  (∃ c,h.at l= .loop .done (some c) fr n ps Xj bd df∧∀ h',Up wm (fun i=>i=l) h h' ->WC X n wm none c ⟨fr,⟨.collected df,#[]⟩::ds,h',none⟩ Q)
theorem RgS.sp {Q:XX ->Fs ->Prop} (hLO:LO= .loop .ready none fr n ps Xj bd df) (hS:Sp wm T h0 G h) (pk:Pk G (ob wm l LO) Gr) (k:∀ h',Sp wm T h0 Gr h' ->Q .normal ⟨fr,⟨.collected df,#[]⟩::ds,h',none⟩):RgS X wm l fr n ps Xj bd df ds Q h:=by
 obtain⟨h1,h2,h3⟩:=hS.get pk;refine⟨h2,.inl ⟨h1.trans hLO,fun h' u=>k h' ?_⟩⟩;exact Sp.step (Ga:= [ob wm l LO]) (Gb:= []) (hS.perm pk.perm) u (fun i e=>⟨_,List.mem_singleton.2 rfl,e⟩) Yo.nil fun i ⟨A,m,f⟩=>by simp at m
theorem RgS.stop {Q:XX ->Fs ->Prop} {c:Code} (hLO:LO= .loop .ready none fr n ps Xj bd df) (hS:Sp wm T h0 G h) (pk:Pk G (ob wm l (lst true c LO)) Gr) (k:∀ h',Sp wm T h0 Gr h' ->WC X n wm none c ⟨fr,⟨.collected df,#[]⟩::ds,h',none⟩ Q):RgS X wm l fr n ps Xj bd df ds Q h:=by
 obtain⟨h1,h2,h3⟩:=hS.get pk;refine⟨h2,.inr ⟨c,h1.trans (by rw [hLO];rfl),fun h' u=>k h' ?_⟩⟩;exact Sp.step (Ga:= [ob wm l (lst true c LO)]) (Gb:= []) (hS.perm pk.perm) u (fun i e=>⟨_,List.mem_singleton.2 rfl,e⟩) Yo.nil fun i ⟨A,m,f⟩=>by simp at m
theorem WC.ZzP {Q:XX ->Fs ->Prop} {gg:Operand} {f:FuncId} {first cap:List Value} (hS:Sp wm T h0 G h) (hg:Xe fr gg=some (.func (.func f) first.toArray cap.toArray)) (hf:(X.fns.get f).isSome=true)
 (k:∀ h' l df LO,LO=Qe.loop .ready none fr n ps Xj bd df ->Sp wm T h0 (ob wm l LO::ob wm df .deferred::G) h' ->WR X f (first ++ ([Value.func (.yield l) #[] #[]] ++ cap)).toArray wm h' (fun _ h2=>RgS X wm l fr n ps Xj bd df ds Q h2)):
 WC X n wm none (.rangeFunc gg ps Xj bd) ⟨fr,ds,h,none⟩ Q:=by
 have s1:Sp wm T h0 (ob wm h.size .deferred::G) (h.push .deferred):=Znh rfl hS
 have s2:Sp wm T h0 (ob wm (h.size + 1) (.loop .ready none fr n ps Xj bd h.size)::ob wm h.size .deferred::G) ((h.push .deferred).push (.loop .ready none fr n ps Xj bd h.size)):=by
  have:=Znh (A:= .loop .ready none fr n ps Xj bd h.size) rfl s1
  rwa [H.size_push] at this
 obtain⟨fn,hf⟩:=Option.isSome_iff_exists.1 hf;obtain⟨e,h3,⟨v,rfl,hr⟩,hj⟩:=k _ _ _ _ rfl s2
 have hac:KQ (cfg X fun _=>false).X ((h.push .deferred).push (.loop .ready none fr n ps Xj bd h.size)) (.func (.func f) first.toArray cap.toArray) [Value.func (.yield (h.size + 1)) #[] #[]]=some (.enter f (first ++ ([Value.func (.yield (h.size + 1)) #[] #[]] ++ cap)).toArray,.none):=by
  unfold KQ;have:(cfg X fun _=>false).X.fns.get f=some fn:=hf;dsimp only;rw [this];simp only [List.append_assoc]
 rcases hr.k with⟨hat,hk⟩ | ⟨c,hat,hk⟩
 ·refine⟨.normal,_,hk (h3.put (h.size + 1) (.loop .exhausted none fr n ps Xj bd h.size)) (Up.put hr.low (by rw [hat];rfl)),?_⟩;refine Qq.2 (Kg (C:=cfg X fun _=>false) (ih:=ZaZ (.call f _ wm _) (.fin (.ret v) h3)) (U3 hj) ?_);show Jp (cfg X fun _=>false) _ gg n wm none (h.size + 1) ⟨fr,⟨.collected h.size,#[]⟩::ds,(h.push .deferred).push (.loop .ready none fr n ps Xj bd h.size),none⟩=_;unfold Jp;dsimp only;rw [hg];dsimp only;rw [hac];dsimp only;unfold Ww;rw [U4];dsimp only;rw [hat]
  rfl
 ·obtain⟨e2,s2,hq,hj2⟩:=hk (h3.put (h.size + 1) (.loop .exhausted (some c) fr n ps Xj bd h.size)) (Up.put hr.low (by rw [hat];rfl));refine⟨e2,s2,hq,?_⟩
  classical
  let ih:JU ->Option XP:=fun j=>if j= .code c n wm none ⟨fr,⟨.collected h.size,#[]⟩::ds,h3.put (h.size + 1) (.loop .exhausted (some c) fr n ps Xj bd h.size),none⟩ then some (.code e2 s2) else ZaZ (.call f (first ++ ([Value.func (.yield (h.size + 1)) #[] #[]] ++ cap)).toArray wm ((h.push .deferred).push (.loop .ready none fr n ps Xj bd h.size))) (.fin (.ret v) h3) j
  have HI:∀ j r,ih j=some r ->XI X j r:=by
   intro j r e;dsimp only [ih] at e;split at e
   ·rename_i hj';cases e;rw [hj'];exact hj2
   ·exact U3 (X:=X) hj j r e
  refine Qq.2 (Kg (C:=cfg X fun _=>false) (ih:=ih) HI ?_);show Jp (cfg X fun _=>false) _ gg n wm none (h.size + 1) ⟨fr,⟨.collected h.size,#[]⟩::ds,(h.push .deferred).push (.loop .ready none fr n ps Xj bd h.size),none⟩=_;unfold Jp;dsimp only;rw [hg];dsimp only;rw [hac];dsimp only;unfold Ww
  have i1:ih (.call f (first ++ ([Value.func (.yield (h.size + 1)) #[] #[]] ++ cap)).toArray wm ((h.push .deferred).push (.loop .ready none fr n ps Xj bd h.size)))=some (.fin (.ret v) h3):=by
   dsimp only [ih];split
   ·rename_i hj';cases hj'
   ·exact U4 _ _
  rw [i1];dsimp only;rw [hat];show ih (.code c n wm none _)=_;dsimp only [ih];rw [if_pos rfl]
theorem ZpG {κ ν:Type} [DecidableEq κ] {kv:κ ->Value} {vv:ν ->Value} {kt vt:TypeId} {i:Nat} {ll:List (κ×ν)} {t:TypeId} {x y z:Operand} {k:κ} {v:ν} (hS:Sp wm T h0 G h) (pk:Pk G (mp wm kv vv (some i) ll) Gr) (K:ZkQ X.P kt kv) (hu:X.P.underlying t=some (.map kt vt)) (hx:Xe fr x=some (.map (some i))) (hy:Xe fr y=some (kv k)) (hz:Xe fr z=some (vv v)):
 HU X wm ⟨none,.insert t x y z,ty,p,af,g⟩ fr h (fun j=>j=i) (fun h'=>Sp wm T h0 (mp wm kv vv (some i) (Ztn ll k v)::Gr) h'):=
 ZRf (ty:=ty) (p:=p) (af:=af) (g:=g) hS pk K hu hx hy hz
section
variable {sf:ST} {m:Nat}
theorem WX.Za1 {Q:Fr ->H ->Prop} {o:Oper} {c:Bool} (_:Ze ops o fr c) (h1:c=true ->WX X n wm rd ops sf m h (o::ol) fr Q) (h2:c=false ->WX X n wm rd ops sf m h (o::ol) fr Q):WX X n wm rd ops sf m h (o::ol) fr Q:=by
 cases c
 ·exact h2 rfl
 ·exact h1 rfl
theorem WX.hv0 {Q:Fr ->H ->Prop} {op:Op} {T:Nat ->Prop} {K:Value ->H ->Prop} (hg:YO ops ⟨some d,op,ty,p,af,g⟩ fr) (hd:Nat.blt d n=true) (s:HV X wm ⟨some d,op,ty,p,af,g⟩ fr h T K) (h0:∀ x,T x ->False)
 (k:∀ v h',K v h' ->WX X n wm rd ops sf (m + 1) h' ol (Tr.set fr d v) Q) (hh:YJ ⟨some d,op,ty,p,af,g⟩=false) (hM:okM ops sf m ⟨some d,op,ty,p,af,g⟩=true):
 WX X n wm rd ops sf m h (⟨some d,op,ty,p,af,g⟩::ol) fr Q:=by
 obtain⟨v,E,h1,ha,hE,hT,hz,hk⟩:=s;refine⟨fun hb=>?_⟩;by_cases hw:wm <=h.size
 ·have hs:=Zbf (wm:=wm) (rd:=rd) hg (.inl ha) hE
  exact WE.cons (T:=fun x=>E.tgt=some x) (xs0:= []) (h2:=h1) (v:=v) [] [] none ⟨fun _=>⟨h1,rfl,hs.1,hs.2.1 hw⟩,hs.2.2 hw,fun d' e=>(by cases e;rwa [Nat.blt_eq] at hd),fun q=>Bool.noConfusion (hh.symm.trans q),fun _ _ _ z=>by simp at z⟩ (fun _ z=>by simp at z) (fun x hx=>(h0 x (hT x hx)).elim)
   (fun x hx=>(h0 x (hT x hx)).elim) (fun hh q hq=>.inl (Ws hM hh q hq)) (fun x j C z=>by cases z) ((k v h1 hk).out fun q hq x hx=>Nat.lt_of_lt_of_le (hb q hq x hx) hz)
 ·exact WE.cons (T:=fun _=>False) (xs0:= []) (h2:=h1) (v:=v) [] [] none ⟨fun z=>absurd z hw,fun _ z=>z.elim,fun d' e=>(by cases e;rwa [Nat.blt_eq] at hd),fun q=>Bool.noConfusion (hh.symm.trans q),fun _ z=>z.elim⟩ (fun _ z=>by simp at z) (fun x hx=>hx.elim)
   (fun x hx=>hx.elim) (fun hh q hq=>.inl (Ws hM hh q hq)) (fun x j C z=>by cases z) ((k v h1 hk).out fun q hq x hx=>Nat.lt_of_lt_of_le (hb q hq x hx) hz)
theorem Sp.djs {T0:Nat ->Prop} {G Ga Gr:List (Ast wm)} {B:Ast wm} (s:Sp wm T0 h0 G h) (p:Sel G (B::Ga) Gr):∀ x,Qa Ga x ->¬ B.fp x:=fun x ⟨A,hA,fa⟩ fb=>
 (List.pairwise_cons.1 (s.Zii p).dis).1 A hA x fb fa
inductive Lk (ops:Array Oper) (m:Nat) (R:Nat ->Prop):List (Nat×(Nat ->Prop)) ->Prop
 | n:Lk ops m R []
 | o {q:Nat×(Nat ->Prop)} {r:List (Nat×(Nat ->Prop))} (h:comp (Jb ops.toList 0 []) q.1 m=true):Lk ops m R r ->Lk ops m R (q::r)
 | d {q:Nat×(Nat ->Prop)} {r:List (Nat×(Nat ->Prop))} (h:∀ x,q.2 x ->¬ R x):Lk ops m R r ->Lk ops m R (q::r)
theorem Lk.get {R:Nat ->Prop} {r:List (Nat×(Nat ->Prop))} (h:Lk ops m R r):∀ q ∈ r,Cmp ops q.1 m∨∀ x,q.2 x ->¬ R x:=by
 induction h with
 | n=>intro q hq;simp at hq
 | o h1 _ ih=>intro q hq;rcases List.mem_cons.1 hq with z | z
              ·subst z;exact .inl h1
              ·exact ih q z
 | d h1 _ ih=>intro q hq;rcases List.mem_cons.1 hq with z | z
              ·subst z;exact .inr h1
              ·exact ih q z
theorem WX.wrM {Q:Fr ->H ->Prop} {T0:Nat ->Prop} {G:List (Ast wm)} {op:Op} {v:Value} (R:Nat ->Prop) (hS:Sp wm T0 h0 G h) (hg:YO ops ⟨some d,op,ty,p,af,g⟩ fr) (hd:Nat.blt d n=true) (ha:∀ g':H,g'.size=h.size ->(∀ x,R x ->g'.at x=h.at x) ->Qv X g' (Xe fr) ⟨some d,op,ty,p,af,g⟩=some (.val v,.none))
 (k:∀ h',h'.size=h.size ->Sp wm T0 h0 G h' ->WX X n wm rd ops ⟨(m,fun x=>¬ R x)::sf.s,sf.m,sf.p⟩ (m + 1) h' ol (Tr.set fr d v) Q) (hh:YJ ⟨some d,op,ty,p,af,g⟩=false) (hM:Lk ops m R sf.m):
 WX X n wm rd ops sf m h (⟨some d,op,ty,p,af,g⟩::ol) fr Q:=by
 have hsz:(Ja (Qn h R) h (mask (Qn h R) h)).size=h.size:=by rw [X5,Yb]
 have hvv:∀ x,¬ R x ->VV h (Ja (Qn h R) h (mask (Qn h R) h)) (Qn h R) x:=fun x hx=>by
  rcases Nat.lt_or_ge x h.size with z | z
  ·exact .inl ⟨z,Zb2.2 ⟨z,hx⟩⟩
  ·exact .inr (by rw [hsz];exact z)
 refine⟨fun hb=>WE.cons (T:=fun _=>False) (xs0:=Qn h R) (h2:=Ja (Qn h R) h (mask (Qn h R) h)) (v:=v) [(m,fun x=>¬ R x)] [] none ?_ (fun q hq=>?_) (fun _ z=>z.elim) (fun _ z=>z.elim) (fun hh q hq=>(hM.get q hq).imp id fun z x hx=>hvv x (z x hx)) (fun x j C z=>by cases z) ((k _ hsz (hS.up (Up.hide wm _ h))).out fun q hq x hx=>by rw [hsz];exact hb q hq x hx)⟩
 ·have:=Zbf (wm:=wm) (rd:=rd) hg (.inl (ha _ (Yb _ _) fun x hx=>ZCq hx)) (h1:=mask (Qn h R) h) rfl;have t0:(fun x:Nat=>Eff.tgt Eff.none=some x)=fun _=>False:=by funext x;simp [Eff.tgt]
  rw [t0] at this;exact⟨fun hw=>⟨_,rfl,this.1,this.2.1 (by rw [Yb];exact hw)⟩,fun _ z=>z.elim,fun d' e=>(by cases e;rwa [Nat.blt_eq] at hd),fun q=>Bool.noConfusion (hh.symm.trans q),fun _ z=>z.elim⟩
 ·rw [List.mem_singleton.1 hq];exact⟨rfl,fun x hx=>hvv x hx⟩
theorem ZdU {x:Nat} (h:X6 none x):False:=by obtain⟨o,e⟩:=h;cases e
theorem WX.XT {Q:Fr ->H ->Prop} {op:Op} {c:Bool} (hg:Ze ops ⟨some d,op,ty,p,af,g⟩ fr c) (hc:c=false) (hd:Nat.blt d n=true) (k:WX X n wm rd ops sf (m + 1) h ol (Tr.set fr d undef) Q) (hM:okM ops sf m ⟨some d,op,ty,p,af,g⟩=true):WX X n wm rd ops sf m h (⟨some d,op,ty,p,af,g⟩::ol) fr Q:=WX.off (hg.off hc) hd k hM
end
theorem Ziu {β:Type} {b:Bool} {x:Option β} {r:β} (h:(bif b then none else x)=some r):b=false∧x=some r:=by
 cases b
 ·exact⟨rfl,h⟩
 ·cases h
theorem UY (b:Bool):b=true∨b=false:=by cases b <;> simp
end
section
def ZWo (L:List Nat):List Deferred:=L.map fun r=>⟨.collected r,#[]⟩
def cds (wm:Nat) (L:List Nat):Ast wm where
 P:=fun h=>(∀ r ∈ L,h.at r= .deferred∧wm <=r)∧L.Nodup
 fp:=fun i=>i ∈ L
 loc:=fun _ k ⟨h1,h2⟩=>⟨fun r hr=>⟨by rw [k r hr];exact(h1 r hr).1,(h1 r hr).2⟩,h2⟩
 own:=fun⟨h1,_⟩ e=>⟨(h1 _ e).2,by rw [(h1 _ e).1];rfl⟩
section
variable {X:Ctx} {n wm:Nat} {G G1 G2 Gr:List (Ast wm)} {h h0:H} {T:Nat ->Prop} {df:Nat} {L:List Nat} {fr:Fr} {ds:List Deferred}
theorem Sp.Z21 (s:Sp wm T h0 G h):Sp wm T h0 (cds wm []::G) h:=s.add ⟨fun r hr=>(by cases hr),List.nodup_nil⟩ (fun i hi=>(by cases hi))
theorem Sp.Z20 (s:Sp wm T h0 G h) (p:Pk G (ob wm df .deferred) G1) (q:Pk G1 (cds wm L) G2):Sp wm T h0 (cds wm (df::L)::G2) h:=by
 have s:=s.perm (p.perm.trans (List.Perm.cons _ q.perm));have h1:=s.hold.all (ob wm df .deferred) (by simp);have h2:=s.hold.all (cds wm L) (by simp);have d:=s.hold.dis;rw [List.pairwise_cons,List.pairwise_cons] at d;obtain⟨d1,d2,d3⟩:=d;refine⟨s.wl,s.fz,s.keep,⟨fun A m=>?_,List.pairwise_cons.2 ⟨fun B m i f f'=>?_,d3⟩⟩,fun i f=>?_⟩
 ·rcases List.mem_cons.1 m with m | m
  ·rw [m];refine⟨fun r hr=>?_,List.nodup_cons.2 ⟨fun z=>d1 (cds wm L) (by simp) df rfl z,h2.2⟩⟩;rcases List.mem_cons.1 hr with e | e
   ·rw [e];exact⟨h1.1,h1.2.1⟩
   ·exact h2.1 r e
  ·exact s.hold.all A (by simp [m])
 ·rcases List.mem_cons.1 f with e | e
  ·exact d1 B (by simp [m]) i e f'
  ·exact d2 B m i e f'
 ·obtain⟨A,m,f⟩:=f;rcases List.mem_cons.1 m with m | m
  ·rw [m] at f;rcases List.mem_cons.1 f with e | e
   ·exact s.inn i ⟨ob wm df .deferred,by simp,e⟩
   ·exact s.inn i ⟨cds wm L,by simp,e⟩
  ·exact s.inn i ⟨A,by simp [m],f⟩
theorem JD.ZD5 {fn:Func} {R:K5 ->H ->Prop}:∀ {L:List Nat} {G:List (Ast wm)} {h:H} (_:Sp wm T h0 G h) (_:Pk G (cds wm L) Gr) (_:∀ h',Sp wm T h0 Gr h' ->JD X fn wm R .ret ⟨fr,ds,h',none⟩),JD X fn wm R .ret ⟨fr,ZWo L ++ ds,h,none⟩
 | [],_,h,hS,pk,k=>k h (hS.drop pk)
 | r::L,G,h,hS,pk,k=>by
   obtain⟨h1,h2⟩:=hS.get pk;have hr:=h1 r (by simp);have hn:=List.nodup_cons.1 h2;refine JD.col wm hr.2 hr.1 hr.2 fun h' u=>?_
   have s:Sp wm T h0 (cds wm L::Gr) h':=Sp.step (Ga:= [cds wm (r::L)]) (Gb:= [cds wm L]) (hS.perm pk.perm) u (fun i e=>⟨_,List.mem_singleton.2 rfl,by rw [e];exact List.mem_cons_self⟩)
    (Yo.one ⟨fun x hx=>⟨by rw [u.keep x (QA (h1 x (by simp [hx])).1 rfl) (fun e=>hn.1 (e ▸ hx))];exact(h1 x (by simp [hx])).1,(h1 x (by simp [hx])).2⟩,hn.2⟩)
    fun i ⟨A,m,f⟩=>.inl ⟨_,List.mem_singleton.2 rfl,by rw [List.mem_singleton.1 m] at f;exact List.mem_cons_of_mem _ f⟩
   exact JD.ZD5 s .z k
end
end
section
variable {X:Ctx} {n wm wm':Nat} {rd:Option Nat} {ops:Array Oper} {ol:List Oper} {m:Nat} {sf:ST} {fr:Fr} {h h0:H} {ty:TypeId} {p:String} {af:Array Edge} {g:Option (Nat×Bool)} {T:Nat ->Prop} {G Gr:List (Ast wm)} {d:Nat}
theorem ZW1 {a b:Bool} (ha:a=true) (h:(a && b)=false):b=false:=by cases a <;> simp_all
section
variable {α:Type} {e:UA α} {a a1 a2:Option Addr} {nn c n1 c1 n2 c2:Nat} {ps:Nat ->Option Addr×Nat×Nat} {xs:List (List α)}
def ZL4 (wm:Nat) (e:UA α) (a:Option Addr) (n c:Nat) (ps:Nat ->Option Addr×Nat×Nat) (xs:List (List α)) (i j:Nat):Ast wm where
 P:=fun h=>n=xs.length∧i < xs.length∧j < xs.length∧Qr (Zk5 (Zy e).sz (Zy e).pos) wm wm h a c ((Zy e).rows ps xs)∧Yo (Xm (Jd j (Jd i fun k x=>(Zy e).Xj wm (ps k) x)) 0 xs) h∧∀ k,X6 a k ->¬ Qa (Xm (Jd j (Jd i fun k x=>(Zy e).Xj wm (ps k) x)) 0 xs) k
 fp:=fun k=>X6 a k∨Qa (Xm (Jd j (Jd i fun k x=>(Zy e).Xj wm (ps k) x)) 0 xs) k
 loc:=fun f k ⟨h1,h0,h5,s,h2,h3⟩=>⟨h1,h0,h5,ZkF f (fun i q=>k i (.inl q)) s,h2.loc f fun i q=>k i (.inr q),h3⟩
 own:=fun⟨_,_,_,s,h2,_⟩ q=>q.elim (ZkE s) h2.own
theorem Sp.take2 {i j:Int} {x y:List α} (s:Sp wm T h0 G h) (pk:Pk G (Ym wm (Zy e) a nn c ps xs) Gr) (hi:ZW xs i=some x) (pi:ps i.toNat= (a1,n1,c1)) (hj:ZW xs j=some y) (pj:ps j.toNat= (a2,n2,c2)) (hne:(i==j)=false):
 Sp wm T h0 (ZL4 wm e a nn c ps xs i.toNat j.toNat::ow wm e a1 n1 c1 x::ow wm e a2 n2 c2 y::Gr) h:=by
 obtain⟨i1,i2,i3⟩:=Qu hi;obtain⟨j1,j2,j3⟩:=Qu hj
 have hne':j.toNat ≠ i.toNat:=fun q=>by
  have:i=j:=by rw [← i1,← j1,q]
  rw [this] at hne;simp at hne
 obtain⟨h1,so,hh,hd⟩:=s.get pk;have p1:=Ji (f:=fun k x=>(Zy e).Xj wm (ps k) x) xs 0 _ x i3;have p2:=Ji (f:=Jd i.toNat fun k x=>(Zy e).Xj wm (ps k) x) xs 0 _ y j3;rw [Nat.zero_add] at p1 p2;have e2:Jd i.toNat (fun k x=>(Zy e).Xj wm (ps k) x) j.toNat y= [ow wm e a2 n2 c2 y]:=by unfold Jd;rw [if_neg hne'];show [ow wm e (ps j.toNat).1 (ps j.toNat).2.1 (ps j.toNat).2.2 y]=_;rw [pj]
 have e1:(Zy e).Xj wm (ps i.toNat) x= [ow wm e a1 n1 c1 x]:=by show [ow wm e (ps i.toNat).1 (ps i.toNat).2.1 (ps i.toNat).2.2 x]=_;rw [pi]
 rw [e1] at p1;rw [e2] at p2;have hp:((Zy e).parts wm ps xs).Perm ([ow wm e a1 n1 c1 x] ++ ([ow wm e a2 n2 c2 y] ++ Xm (Jd j.toNat (Jd i.toNat fun k x=>(Zy e).Xj wm (ps k) x)) 0 xs)):=p1.trans (List.Perm.append_left _ p2);have hh2:=hh.perm hp;have hfp:∀ k,Qa ([ow wm e a1 n1 c1 x] ++ ([ow wm e a2 n2 c2 y] ++ Xm (Jd j.toNat (Jd i.toNat fun k x=>(Zy e).Xj wm (ps k) x)) 0 xs)) k ->Qa ((Zy e).parts wm ps xs) k:=fun k f=>f.perm hp.symm
 have:Sp wm T h0 ((ZL4 wm e a nn c ps xs i.toNat j.toNat:: [ow wm e a1 n1 c1 x,ow wm e a2 n2 c2 y]) ++ Gr) h:=by
  refine Sp.say (Ga:= [Ym wm (Zy e) a nn c ps xs]) (s.perm pk.perm) (Yo.cons ⟨h1,i2,j2,so,hh2.right.right,fun k hk f=>hd k hk (hfp k (Qa.append.2 (.inr (Qa.append.2 (.inr f)))))⟩ (Yo.append (Ga:= [ow wm e a1 n1 c1 x]) (Gb:= [ow wm e a2 n2 c2 y]) hh2.left hh2.right.left fun k f f'=>hh2.cut k f (Qa.append.2 (.inl f'))) fun k hk f=>?_) fun k f=>?_
  ·have f':Qa ([ow wm e a1 n1 c1 x] ++ [ow wm e a2 n2 c2 y]) k:=f;rcases hk with hk | hk
   ·refine hd k hk (hfp k ?_);rcases Qa.append.1 f' with f' | f'
    ·exact Qa.append.2 (.inl f')
    ·exact Qa.append.2 (.inr (Qa.append.2 (.inl f')))
   ·rcases Qa.append.1 f' with f' | f'
    ·exact hh2.cut k f' (Qa.append.2 (.inr hk))
    ·exact hh2.right.cut k f' hk
  ·refine⟨_,List.mem_singleton.2 rfl,?_⟩;rcases Qa.cons.1 f with(f | f) | f
   ·exact Or.inl f
   ·exact Or.inr (hfp k (Qa.append.2 (.inr (Qa.append.2 (.inr f)))))
   ·have f':Qa ([ow wm e a1 n1 c1 x] ++ [ow wm e a2 n2 c2 y]) k:=f;refine Or.inr (hfp k ?_);rcases Qa.append.1 f' with f' | f'
    ·exact Qa.append.2 (.inl f')
    ·exact Qa.append.2 (.inr (Qa.append.2 (.inl f')))
 exact this
theorem Sp.ZJu {i j:Int} {x y x' y':List α} (s:Sp wm T h0 G h) (sel:Sel G [ZL4 wm e a nn c ps xs i.toNat j.toNat,ow wm e a1 n1 c1 x',ow wm e a2 n2 c2 y'] Gr) (hi:ZW xs i=some x) (pi:ps i.toNat= (a1,n1,c1)) (hj:ZW xs j=some y) (pj:ps j.toNat= (a2,n2,c2)) (hne:(i==j)=false):
 Sp wm T h0 (Ym wm (Zy e) a nn c ps (Zz (Zz xs i x') j y')::Gr) h:=by
 obtain⟨i1,i2,i3⟩:=Qu hi;obtain⟨j1,j2,j3⟩:=Qu hj
 have hne':j.toNat ≠ i.toNat:=fun q=>by
  have:i=j:=by rw [← i1,← j1,q]
  rw [this] at hne;simp at hne
 have s:=s.perm sel.perm;obtain⟨⟨h1,_,_,so,hb,hd⟩,ha,hdj⟩:=s.hold.left.tail;have hi':ZW (Zz xs i x') i=some x':=by rw [JG hi]
 have hj':ZW (Zz xs i x') j=some y:=by
  rw [← j1,Zdq,Wn hi,if_neg (show ¬ j.toNat=i.toNat from hne')];exact j3
 have g1:(Zz (Zz xs i x') j y')[i.toNat]? =some x':=by
  rw [Wn hj',if_neg (fun q=>hne' q.symm),Wn hi,if_pos rfl]
 have g2:(Zz (Zz xs i x') j y')[j.toNat]? =some y':=by
  rw [Wn hj',if_pos rfl]
 have p1:=Ji (f:=fun k x=>(Zy e).Xj wm (ps k) x) (Zz (Zz xs i x') j y') 0 _ x' g1;have p2:=Ji (f:=Jd i.toNat fun k x=>(Zy e).Xj wm (ps k) x) (Zz (Zz xs i x') j y') 0 _ y' g2;rw [Nat.zero_add] at p1 p2;have e2:Jd i.toNat (fun k x=>(Zy e).Xj wm (ps k) x) j.toNat y'= [ow wm e a2 n2 c2 y']:=by unfold Jd;rw [if_neg hne'];show [ow wm e (ps j.toNat).1 (ps j.toNat).2.1 (ps j.toNat).2.2 y']=_;rw [pj]
 have e1:(Zy e).Xj wm (ps i.toNat) x'= [ow wm e a1 n1 c1 x']:=by show [ow wm e (ps i.toNat).1 (ps i.toNat).2.1 (ps i.toNat).2.2 x']=_;rw [pi]
 rw [e1] at p1;rw [e2] at p2;have q1:=Wp (f:=Jd i.toNat fun k x=>(Zy e).Xj wm (ps k) x) (Zz xs i x') 0 j.toNat y';have comm:∀ zs:List (List α),Xm (Jd j.toNat (Jd i.toNat fun k x=>(Zy e).Xj wm (ps k) x)) 0 zs=Xm (Jd i.toNat (Jd j.toNat fun k x=>(Zy e).Xj wm (ps k) x)) 0 zs:=fun zs=>Wo zs 0 fun k x _=>by unfold Jd;by_cases z1:k=j.toNat <;> by_cases z2:k=i.toNat <;> simp [z1,z2]
 have q2:=Wp (f:=Jd j.toNat fun k x=>(Zy e).Xj wm (ps k) x) xs 0 i.toNat x';rw [Nat.zero_add] at q1 q2
 have q3:Xm (Jd j.toNat (Jd i.toNat fun k x=>(Zy e).Xj wm (ps k) x)) 0 (Zz (Zz xs i x') j y')=Xm (Jd j.toNat (Jd i.toNat fun k x=>(Zy e).Xj wm (ps k) x)) 0 xs:=by
  show Xm _ 0 ((Zz xs i x').set j.toNat y')=_;rw [q1,comm,comm xs];exact q2
 rw [q3] at p2;have hp:((Zy e).parts wm ps (Zz (Zz xs i x') j y')).Perm ([ow wm e a1 n1 c1 x'] ++ ([ow wm e a2 n2 c2 y'] ++ Xm (Jd j.toNat (Jd i.toNat fun k x=>(Zy e).Xj wm (ps k) x)) 0 xs)):=p1.trans (List.Perm.append_left _ p2);have ha':Yo ([ow wm e a1 n1 c1 x'] ++ [ow wm e a2 n2 c2 y']) h:=ha;have ZUF:∀ k,(X6 a k∨Qa (Xm (Jd j.toNat (Jd i.toNat fun k x=>(Zy e).Xj wm (ps k) x)) 0 xs) k) ->¬ Qa ([ow wm e a1 n1 c1 x'] ++ [ow wm e a2 n2 c2 y']) k:=hdj
 have hnew:Yo ((Zy e).parts wm ps (Zz (Zz xs i x') j y')) h:=by
  have z:=ha'.append hb fun k f f'=>ZUF k (.inr f') f
  rw [List.append_assoc] at z;exact z.perm hp.symm
 refine Sp.say (Ga:=_:: [ow wm e a1 n1 c1 x',ow wm e a2 n2 c2 y']) (Gb:= [Ym wm (Zy e) a nn c ps (Zz (Zz xs i x') j y')]) s (Yo.one ⟨by rw [Zai,Zai];exact h1,?_,hnew,fun k hk f=>?_⟩) fun k ⟨B,hm,f⟩=>?_
 ·have:(Zy e).rows ps (Zz (Zz xs i x') j y')= (Zy e).rows ps xs:=by
   apply List.ext_getElem?;intro t;unfold Ne.rows;rw [Jf,Jf,Wn hj',Wn hi,Nat.zero_add];by_cases t1:t=j.toNat
   ·rw [if_pos t1,t1,j3];rfl
   ·rw [if_neg t1];by_cases t2:t=i.toNat
    ·rw [if_pos t2,t2,i3];rfl
    ·rw [if_neg t2]
  rw [this];exact so
 ·have f:=f.perm hp;rw [← List.append_assoc] at f;rcases Qa.append.1 f with f | f
  ·exact ZUF k (.inl hk) f
  ·exact hd k hk f
 ·rw [List.mem_singleton.1 hm] at f;rcases f with f | f
  ·exact Qa.cons.2 (.inl (.inl f))
  ·have f:=f.perm hp;rw [← List.append_assoc] at f;rcases Qa.append.1 f with f | f
   ·exact Qa.cons.2 (.inr f)
   ·exact Qa.cons.2 (.inl (.inr f))
theorem Sp.ZRm {x1 x2:List α} (s:Sp wm T h0 G h) (pk:Pk G (ow wm (Zk5 1 Nat.one_pos) a nn c [⟨[.slice a1 n1 c1],rfl,rfl⟩,⟨[.slice a2 n2 c2],rfl,rfl⟩]) Gr) (k1:n1=x1.length) (s1:Sl e h.size h a1 c1 x1) (k2:n2=x2.length) (s2:Sl e h.size h a2 c2 x2):Sl (Xr e) h.size h a c [x1,x2]:=by
 obtain⟨h1,so⟩:=s.get pk;have hm:=so.max;have hc:=so.cap;refine⟨hm,hc,so.nl,.inr ?_⟩;rcases so.mem with⟨_,_,q⟩ | ⟨i,o,cs,q1,q2,q3,q4,q5,q6⟩
 ·cases q
 ·refine⟨i,o,cs,true,_,q1,q3,.inl (QA q3 rfl),⟨q6.len,fun k x hk=>?_⟩⟩
  match k with
  | 0=>
    obtain⟨_,g1,_⟩:=q6.get 0 _ rfl;simp at hk;subst hk;exact⟨(a1,c1),by rw [k1] at g1;exact g1,s1⟩
  | 1=>
    obtain⟨_,g1,_⟩:=q6.get 1 _ rfl;simp at hk;subst hk;exact⟨(a2,c2),by rw [k2] at g1;exact g1,s2⟩
  | k + 2=>simp at hk
end
section
variable {α:Type} {e:UA α} {t el:TypeId} {x:Operand} {a:Option Addr} {nn c:Nat} {xs zs:List α} {a1:Int}
theorem Qr.cases {α:Type} {e:UA α} {a:Option Addr} {c:Nat} {xs:List α} (s:Qr e wm wm' h a c xs):(a=none∧c=0∧xs= [])∨∃ q,a=some q:=by
 rcases s.mem with⟨h1,h2,h3⟩ | ⟨i,o,cs,h1,_⟩
 ·exact .inl ⟨h1,h2,h3⟩
 ·exact .inr ⟨_,h1⟩
theorem Zyh {P:Program} {t:TypeId} {x y:Operand} {k k':IntKind} {a b c:Int} (hb:0 <=b) (hc:c=a.fdiv (2 ^ (min b.toNat k.bits))):Ur P .shr t x y (.int k a) (.int k' b)=some (.val (.int k c),.none):=by
 have hp:(plain (.int k a) && plain (.int k' b))=true:=rfl;unfold Ur;rw [hp,Cq1]
 have e1:binOp .shr t (.int k a) (.int k' b)=pure (.int k c):=by
  show Op.shift .shr k a k' b=_;unfold Op.shift;rw [if_neg (by omega),hc]
 have hg:(do eqGuard .shr t x y (.int k a) (.int k' b);binOp .shr t (.int k a) (.int k' b):Sem Value)=pure (.int k c):=by
  rw [e1];rfl
 rw [hg];rfl
theorem Zyi {P:Program} {t:TypeId} {x y:Operand} {a:Int}:Ur P .shr t x y (.int .u64 a) (.int .u64 1)=some (.val (.int .u64 (a / 2)),.none):=
 Zyh (by decide) (by
  show a / 2=a.fdiv 2;rw [Int.fdiv_eq_ediv_of_nonneg a (by decide)])
theorem ZEC {g':H} {lo hi:Option Operand} (hx:Xe fr x=some (.slice a nn c)) (hu:X.P.underlying t=some (.slice el)) (ha:(a=none∧nn=0∧c=0)∨∃ i o,a=some ⟨i,o,none⟩) (hg:∀ i,X6 a i ->g'.at i=h.at i):
 Qv X g' (Xe fr) ⟨some d,.slice t x lo hi none,ty,p,af,g⟩=Qv X h (Xe fr) ⟨some d,.slice t x lo hi none,ty,p,af,g⟩:=by
 have key:∀ H:H,Qv X H (Xe fr) ⟨some d,.slice t x lo hi none,ty,p,af,g⟩= (match evo (Xe fr) lo,evo (Xe fr) hi with
  | some lo,some hi=>vN (aslice X.P H t (.slice a nn c) lo hi none)
  | _,_=>none):=fun H=>by
  show(match Xe fr x,evo (Xe fr) lo,evo (Xe fr) hi,evo (Xe fr) none with
   | some x,some lo,some hi,some mx=>bif plain x && not (Zlb x) then(match lo,hi,mx with
      | lo,hi,mx=>bif QG (lo.toList ++ hi.toList ++ mx.toList) then pN (ZaA X.P (Instr.sliceAt t x lo hi mx)) else none)
     else vN (aslice X.P H t x lo hi mx)
   | _,_,_,_=>none)=_
  rw [hx];have hn:evo (Xe fr) none=some none:=rfl;rw [hn];cases evo (Xe fr) lo <;> cases evo (Xe fr) hi <;> try rfl
  have:Zlb (.slice a nn c)=true:=rfl;dsimp only;rw [this,Bool.not_true,Bool.and_false,Cq0]
 rw [key,key];cases evo (Xe fr) lo <;> cases evo (Xe fr) hi <;> try rfl
 dsimp only;congr 1;rcases ha with⟨rfl,rfl,rfl⟩ | ⟨i,o,rfl⟩
 ·unfold aslice;simp only [hu]
 ·unfold aslice;simp only [hu,hg i ⟨o,rfl⟩]
theorem WX.ZFQ {Q:Fr ->H ->Prop} {T0:Nat ->Prop} {G:List (Ast wm)} {lo hi:Option Operand} {a2:Int} (hS:Sp wm T0 h0 G h) (hg:YO ops ⟨some d,.slice t x lo hi none,ty,p,af,g⟩ fr) (hd:Nat.blt d n=true) (so:Qr e wm wm h a c xs) (hn:nn=xs.length) (hu:X.P.underlying t=some (.slice el)) (hs:Xl X.P el=some e.sz) (hx:Xe fr x=some (.slice a nn c))
 (hlo:evo (Xe fr) lo=some none∧a1=0∨∃ k,evo (Xe fr) lo=some (some (.int k a1))) (hhi:evo (Xe fr) hi=some none∧a2=xs.length∨∃ k,evo (Xe fr) hi=some (some (.int k a2))) (hz:slL xs a1 a2=some zs)
 (k:∀ a' c' h',h'.size=h.size ->Zpd e a c xs a' c' zs ->Sp wm T0 h0 G h' ->WX X n wm rd ops ⟨(m,fun x=>¬ X6 a x)::sf.s,sf.m,sf.p⟩ (m + 1) h' ol (Tr.set fr d (.slice a' zs.length c')) Q) (hM:Lk ops m (fun x=>X6 a x) sf.m):
 WX X n wm rd ops sf m h (⟨some d,.slice t x lo hi none,ty,p,af,g⟩::ol) fr Q:=by
 obtain⟨a',c',h1,h2⟩:=ZEs (d:=d) (ty:=ty) (p:=p) (af:=af) (g:=g) so hn hu hs hx hlo hhi hz;refine WX.wrM (fun x=>X6 a x) hS hg hd (v:= .slice a' zs.length c') (fun g' _ hR=>?_) (fun h' e1 s1=>k a' c' h' e1 h2 s1) rfl hM;rw [ZEC hx hu ?_ hR]
 ·exact h1
 ·rcases so.mem with⟨q1,q2,q3⟩ | ⟨i,o,cs,q1,_⟩
  ·left;exact⟨q1,by rw [hn,q3];rfl,q2⟩
  ·exact .inr ⟨i,o,q1⟩
theorem ZKo {lo:Operand} {kk:IntKind} (so:Sl e wm' h a c xs) (hev:c % 2=0) (hn:nn=xs.length) (hu:X.P.underlying t=some (.slice el)) (hs:Xl X.P el=some e.sz) (hx:Xe fr x=some (.slice a nn c))
 (hlo:Xe fr lo=some (.int kk a1)) (hz:slL xs a1 xs.length=some zs):
 HE X ⟨some d,.slice t x (some lo) none none,ty,p,af,g⟩ fr h (fun v=>∃ a' c',v= .slice a' zs.length c'∧Zpd e a c xs a' c' zs):=by
 obtain⟨l,k,rfl,hk,hlk,hkx,rfl⟩:=Zag hz;have hk:k=xs.length:=by omega
 subst hk hn;have hlen:((xs.take xs.length).drop l).length=xs.length - l:=by rw [List.length_drop,List.length_take];omega
 have e1:∀ q,obN (some (.int kk (l:Int))) q=some l:=fun q=>rfl
 have e2:obN none xs.length=some xs.length:=rfl;have hcap:=so.cap;rcases so.nl with⟨rfl,rfl⟩ | ⟨rfl,rfl⟩ | ⟨i,o,rfl⟩
 ·have hx0:xs= []:=List.length_eq_zero_iff.1 (by omega);subst hx0;have hl0:l=0:=by simpa using hlk
  subst hl0;refine⟨.slice none 0 0,JH hx (Xv hlo) rfl rfl ?_,none,0,rfl,Zh7 rfl⟩
  have:aslice X.P h t (.slice none 0 0) (some (.int kk ((0:Nat):Int))) none none=some (.slice none 0 0):=by
   unfold aslice;simp only [hu,hs]
   rfl
  exact this
 ·have hx0:xs= []:=List.length_eq_zero_iff.1 (by omega);subst hx0;have hl0:l=0:=by simpa using hlk
  subst hl0;refine⟨.slice (some ⟨0,0,some 0⟩) 0 0,JH hx (Xv hlo) rfl rfl ?_,_,0,rfl,Zh7 rfl⟩
  have:aslice X.P h t (.slice (some ⟨0,0,some 0⟩) 0 0) (some (.int kk ((0:Nat):Int))) none none=some (.slice (some ⟨0,0,some 0⟩) 0 0):=by
   unfold aslice;simp only [hu,hs]
   rfl
  exact this
 ·have hb:Nat.beq (c % 2) 0=true:=by rw [hev];rfl
  have hd:(Nat.ble l xs.length && Nat.ble xs.length (c / 2))=true:=by rw [Nm0 hlk,Nm0 hcap];rfl
  refine⟨.slice (some ⟨i,bif Nat.beq (c / 2) l then o else o + l * e.sz,none⟩) (xs.length - l) (2 * (c / 2 - l)),JH hx (Xv hlo) rfl rfl ?_,_,_,by rw [hlen],ZiQ hlk (Nat.le_refl _) ?_⟩
  ·unfold aslice;simp only [hu,hs,e1,e2,hd,hb,Cq1]
  ·cases hcl:Nat.beq (c / 2) l with
   | true=>right;have:=Nb0 hcl;exact⟨rfl,this,by omega⟩
   | false=>left;exact⟨rfl,by omega⟩
end
end Go.Xy
end
end
section
end
section
namespace Go.Proofs.YtcnahmgekicbdaaGreat
structure ZX where
 at_:Int
 Xu:Int
 deriving DecidableEq,Inhabited
structure Zc where
 qG:Int
 Zi:(List ZX)
 deriving DecidableEq,Inhabited
structure Zw where
 kZ:Int
 kV:Int
 kX:Int
 n:Int
 deriving DecidableEq,Inhabited
structure Zd where
 kW:Int
 kV:Int
 kX:Int
 n:Int
 qX:(List Int)
 deriving DecidableEq,Inhabited
structure Zg where
 Zu:Int
 kG:(List Zd)
 deriving DecidableEq,Inhabited
structure Zf where
 qV:(List Int)
 qX:(List (List Int))
 qZ:(List (List Int))
 Zh:(List (List Int))
 Zt:(List (List Zd))
 kQ:(List Zg)
 kK:Int
 deriving DecidableEq,Inhabited
structure Z6 where
 s:Zc
 w:Zf
 kU:(List Zw)
 deriving DecidableEq,Inhabited
structure Z7 where
 Za:Zf
 qK:Zc
 kU:(List Zw)
 deriving DecidableEq,Inhabited
structure XC where
 act:Int
 a:Int
 b:Int
 deriving DecidableEq,Inhabited
def ZaM (x y:Zw):Bool:= [x.kZ==y.kZ,x.kV==y.kV,x.kX==y.kX,x.n==y.n].all id
def ZDZ:Option Bool:=some true
def Zrd (p0:List Int) (k:Int) (p2:List Int):Option (List Int):=bif Nat.ble p0.length 1000000 && (Nat.beq p2.length 1 && (decide (0 <=k) && decide (k <= (p0.length:Int)))) then some (p0.take k.toNat ++ p2 ++ p0.drop k.toNat) else none
end Go.Proofs.YtcnahmgekicbdaaGreat
end
section
set_option maxRecDepth 100000
noncomputable section
namespace Go.Proofs.YtcnahmgekicbdaaGreat
open Go.Xy Go.Lf
def Zk:UA ZX where
 sz:=2
 pos:=by decide
 Par:=Unit
 dflt:= ()
 sh:=fun _ x=>[.int .i64 x.at_,.int .i64 x.Xu]
 len:=fun _ _=>rfl
 one:=fun _ _=>rfl
 F:=fun _ _ _ _=>True
 mono:=fun _ x=>x
 up:=fun _ x=>x
def ZsL:UA Zc where
 sz:=2
 pos:=by decide
 Par:= (Option Addr×Nat)
 dflt:= (none,0)
 sh:=fun p x=>[.int .i64 x.qG,.slice p.1 x.Zi.length p.2]
 len:=fun _ _=>rfl
 one:=fun _ _=>rfl
 F:=fun wm h p x=>Sl Zk wm h p.1 p.2 x.Zi
 mono:=fun f x=>x.mono f
 up:=fun f x=>x.up f
def Zx:UA Zw where
 sz:=4
 pos:=by decide
 Par:=Unit
 dflt:= ()
 sh:=fun _ x=>[.int .i64 x.kZ,.int .i64 x.kV,.int .i64 x.kX,.int .i64 x.n]
 len:=fun _ _=>rfl
 one:=fun _ _=>rfl
 F:=fun _ _ _ _=>True
 mono:=fun _ x=>x
 up:=fun _ x=>x
def Zl:UA Zd where
 sz:=5
 pos:=by decide
 Par:= (Option Addr×Nat)
 dflt:= (none,0)
 sh:=fun p x=>[.int .i64 x.kW,.int .i64 x.kV,.int .i64 x.kX,.int .i64 x.n,.slice p.1 x.qX.length p.2]
 len:=fun _ _=>rfl
 one:=fun _ _=>rfl
 F:=fun wm h p x=>Sl (Zm .i64) wm h p.1 p.2 x.qX
 mono:=fun f x=>x.mono f
 up:=fun f x=>x.up f
def XV:UA Zg where
 sz:=2
 pos:=by decide
 Par:= (Option Addr×Nat)
 dflt:= (none,0)
 sh:=fun p x=>[.int .i64 x.Zu,.slice p.1 x.kG.length p.2]
 len:=fun _ _=>rfl
 one:=fun _ _=>rfl
 F:=fun wm h p x=>Sl Zl wm h p.1 p.2 x.kG
 mono:=fun f x=>x.mono f
 up:=fun f x=>x.up f
def WY:UA XC where
 sz:=3
 pos:=by decide
 Par:=Unit
 dflt:= ()
 sh:=fun _ x=>[.int .i64 x.act,.int .i64 x.a,.int .i64 x.b]
 len:=fun _ _=>rfl
 one:=fun _ _=>rfl
 F:=fun _ _ _ _=>True
 mono:=fun _ x=>x
 up:=fun _ x=>x
def ZI:Ne Zg where
 sz:=2
 pos:=by decide
 Par:=Option Addr×Nat×Nat
 dflt:= (none,0,0)
 sh:=fun p x=>[.int .i64 x.Zu,.slice p.1 p.2.1 p.2.2]
 len:=fun _ _=>rfl
 one:=fun _ _=>rfl
 «Xj»:=fun wm p x=>[ow wm Zl p.1 p.2.1 p.2.2 x.kG]
theorem KT {wm:Nat}:(∀ h:H,Yo (ZI.Xj wm (none,0,0) (default:Zg)) h)∧∀ i,¬ Qa (ZI.Xj wm (none,0,0) (default:Zg)) i:=Zjv (e:=Zl)
theorem ZA:NeR ZI XV:= ⟨rfl,fun{wm h p x} hw hh=>by
 obtain⟨h1,h2⟩:=hh.get (A:=ow wm Zl p.1 p.2.1 p.2.2 x.kG) .z;exact⟨(p.1,p.2.2),by show([.int .i64 x.Zu,.slice p.1 p.2.1 p.2.2]:List Value)= [.int .i64 x.Zu,.slice p.1 x.kG.length p.2.2];rw [h1],h2.src.sl hw⟩⟩
theorem ZQ6:XX.P.underlying 3=some (.int .i64):=Kq0
theorem ZYe:XX.P.underlying 4=some .bool:=Kq0
theorem ZQ8:XX.P.underlying 22=some (.slice 66):=Kq0
theorem ZQ7:XX.P.underlying 25=some (.slice 74):=Kq0
theorem Zu6:XX.P.underlying 28=some (.slice 71):=Kq0
theorem JF:XX.P.underlying 29=some (.slice 35):=Kq0
theorem Zee:XX.P.underlying 30=some (.slice 69):=Kq0
theorem ZeZ:XX.P.underlying 31=some (.slice 99):=Kq0
theorem Zzp:XX.P.underlying 34=some (.slice 64):=Kq0
theorem XL:XX.P.underlying 35=some (.slice 3):=Kq0
theorem ZQ5:XX.P.underlying 60=some (.slice 4):=Kq0
theorem Q7:XX.P.underlying 69=some (.slice 121):=Kq0
theorem Zzq:XX.P.underlying 132=some (.int .u64):=Kq0
theorem ZaW:XX.P.underlying 138=some (.map 119 124):=Kq0
theorem Kv:XF XX.P 3=some false:=Kq0
theorem ZPe:XF XX.P 4=some false:=Kq0
theorem ZEK:XF XX.P 22=some false:=Kq0
theorem ZmJ:XF XX.P 24=some true:=Kq0
theorem ZEJ:XF XX.P 28=some false:=Kq0
theorem Zat:XF XX.P 29=some false:=Kq0
theorem ZkJ:XF XX.P 30=some false:=Kq0
theorem ZwB:XF XX.P 31=some false:=Kq0
theorem ZwA:XF XX.P 33=some true:=Kq0
theorem ZEI:XF XX.P 34=some false:=Kq0
theorem Zep:XF XX.P 35=some false:=Kq0
theorem Zr7:XF XX.P 36=some false:=Kq0
theorem ZW3:XF XX.P 62=some false:=Kq0
theorem ZEH:XF XX.P 64=some true:=Kq0
theorem ZmI:XF XX.P 66=some true:=Kq0
theorem ZhM:XF XX.P 69=some false:=Kq0
theorem ZJL:XF XX.P 71=some false:=Kq0
theorem ZW2:XF XX.P 72=some false:=Kq0
theorem ZEG:XF XX.P 74=some true:=Kq0
theorem ZJK:XF XX.P 87=some false:=Kq0
theorem ZJJ:XF XX.P 99=some true:=Kq0
theorem ZPh:XF XX.P 106=some true:=Kq0
theorem ZPg:XF XX.P 112=some false:=Kq0
theorem ZPf:XF XX.P 119=some false:=Kq0
theorem Zcf:XF XX.P 121=some true:=Kq0
theorem XO:Xl XX.P 3=some 1:=Kq0
theorem ZRe:Xl XX.P 4=some 1:=Kq0
theorem Zgv:Xl XX.P 24=some 2:=Kq0
theorem ZKl:Xl XX.P 28=some 1:=Kq0
theorem ZsG:Xl XX.P 29=some 1:=Kq0
theorem ZKk:Xl XX.P 30=some 1:=Kq0
theorem ZKj:Xl XX.P 31=some 1:=Kq0
theorem Zgu:Xl XX.P 33=some 7:=Kq0
theorem ZKi:Xl XX.P 34=some 1:=Kq0
theorem XJ:Xl XX.P 35=some 1:=Kq0
theorem ZKh:Xl XX.P 36=some 1:=Kq0
theorem ZKg:Xl XX.P 62=some 1:=Kq0
theorem ZiS:Xl XX.P 64=some 4:=Kq0
theorem Zgt:Xl XX.P 66=some 2:=Kq0
theorem JQ:Xl XX.P 69=some 1:=Kq0
theorem ZcX:Xl XX.P 71=some 1:=Kq0
theorem ZsF:Xl XX.P 74=some 3:=Kq0
theorem Zah:Xl XX.P 99=some 2:=Kq0
theorem ZFS:Xl XX.P 106=some 3:=Kq0
theorem ZFR:Xl XX.P 112=some 1:=Kq0
theorem XK:Xl XX.P 121=some 5:=Kq0
theorem ZnP:Yd XX.P 24 0 0:=Yd.of Kq0
theorem ZG4:Yd XX.P 24 1 1:=Yd.of Kq0
theorem ZG3:Yd XX.P 33 0 0:=Yd.of Kq0
theorem ZnO:Yd XX.P 33 1 1:=Yd.of Kq0
theorem ZfP:Yd XX.P 33 2 2:=Yd.of Kq0
theorem ZG2:Yd XX.P 33 3 3:=Yd.of Kq0
theorem Zwa:Yd XX.P 33 4 4:=Yd.of Kq0
theorem Zv9:Yd XX.P 33 5 5:=Yd.of Kq0
theorem ZG1:Yd XX.P 33 6 6:=Yd.of Kq0
theorem ZG0:Yd XX.P 64 0 0:=Yd.of Kq0
theorem ZGZ:Yd XX.P 64 1 1:=Yd.of Kq0
theorem ZGY:Yd XX.P 64 2 2:=Yd.of Kq0
theorem ZGX:Yd XX.P 64 3 3:=Yd.of Kq0
theorem ZGW:Yd XX.P 66 0 0:=Yd.of Kq0
theorem ZGV:Yd XX.P 66 1 1:=Yd.of Kq0
theorem ZGU:Yd XX.P 74 0 0:=Yd.of Kq0
theorem ZGT:Yd XX.P 74 1 1:=Yd.of Kq0
theorem ZGS:Yd XX.P 74 2 2:=Yd.of Kq0
theorem ZnN:Yd XX.P 91 0 0:=Yd.of Kq0
theorem ZnM:Yd XX.P 91 1 7:=Yd.of Kq0
theorem ZGR:Yd XX.P 91 2 9:=Yd.of Kq0
theorem Zv8:Yd XX.P 96 0 0:=Yd.of Kq0
theorem Zb7:Yd XX.P 96 1 2:=Yd.of Kq0
theorem ZGQ:Yd XX.P 96 2 9:=Yd.of Kq0
theorem Zv7:Yd XX.P 99 0 0:=Yd.of Kq0
theorem ZfO:Yd XX.P 99 1 1:=Yd.of Kq0
theorem ZDo:Yd XX.P 106 0 0:=Yd.of Kq0
theorem ZDn:Yd XX.P 106 1 2:=Yd.of Kq0
theorem ZDm:Yd XX.P 121 0 0:=Yd.of Kq0
theorem ZDl:Yd XX.P 121 1 1:=Yd.of Kq0
theorem Zq6:Yd XX.P 121 2 2:=Yd.of Kq0
theorem ZDk:Yd XX.P 121 3 3:=Yd.of Kq0
theorem Zq5:Yd XX.P 121 4 4:=Yd.of Kq0
theorem KM:X0 XX.P 3=some (.int .i64 0):=Kq0
theorem ZP0:X0 XX.P 4=some (.bool false):=Kq0
theorem ZyN:X0 XX.P 33=some (.agg #[.slice none 0 0,.slice none 0 0,.slice none 0 0,.slice none 0 0,.slice none 0 0,.slice none 0 0,.int .i64 0]):=Kq0
theorem ZbF:X0 XX.P 35=some (.slice none 0 0):=Kq0
theorem ZJX:X0 XX.P 36=some (.int .i64 0):=Kq0
theorem ZmP:X0 XX.P 64=some (.agg #[.int .i64 0,.int .i64 0,.int .i64 0,.int .i64 0]):=Kq0
theorem ZJW:X0 XX.P 66=some (.agg #[.int .i64 0,.int .i64 0]):=Kq0
theorem ZJV:X0 XX.P 67=some (.agg #[.int .i64 0,.int .i64 0]):=Kq0
theorem Zso:X0 XX.P 69=some (.slice none 0 0):=Kq0
theorem Zsn:X0 XX.P 71=some (.int .i64 0):=Kq0
theorem ZJU:X0 XX.P 74=some (.agg #[.int .i64 0,.int .i64 0,.int .i64 0]):=Kq0
theorem ZyM:X0 XX.P 91=some (.agg #[.slice none 0 0,.slice none 0 0,.slice none 0 0,.slice none 0 0,.slice none 0 0,.slice none 0 0,.int .i64 0,.int .i64 0,.slice none 0 0,.slice none 0 0]):=Kq0
theorem ZyL:X0 XX.P 96=some (.agg #[.int .i64 0,.slice none 0 0,.slice none 0 0,.slice none 0 0,.slice none 0 0,.slice none 0 0,.slice none 0 0,.slice none 0 0,.int .i64 0,.slice none 0 0]):=Kq0
theorem ZmO:X0 XX.P 99=some (.agg #[.int .i64 0,.slice none 0 0]):=Kq0
theorem ZFs:X0 XX.P 106=some (.agg #[.int .i64 0,.slice none 0 0,.slice none 0 0]):=Kq0
theorem ZFr:X0 XX.P 112=some (.nilFunc):=Kq0
theorem Kb:X0 XX.P 121=some (.agg #[.int .i64 0,.int .i64 0,.int .i64 0,.int .i64 0,.slice none 0 0]):=Kq0
theorem ZdO:X0 XX.P 124=some (.nilFunc):=Kq0
theorem ZJF:Zeb XX.P 33 [.slice none 0 0,.slice none 0 0,.slice none 0 0,.slice none 0 0,.slice none 0 0,.slice none 0 0,.int .i64 0] [(0,1),(1,1),(2,1),(3,1),(4,1),(5,1),(6,1)]:= ⟨_,_,ZyN,rfl,Tryz.underlying33,by kernel_rfl⟩
theorem ZJE:Zeb XX.P 64 [.int .i64 0,.int .i64 0,.int .i64 0,.int .i64 0] [(0,1),(1,1),(2,1),(3,1)]:= ⟨_,_,ZmP,rfl,Tryz.underlying64,by kernel_rfl⟩
theorem ZWE:Zeb XX.P 91 [.slice none 0 0,.slice none 0 0,.slice none 0 0,.slice none 0 0,.slice none 0 0,.slice none 0 0,.int .i64 0,.int .i64 0,.slice none 0 0,.slice none 0 0] [(0,7),(7,2),(9,1)]:= ⟨_,_,ZyM,rfl,Tryz.underlying91,by kernel_rfl⟩
theorem ZWD:Zeb XX.P 96 [.int .i64 0,.slice none 0 0,.slice none 0 0,.slice none 0 0,.slice none 0 0,.slice none 0 0,.slice none 0 0,.slice none 0 0,.int .i64 0,.slice none 0 0] [(0,2),(2,7),(9,1)]:= ⟨_,_,ZyL,rfl,Tryz.underlying96,by kernel_rfl⟩
theorem Za7:Zeb XX.P 121 [.int .i64 0,.int .i64 0,.int .i64 0,.int .i64 0,.slice none 0 0] [(0,1),(1,1),(2,1),(3,1),(4,1)]:= ⟨_,_,Kb,rfl,Tryz.underlying121,by kernel_rfl⟩
theorem Zr2:Zeq XX.P #[28,28] 1 8:= ⟨71,.int .i64 0,by kernel_rfl⟩
theorem ZbB:Zeq XX.P #[29,29] 1 24:= ⟨35,.slice none 0 0,by kernel_rfl⟩
theorem Zr1:Zeq XX.P #[34,34] 4 32:= ⟨64,.agg #[.int .i64 0,.int .i64 0,.int .i64 0,.int .i64 0],by kernel_rfl⟩
theorem X9:Zeq XX.P #[35,35] 1 8:= ⟨3,.int .i64 0,by kernel_rfl⟩
theorem UL:Zeq XX.P #[69,69] 5 56:= ⟨121,.agg #[.int .i64 0,.int .i64 0,.int .i64 0,.int .i64 0,.slice none 0 0],by kernel_rfl⟩
theorem ZV3 (x y:Zw):ZXy XX.P 64 (Zx.sh () x) (Zx.sh () y) (ZaM x y):=
 ⟨by kernel_rfl,ZxS (d:=9999) (bs:= [x.kZ==y.kZ,x.kV==y.kV,x.kX==y.kX,x.n==y.n]) Tryz.underlying64 Kq0 ⟨⟨by decide,_,_,U2 Kq0 rfl,U2 Kq0 rfl,eq_int Kq0⟩,⟨by decide,_,_,U2 Kq0 rfl,U2 Kq0 rfl,eq_int Kq0⟩,⟨by decide,_,_,U2 Kq0 rfl,U2 Kq0 rfl,eq_int Kq0⟩,⟨by decide,_,_,U2 Kq0 rfl,U2 Kq0 rfl,eq_int Kq0⟩,trivial⟩⟩
theorem Za0:ZkQ XX.P 119 (Value.int .i64):=ZkQ.int Kq0
theorem ZJD:Za6 XX.P 3=some 8:=Kq0
theorem ZEr:Za6 XX.P 69=some 24:=Kq0
theorem ZEq:Za6 XX.P 99=some 32:=Kq0
theorem ZU0:(XX.fns.get 14).isSome=true:=Kq0
theorem ZCz:(XX.fns.get 15).isSome=true:=Kq0
theorem ZUZ:(XX.fns.get 16).isSome=true:=Kq0
theorem ZUY:(XX.fns.get 17).isSome=true:=Kq0
theorem ZUX:(XX.fns.get 18).isSome=true:=Kq0
theorem ZUW:(XX.fns.get 19).isSome=true:=Kq0
theorem ZJf:(XX.fns.get 20).isSome=true:=Kq0
theorem ZUV:(XX.fns.get 21).isSome=true:=Kq0
theorem ZqQ:(XX.fns.get 22).isSome=true:=Kq0
theorem ZJe:(XX.fns.get 33).isSome=true:=Kq0
theorem ZUU:(XX.fns.get 34).isSome=true:=Kq0
theorem ZJd:(XX.fns.get 38).isSome=true:=Kq0
theorem ZUT:(XX.fns.get 41).isSome=true:=Kq0
theorem ZUS:(XX.fns.get 42).isSome=true:=Kq0
theorem ZUR:(XX.fns.get 43).isSome=true:=Kq0
theorem ZUQ:(XX.fns.get 44).isSome=true:=Kq0
theorem ZJc:(XX.fns.get 45).isSome=true:=Kq0
theorem ZUP:(XX.fns.get 48).isSome=true:=Kq0
theorem ZUO:(XX.fns.get 49).isSome=true:=Kq0
theorem ZJb:(XX.fns.get 50).isSome=true:=Kq0
theorem ZCy:(XX.fns.get 54).isSome=true:=Kq0
theorem ZvZ:(XX.fns.get 55).isSome=true:=Kq0
theorem ZJa:(XX.fns.get 57).isSome=true:=Kq0
theorem ZUN:(XX.fns.get 60).isSome=true:=Kq0
theorem ZvY:(XX.fns.get 61).isSome=true:=Kq0
theorem Zmf:(XX.fns.get 62).isSome=true:=Kq0
theorem UK:(XX.fns.get 63).isSome=true:=Kq0
theorem ZI9:(XX.fns.get 64).isSome=true:=Kq0
theorem ZqP:(XX.fns.get 65).isSome=true:=Kq0
theorem ZI8:(XX.fns.get 66).isSome=true:=Kq0
theorem ZCx:(XX.fns.get 67).isSome=true:=Kq0
theorem Zme:(XX.fns.get 69).isSome=true:=Kq0
theorem ZI7:(XX.fns.get 70).isSome=true:=Kq0
theorem ZI6:(XX.fns.get 71).isSome=true:=Kq0
theorem ZI5:(XX.fns.get 72).isSome=true:=Kq0
theorem ZCw:(XX.fns.get 73).isSome=true:=Kq0
theorem ZUM:(XX.fns.get 74).isSome=true:=Kq0
theorem ZUL:(XX.fns.get 75).isSome=true:=Kq0
theorem ZI4:(XX.fns.get 76).isSome=true:=Kq0
theorem ZUK:(XX.fns.get 77).isSome=true:=Kq0
theorem ZI3:(XX.fns.get 83).isSome=true:=Kq0
theorem ZvX:(XX.fns.get 84).isSome=true:=Kq0
theorem ZI2:(XX.fns.get 85).isSome=true:=Kq0
theorem ZqO:(XX.fns.get 89).isSome=true:=Kq0
theorem ZI1:(XX.fns.get 90).isSome=true:=Kq0
theorem ZI0:(XX.fns.get 91).isSome=true:=Kq0
theorem ZqN:(XX.fns.get 92).isSome=true:=Kq0
theorem ZqM:(XX.fns.get 93).isSome=true:=Kq0
theorem UJ:(XX.fns.get 94).isSome=true:=Kq0
theorem ZqL:(XX.fns.get 95).isSome=true:=Kq0
theorem ZIZ:(XX.fns.get 96).isSome=true:=Kq0
theorem ZIY:(XX.fns.get 97).isSome=true:=Kq0
theorem ZCv:(XX.fns.get 98).isSome=true:=Kq0
theorem ZCu:(XX.fns.get 99).isSome=true:=Kq0
theorem ZM3:(XX.fns.get 100).isSome=true:=Kq0
theorem ZM2:(XX.fns.get 101).isSome=true:=Kq0
theorem ZM1:(XX.fns.get 102).isSome=true:=Kq0
theorem ZM0:(XX.fns.get 103).isSome=true:=Kq0
theorem ZtS:(XX.fns.get 104).isSome=true:=Kq0
theorem ZMZ:(XX.fns.get 105).isSome=true:=Kq0
theorem ZMY:(XX.fns.get 106).isSome=true:=Kq0
theorem ZMX:(XX.fns.get 107).isSome=true:=Kq0
theorem ZMW:(XX.fns.get 108).isSome=true:=Kq0
theorem Znz:(XX.fns.get 109).isSome=true:=Kq0
theorem ZMV:(XX.fns.get 119).isSome=true:=Kq0
theorem ZMU:(XX.fns.get 124).isSome=true:=Kq0
theorem ZtR:(XX.fns.get 125).isSome=true:=Kq0
theorem ZCG:(XX.fns.get 126).isSome=true:=Kq0
theorem ZMT:(XX.fns.get 127).isSome=true:=Kq0
theorem ZCF:(XX.fns.get 128).isSome=true:=Kq0
theorem ZCE:(XX.fns.get 136).isSome=true:=Kq0
theorem ZCD:(XX.fns.get 137).isSome=true:=Kq0
theorem ZCC:(XX.fns.get 138).isSome=true:=Kq0
theorem ZCB:(XX.fns.get 139).isSome=true:=Kq0
theorem ZCA:(XX.fns.get 142).isSome=true:=Kq0
end Go.Proofs.YtcnahmgekicbdaaGreat
end
end
section
noncomputable section
namespace Go.Xy
open Go.Lf
class Zci (P:Program) (t:TypeId):Prop where
 out:XF P t=some false
class Zpg (P:Program) (t:TypeId):Prop where
 out:XF P t=some true
class SzF (P:Program) (t:TypeId) (n:outParam Nat):Prop where
 out:Xl P t=some n
class Us (P:Program) (t:TypeId) (f:Nat) (o:outParam Nat):Prop where
 out:Yd P t f o
class Zh2 (P:Program) (t:TypeId) (e:outParam TypeId):Prop where
 out:P.underlying t=some (.slice e)
class ZPG (P:Program) (t:TypeId):Prop where
 out:P.underlying t=some .bool
class Zch (P:Program) (t:TypeId) (v:outParam Value):Prop where
 out:X0 P t=some v
theorem ia {v:Value} (h:Ug v=false):Ug v=false:=h
theorem KG {fr:Fr} {t:Nat} {c:Bool} {v:Value} (h:fr.at t=cond c v undef) (ha:Ug v=false) (hc:c=true):Xe fr (.tmp t)=some v:=Q0 h ha hc
section
variable {X:Ctx} {h:H} {fr:Fr} {ty:TypeId} {p':String} {af:Array Edge} {g:Option (Nat×Bool)} {d:Option Tmp} {wm:Nat} {T:Nat ->Prop} {h0:H} {G Gr:List (Ast wm)}
theorem ZWK {x:Operand} {t:TypeId} {f off b o:Nat} [hf:Us X.P t f off] (hx:Xe fr x=some (.pointer (some ⟨b,o,none⟩))):Qv X h (Xe fr) ⟨d,.fieldAddr t x f,ty,p',af,g⟩=some (.val (.pointer (some ⟨b,o + off,none⟩)),.none):=Qm hf.out hx
theorem Z4k {x:Operand} {t:TypeId} {b oo:Nat} {vs:List Value} {v:Value} [ht:Zci X.P t] (hx:Xe fr x=some (.pointer (some ⟨b,oo,none⟩))) (hS:Sp wm T h0 G h) (pp:Pk G (bx wm b vs) Gr) (hv:vs[oo]? =some v):
 Qv X h (Xe fr) ⟨d,.load t x,ty,p',af,g⟩=some (.val v,.none):=Xf ht.out hx (hS.QX pp) (Nat.zero_add _).symm hv
theorem ZWI {x:Operand} {t:TypeId} {b oo sz:Nat} {vs ws:List Value} [ht:Zpg X.P t] [hs:SzF X.P t sz] (hx:Xe fr x=some (.pointer (some ⟨b,oo,none⟩))) (hS:Sp wm T h0 G h) (pp:Pk G (bx wm b vs) Gr) (hj:Nat.ble (oo + sz) vs.length=true) (hv:(vs.drop oo).take sz=ws):
 Qv X h (Xe fr) ⟨d,.load t x,ty,p',af,g⟩=some (.val (.agg ws.toArray),.none):=QK ht.out hs.out hx (hS.QX pp) (Nat.zero_add _).symm hj hv
theorem ZWL {dd:Tmp} {x:Operand} {t:TypeId} {v:Value} {vs:List Value} (hx:Xe fr x=some v) (hS:Sp wm T h0 G h) (hv:v.cells.toList=vs):
 HN X wm ⟨some dd,.box t x,ty,p',af,g⟩ fr h (fun v h'=>∃ b,h.size=b∧v= .pointer (some ⟨b,0,none⟩)∧Sp wm T h0 (bx wm b vs::G) h'):=ZRj hS hx hv
theorem ZWM {dd:Tmp} {t:TypeId} {v:Value} {vs:List Value} [hz:Zch X.P t v] (hS:Sp wm T h0 G h) (hv:v.cells.toList=vs):
 HN X wm ⟨some dd,.alloc t,ty,p',af,g⟩ fr h (fun v h'=>∃ b,h.size=b∧v= .pointer (some ⟨b,0,none⟩)∧Sp wm T h0 (bx wm b vs::G) h'):=ZzI hS hz.out hv
theorem Z4j {x y:Operand} {t:TypeId} {b o sz:Nat} {cs cs' vs:List Value} {v:Value} [hs:SzF X.P t sz] (hx:Xe fr x=some (.pointer (some ⟨b,o,none⟩))) (hS:Sp wm T h0 G h) (pk:Pk G (bx wm b cs) Gr) (hy:Xe fr y=some v)
 (hvs:v.cells.toList=vs) (hn:Nat.beq vs.length sz=true) (hl:Nat.ble (o + sz) cs.length=true) (hc:vs.all Value.oneCell'=true) (hv:splice cs o vs=cs'):
 HU X wm ⟨none,.store t x y,ty,p',af,g⟩ fr h (fun i=>i=b) (fun h'=>Sp wm T h0 (bx wm b cs'::Gr) h'):=ZsH hS pk hs.out hx hy hvs hn hl hc hv
theorem ZWJ {α:Type} {xs:List α} {v:α} {x y:Operand} {t e:TypeId} {sz b o nn c dd:Nat} {a:Option Addr} {k:Int} [hu:Zh2 X.P t e] [hs:SzF X.P e sz] (hx:Xe fr x=some (.slice a nn c)) (hy:Xe fr y=some (.int .i64 k)) (hn:nn=xs.length) (ha:a=some ⟨b,o,none⟩) (hk:ZW xs k=some v):
 Qv X h (Xe fr) ⟨some dd,.indexAddr t x y,ty,p',af,g⟩=some (.val (.pointer (some ⟨b,o + k.toNat * sz,none⟩)),.none):=YN hu.out hs.out hx hy hn ha hk
theorem ZWH {x:Operand} {t:TypeId} {b o oo j:Nat} {vs:List Value} {v:Value} [ht:Zci X.P t] (hx:Xe fr x=some (.pointer (some ⟨b,oo,none⟩))) (ha:At h b o vs) (ho:oo=o + j) (hv:vs[j]? =some v):
 Qv X h (Xe fr) ⟨d,.load t x,ty,p',af,g⟩=some (.val v,.none):=Xf ht.out hx ha ho hv
theorem ZWG {x:Operand} {t e':TypeId} {a:Option Addr} {mm cc dd:Nat} [hu:Zh2 X.P t e'] (hx:Xe fr x=some (.slice a mm cc)):
 Qv X h (Xe fr) ⟨some dd,.call {callee:= .builtin .len,args:=#[x],argTypes:=#[t]},ty,p',af,g⟩=some (.val (.int .i64 (mm:Int)),.none):=UM hu.out hx rfl
end
section
variable {X:Ctx} {n wm:Nat} {rd:Option Nat} {ops:Array Oper} {l:List Oper} {fr:Fr} {ds:List Deferred} {h:H} {ty:TypeId} {p:String} {af:Array Edge} {g:Option (Nat×Bool)} {sf:ST} {m:Nat}
theorem WX.w2 {Q:Fr ->H ->Prop} {d:Nat} {op:Op} {v:Value} (hg:YO ops ⟨some d,op,ty,p,af,g⟩ fr) (hd:Nat.blt d n=true) (hM:okM ops sf m ⟨some d,op,ty,p,af,g⟩=true) (ha:Qv X h (Xe fr) ⟨some d,op,ty,p,af,g⟩=some (.val v,.none)) (k:WX X n wm rd ops sf (m + 1) h l (Tr.set fr d v) Q):
 WX X n wm rd ops sf m h (⟨some d,op,ty,p,af,g⟩::l) fr Q:=WX.w hg hd ha k hM
theorem WX.gv2 {Q:Fr ->H ->Prop} {d:Nat} {op:Op} {c:Bool} {v:Value} (hg:Ze ops ⟨some d,op,ty,p,af,g⟩ fr c) (hd:Nat.blt d n=true) (hM:okM ops sf m ⟨some d,op,ty,p,af,g⟩=true) (ha:c=true ->Qv X h (Xe fr) ⟨some d,op,ty,p,af,g⟩=some (.val v,.none)) (k:WX X n wm rd ops sf (m + 1) h l (Tr.set fr d (cond c v undef)) Q):
 WX X n wm rd ops sf m h (⟨some d,op,ty,p,af,g⟩::l) fr Q:=WX.gv hg hd ha k hM
end
structure Kp (q:Prop):Prop where
 out:q
section
variable {X:Ctx} {n wm:Nat} {rd:Option Nat} {Q:XX ->Fs ->Prop}
theorem E0 {p:Prop}(h:p:=by(focus (repeat (first | with_reducible exact fh | ((with_reducible apply ZV);exact rfl) | ((with_reducible apply YQ);exact rfl) | ((with_reducible apply Yt);exact rfl) | ((with_reducible apply Zn);exact rfl) | with_reducible assumption));first|done|fail)):p:=h
theorem cn {c:Operand} {a b:Code} {t:Bool} {fr:Fr} {ds:List Deferred} {h:H} {α:Type} {x y r:α} (hL:(bif t then x else y)=r) (h1:t=true ->x=r ->WC X n wm rd a ⟨fr,ds,h,none⟩ Q) (h2:t=false ->y=r ->WC X n wm rd b ⟨fr,ds,h,none⟩ Q) (hc:Xe fr c=some (.bool t):=by(first | exact KW rfl | (apply Z8;exact E0;(first | exact ia rfl | assumption)) | (apply KG;exact E0;(first | exact ia rfl | assumption);assumption) | fail)):WC X n wm rd (.cond c a b) ⟨fr,ds,h,none⟩ Q:=
 WC.ZWm hc (fun e=>h1 e (Jq e hL)) (fun e=>h2 e (Jr e hL))
theorem rt {fn:Func} {fr:Fr} {h h0:H} {T:Nat ->Prop} {G G':List (Ast wm)} {wr:Option Nat} {t:Tmp} {β:Type} {x r:β} {g:β ->Value} (hL:some x=some r) (hT:T=Qa G) (hS:Sp wm T h0 G' h) (hr:fn.results.toList= [.tmp t]:=by exact rfl) (hv:Xe fr (.tmp t)=some (g x):=by(first | exact KW rfl | (apply Z8;exact E0;(first | exact ia rfl | assumption)) | (apply KG;exact E0;(first | exact ia rfl | assumption);assumption) | fail)):
 Ya X fn (fun e h'=>∃ v,e= .ret v∧CP (fun v Gb=>v=g r∧Gb= []) G h0 v h') .ret ⟨fr,[],h,wr⟩:=by
 cases hL;exact Ya.UW hr (YC hv Zv) ⟨_,⟨rfl,rfl⟩,hT ▸ hS.only .n⟩
theorem bg {f:FuncId} {fn:Func} {c:Code} {args:List Value} {n:Nat} {K:Value ->List (Ast wm) ->Prop} {G:List (Ast wm)} {h:H} {fr:Fr} (hnt:fn.ntmps=n) (Yc:wm <=h.size) (hO:Yo G h)
 (k:∀ T,T=Qa (wm:=wm) G ->Sp wm T h G h ->WC X n wm none c ⟨fr,[],h,none⟩ (Ya X fn (fun e h'=>∃ v,e= .ret v∧CP K G h v h'))) (hf:X.fns.get f=some fn:=by kernel_rfl) (hb:fn.body=some c:=by exact rfl) (hn:args.length <=n:=by simp)
 (hfr:QZ args 0 .nil=fr:=by(simp only [Yl,Yv,Nat.reduceAdd];exact rfl)):WR X f args.toArray wm h (CP K G h):=by
 subst hfr;exact WF.begin hf hb hnt hn (k _ rfl (Sp.start Yc hO))
end
theorem lk {p:Prop} (h:p:=by(first | exact KW rfl | (apply Z8;exact E0;(first | exact ia rfl | assumption)) | (apply KG;exact E0;(first | exact ia rfl | assumption);assumption) | fail)):p:=h
theorem lks {p:Prop} (h:p:=by
 repeat (first | exact Zo | (apply Zb;(focus (first | exact KW rfl | (apply Z8;exact E0;(first | exact ia rfl | assumption)) | (apply KG;exact E0;(first | exact ia rfl | assumption);assumption) | fail);done)))
 done):p:=h
theorem Qo {p:Prop} (h:p:=by
 repeat (first | with_reducible exact fh | ((with_reducible apply ZV);exact rfl) | ((with_reducible apply YQ);exact rfl) | ((with_reducible apply Yt);exact rfl) | ((with_reducible apply Zn);exact rfl) | with_reducible assumption | refine⟨?_,?_⟩)
 done):p:=h
theorem r1 {p q:Prop} (k:q) (h:Kp q ->p:=by
 intro k
 first
 | refine WO.nil ?_
 | refine Zh3.XD ?_
 | refine WC.seq ?_
 | refine WC.region ?_
 | ((first | apply WO.w gN rfl | (apply WO.gv;(focus (first | (apply Ze.yes rfl rfl rfl;exact E0) | (apply Ze.no rfl rfl rfl;exact E0) | (apply Ze.ZyP rfl rfl rfl;exact E0) | (apply Ze.WJ rfl rfl rfl;exact E0) | fail);done);rfl;intro hg) | (apply WX.w2 gN;rfl;rfl) | (apply WX.gv2;(focus (first | (apply Ze.yes rfl rfl rfl;exact E0) | (apply Ze.no rfl rfl rfl;exact E0) | (apply Ze.ZyP rfl rfl rfl;exact E0) | (apply Ze.WJ rfl rfl rfl;exact E0) | fail);done);rfl;rfl;intro hg));(focus (first
   | ((with_reducible apply XR);(first | exact KW rfl | (apply Z8;exact E0;(first | exact ia rfl | assumption)) | (apply KG;exact E0;(first | exact ia rfl | assumption);assumption) | fail))
   | ((with_reducible apply Z4k);(focus (first | exact KW rfl | (apply Z8;exact E0;(first | exact ia rfl | assumption)) | (apply KG;exact E0;(first | exact ia rfl | assumption);assumption) | fail);done);assumption;(focus (first | exact k0 | exact k1 | exact k2 | exact k3 | exact k4 | exact k5 | exact k6 | exact k7 | (repeat (first | exact k7 | apply Pk.s)));done);rfl)
   | ((with_reducible apply ZWK);(first | exact KW rfl | (apply Z8;exact E0;(first | exact ia rfl | assumption)) | (apply KG;exact E0;(first | exact ia rfl | assumption);assumption) | fail))
   | ((with_reducible apply J2);(first | exact KW rfl | (apply Z8;exact E0;(first | exact ia rfl | assumption)) | (apply KG;exact E0;(first | exact ia rfl | assumption);assumption) | fail))
   | ((with_reducible apply J4);(focus (first | exact KW rfl | (apply Z8;exact E0;(first | exact ia rfl | assumption)) | (apply KG;exact E0;(first | exact ia rfl | assumption);assumption) | fail);done);(focus (first | exact KW rfl | (apply Z8;exact E0;(first | exact ia rfl | assumption)) | (apply KG;exact E0;(first | exact ia rfl | assumption);assumption) | fail);done);(first | with_reducible exact Zhr | with_reducible exact Zsa | with_reducible exact Zge | with_reducible exact ZEN | with_reducible exact Zyg | with_reducible exact Zgf | with_reducible exact ZEQ | with_reducible exact ZEP | with_reducible exact Zhq | with_reducible exact Zyk ZPG.out | with_reducible exact Zyj ZPG.out))
   | ((with_reducible apply ZWI);(focus (first | exact KW rfl | (apply Z8;exact E0;(first | exact ia rfl | assumption)) | (apply KG;exact E0;(first | exact ia rfl | assumption);assumption) | fail);done);assumption;(focus (first | exact k0 | exact k1 | exact k2 | exact k3 | exact k4 | exact k5 | exact k6 | exact k7 | (repeat (first | exact k7 | apply Pk.s)));done);rfl;(focus simp only [Nat.zero_add,Nat.reduceAdd,List.drop_succ_cons,List.drop_zero,List.take_succ_cons,List.take_zero,List.take_nil];rfl))
   | ((with_reducible apply ZWG);(first | exact KW rfl | (apply Z8;exact E0;(first | exact ia rfl | assumption)) | (apply KG;exact E0;(first | exact ia rfl | assumption);assumption) | fail))
   | ((with_reducible apply ZWJ);(focus (first | exact KW rfl | (apply Z8;exact E0;(first | exact ia rfl | assumption)) | (apply KG;exact E0;(first | exact ia rfl | assumption);assumption) | fail);done);(focus (first | exact KW rfl | (apply Z8;exact E0;(first | exact ia rfl | assumption)) | (apply KG;exact E0;(first | exact ia rfl | assumption);assumption) | fail);done);(focus (exact rfl));assumption;assumption)
   | ((with_reducible apply ZWH);(focus (first | exact KW rfl | (apply Z8;exact E0;(first | exact ia rfl | assumption)) | (apply KG;exact E0;(first | exact ia rfl | assumption);assumption) | fail);done);(focus (first | assumption | (apply At.fz;(focus (apply Sp.fz;assumption));assumption;assumption));done);(focus (first | exact(Nat.add_zero _).symm | exact rfl);done);rfl)
   | ((with_reducible apply ZuD);(focus (first | exact KW rfl | (apply Z8;exact E0;(first | exact ia rfl | assumption)) | (apply KG;exact E0;(first | exact ia rfl | assumption);assumption) | fail);done);rfl)
   | ((with_reducible apply ZoS);(first | exact KW rfl | (apply Z8;exact E0;(first | exact ia rfl | assumption)) | (apply KG;exact E0;(first | exact ia rfl | assumption);assumption) | fail))
   | ((with_reducible apply Uy);(first | exact KW rfl | (apply Z8;exact E0;(first | exact ia rfl | assumption)) | (apply KG;exact E0;(first | exact ia rfl | assumption);assumption) | fail))
   | ((with_reducible apply ZoU);(focus (first | exact KW rfl | (apply Z8;exact E0;(first | exact ia rfl | assumption)) | (apply KG;exact E0;(first | exact ia rfl | assumption);assumption) | fail);done);(focus (apply ZV1;exact E0);done);(first | exact KW rfl | (apply Z8;exact E0;(first | exact ia rfl | assumption)) | (apply KG;exact E0;(first | exact ia rfl | assumption);assumption) | fail))
   | ((with_reducible apply ZJH);(focus (first | exact KW rfl | (apply Z8;exact E0;(first | exact ia rfl | assumption)) | (apply KG;exact E0;(first | exact ia rfl | assumption);assumption) | fail);done);(focus (first | exact KW rfl | (apply Z8;exact E0;(first | exact ia rfl | assumption)) | (apply KG;exact E0;(first | exact ia rfl | assumption);assumption) | fail);done);(apply ZV1;exact E0))
   | fail)))
 | (apply WO.hu gN;(focus (first | (((with_reducible apply Z4j));(focus (first | exact KW rfl | (apply Z8;exact E0;(first | exact ia rfl | assumption)) | (apply KG;exact E0;(first | exact ia rfl | assumption);assumption) | fail);done);assumption;(focus (first | exact k0 | exact k1 | exact k2 | exact k3 | exact k4 | exact k5 | exact k6 | exact k7 | (repeat (first | exact k7 | apply Pk.s)));done);(focus (first | exact KW rfl | (apply Z8;exact E0;(first | exact ia rfl | assumption)) | (apply KG;exact E0;(first | exact ia rfl | assumption);assumption) | fail);done);(focus (first | (simp only [Zhc,ZeM,ZdB,Zha,Zhb,Zhe,Zcb,cells_func,Za5,Zaq,ZdC];exact rfl) | exact rfl));exact rfl;exact rfl;exact rfl;(focus simp only [splice,List.take_succ_cons,List.take_zero,List.drop_succ_cons,List.drop_zero,List.cons_append,List.nil_append,List.append_nil,List.length_cons,List.length_nil,Nat.reduceAdd,Nat.zero_add,List.take_nil,List.drop_nil];exact rfl)) | fail)))
 | (apply WO.hn gN rfl;(focus (first | (((with_reducible apply ZWL));(focus (first | exact KW rfl | (apply Z8;exact E0;(first | exact ia rfl | assumption)) | (apply KG;exact E0;(first | exact ia rfl | assumption);assumption) | fail);done);assumption;(focus (first | (simp only [Zhc,ZeM,ZdB,Zha,Zhb,Zhe,Zcb,cells_func,Za5,Zaq,ZdC];exact rfl) | exact rfl))) | (((with_reducible apply ZWM));assumption;(focus (first | (simp only [Zhc,ZeM,ZdB,Zha,Zhb,Zhe,Zcb,cells_func,Za5,Zaq,ZdC];exact rfl) | exact rfl))) | fail)))
 | refine WC.skip ?_
 | refine WC.ret ?_
 | refine WC.block ?_
 | refine WC.exit ?_
 | refine Zh3.ret ?_
 | refine Zh3.exit ?_
 | refine Zhx.ret ?_
 | refine Zhx.XD ?_
 | refine Zhx.here ?_
 | refine Xt.exit ?_
 | refine Xt.ret ?_
 | refine WX.nil ?_
 | fail
 exact k.out):p:=h ⟨k⟩
theorem sl {p:Prop} (h:p:=by
 repeat (first | exact Sel.n | (apply Sel.c;(focus (first | exact k0 | exact k1 | exact k2 | exact k3 | exact k4 | exact k5 | exact k6 | exact k7 | (repeat (first | exact k7 | apply Pk.s))))))
 done):p:=h
theorem r2 {p q:Prop} (k:q) (h:Kp q ->p:=by
 intro k
 iterate 2 (refine r1 ?_)
 exact k.out):p:=h ⟨k⟩
theorem r3 {p q:Prop} (k:q) (h:Kp q ->p:=by
 intro k
 iterate 3 (refine r1 ?_)
 exact k.out):p:=h ⟨k⟩
theorem r4 {p q:Prop} (k:q) (h:Kp q ->p:=by
 intro k
 iterate 4 (refine r1 ?_)
 exact k.out):p:=h ⟨k⟩
theorem r5 {p q:Prop} (k:q) (h:Kp q ->p:=by
 intro k
 iterate 5 (refine r1 ?_)
 exact k.out):p:=h ⟨k⟩
theorem r6 {p q:Prop} (k:q) (h:Kp q ->p:=by
 intro k
 iterate 6 (refine r1 ?_)
 exact k.out):p:=h ⟨k⟩
theorem r7 {p q:Prop} (k:q) (h:Kp q ->p:=by
 intro k
 iterate 7 (refine r1 ?_)
 exact k.out):p:=h ⟨k⟩
theorem r8 {p q:Prop} (k:q) (h:Kp q ->p:=by
 intro k
 iterate 8 (refine r1 ?_)
 exact k.out):p:=h ⟨k⟩
theorem r9 {p q:Prop} (k:q) (h:Kp q ->p:=by
 intro k
 iterate 9 (refine r1 ?_)
 exact k.out):p:=h ⟨k⟩
theorem r10 {p q:Prop} (k:q) (h:Kp q ->p:=by
 intro k
 iterate 10 (refine r1 ?_)
 exact k.out):p:=h ⟨k⟩
theorem Ky {p q:Prop} (k:q) (h:Kp q ->p:=by
 intro k
 iterate 11 (refine r1 ?_)
 exact k.out):p:=h ⟨k⟩
theorem r12 {p q:Prop} (k:q) (h:Kp q ->p:=by
 intro k
 iterate 12 (refine r1 ?_)
 exact k.out):p:=h ⟨k⟩
theorem r13 {p q:Prop} (k:q) (h:Kp q ->p:=by
 intro k
 iterate 13 (refine r1 ?_)
 exact k.out):p:=h ⟨k⟩
theorem r14 {p q:Prop} (k:q) (h:Kp q ->p:=by
 intro k
 iterate 14 (refine r1 ?_)
 exact k.out):p:=h ⟨k⟩
theorem r15 {p q:Prop} (k:q) (h:Kp q ->p:=by
 intro k
 iterate 15 (refine r1 ?_)
 exact k.out):p:=h ⟨k⟩
theorem r16 {p q:Prop} (k:q) (h:Kp q ->p:=by
 intro k
 iterate 16 (refine r1 ?_)
 exact k.out):p:=h ⟨k⟩
end
end Go.Xy
end
end
section
set_option maxRecDepth 20000
noncomputable section
namespace Go.Proofs.YtcnahmgekicbdaaGreat
open Go.Xy Go.Lf
section
abbrev cE (x:Zw):List Value:= [.int .i64 x.kZ,.int .i64 x.kV,.int .i64 x.kX,.int .i64 x.n]
abbrev cS (x:XC):List Value:= [.int .i64 x.act,.int .i64 x.a,.int .i64 x.b]
abbrev cP (x:ZX):List Value:= [.int .i64 x.at_,.int .i64 x.Xu]
abbrev cL (x:Zd) (a:Option Addr) (c:Nat):List Value:= [.int .i64 x.kW,.int .i64 x.kV,.int .i64 x.kX,.int .i64 x.n,.slice a x.qX.length c]
abbrev cW (x:Zf) (a0:Option Addr) (c0:Nat) (a1:Option Addr) (c1:Nat) (a2:Option Addr) (c2:Nat) (a3:Option Addr) (c3:Nat) (a4:Option Addr) (c4:Nat) (a5:Option Addr) (c5:Nat):List Value:= [.slice a0 x.qV.length c0,.slice a1 x.qX.length c1,.slice a2 x.qZ.length c2,.slice a3 x.Zh.length c3,.slice a4 x.Zt.length c4,.slice a5 x.kQ.length c5,.int .i64 x.kK]
abbrev cV (a0:Option Addr) (n0 c0:Nat) (a1:Option Addr) (n1 c1:Nat) (a2:Option Addr) (n2 c2:Nat) (a3:Option Addr) (n3 c3:Nat) (a4:Option Addr) (n4 c4:Nat) (a5:Option Addr) (n5 c5:Nat) (s:Int):List Value:= [.slice a0 n0 c0,.slice a1 n1 c1,.slice a2 n2 c2,.slice a3 n3 c3,.slice a4 n4 c4,.slice a5 n5 c5,.int .i64 s]
abbrev cH (a0:Option Addr) (n0 c0:Nat) (a1:Option Addr) (n1 c1:Nat) (a2:Option Addr) (n2 c2:Nat) (a3:Option Addr) (n3 c3:Nat) (a4:Option Addr) (n4 c4:Nat) (a5:Option Addr) (n5 c5:Nat) (s m:Int) (a6:Option Addr) (n6 c6:Nat) (a7:Option Addr) (n7 c7:Nat):List Value:= [.slice a0 n0 c0,.slice a1 n1 c1,.slice a2 n2 c2,.slice a3 n3 c3,.slice a4 n4 c4,.slice a5 n5 c5,.int .i64 s,.int .i64 m,.slice a6 n6 c6,.slice a7 n7 c7]
abbrev cG (m:Int) (a6:Option Addr) (n6 c6:Nat) (a0:Option Addr) (n0 c0:Nat) (a1:Option Addr) (n1 c1:Nat) (a2:Option Addr) (n2 c2:Nat) (a3:Option Addr) (n3 c3:Nat) (a4:Option Addr) (n4 c4:Nat) (a5:Option Addr) (n5 c5:Nat) (s:Int) (a7:Option Addr) (n7 c7:Nat):List Value:= [.int .i64 m,.slice a6 n6 c6,.slice a0 n0 c0,.slice a1 n1 c1,.slice a2 n2 c2,.slice a3 n3 c3,.slice a4 n4 c4,.slice a5 n5 c5,.int .i64 s,.slice a7 n7 c7]
abbrev gH (wm b:Nat) (x:Z7) (a0:Option Addr) (n0 c0:Nat) (a1:Option Addr) (n1 c1:Nat) (q1:Nat ->Option Addr×Nat×Nat) (a2:Option Addr) (n2 c2:Nat) (q2:Nat ->Option Addr×Nat×Nat) (a3:Option Addr) (n3 c3:Nat) (q3:Nat ->Option Addr×Nat×Nat) (a4:Option Addr) (n4 c4:Nat) (q4:Nat ->Option Addr×Nat×Nat) (a5:Option Addr) (n5 c5:Nat) (q5:Nat ->Option Addr×Nat×Nat) (a6:Option Addr) (c6:Nat) (a7:Option Addr) (n7 c7:Nat):List (Ast wm):= [bx wm b [.slice a0 n0 c0,.slice a1 n1 c1,.slice a2 n2 c2,.slice a3 n3 c3,.slice a4 n4 c4,.slice a5 n5 c5,.int .i64 x.Za.kK,.int .i64 x.qK.qG,.slice a6 x.qK.Zi.length c6,.slice a7 n7 c7],ow wm (Zm .i64) a0 n0 c0 x.Za.qV,Ym wm (Zy (Zm .i64)) a1 n1 c1 q1 x.Za.qX,Ym wm (Zy (Zm .i64)) a2 n2 c2 q2 x.Za.qZ,Ym wm (Zy (Zm .i64)) a3 n3 c3 q3 x.Za.Zh,Ym wm (Zy Zl) a4 n4 c4 q4 x.Za.Zt,Ym wm ZI a5 n5 c5 q5 x.Za.kQ,ow wm Zx a7 n7 c7 x.kU]
abbrev gHz (wm b:Nat) (x:Z7) (a0:Option Addr) (n0 c0:Nat) (a1:Option Addr) (n1 c1:Nat) (q1:Nat ->Option Addr×Nat×Nat) (a2:Option Addr) (n2 c2:Nat) (q2:Nat ->Option Addr×Nat×Nat) (a3:Option Addr) (n3 c3:Nat) (q3:Nat ->Option Addr×Nat×Nat) (a4:Option Addr) (n4 c4:Nat) (q4:Nat ->Option Addr×Nat×Nat) (a5:Option Addr) (n5 c5:Nat) (q5:Nat ->Option Addr×Nat×Nat) (a6:Option Addr) (c6:Nat) (a7:Option Addr) (n7 c7:Nat):List (Ast wm):= [bx wm b [.slice a0 n0 c0,.slice a1 n1 c1,.slice a2 n2 c2,.slice a3 n3 c3,.slice a4 n4 c4,.slice a5 n5 c5,.int .i64 x.Za.kK,.int .i64 x.qK.qG,.slice a6 x.qK.Zi.length c6,.slice a7 n7 c7],ow wm (Zm .i64) a0 n0 c0 x.Za.qV,Ym wm (Zy (Zm .i64)) a1 n1 c1 q1 x.Za.qX,Ym wm (Zy (Zm .i64)) a2 n2 c2 q2 x.Za.qZ,Ym wm (Zy (Zm .i64)) a3 n3 c3 q3 x.Za.Zh,Ym wm (Zy Zl) a4 n4 c4 q4 x.Za.Zt,Ym wm ZI a5 n5 c5 q5 x.Za.kQ,Qb wm (Xr Zk) (a6,c6) x.qK.Zi,ow wm Zx a7 n7 c7 x.kU]
abbrev gG (wm b:Nat) (x:Z6) (a0:Option Addr) (n0 c0:Nat) (a1:Option Addr) (n1 c1:Nat) (q1:Nat ->Option Addr×Nat×Nat) (a2:Option Addr) (n2 c2:Nat) (q2:Nat ->Option Addr×Nat×Nat) (a3:Option Addr) (n3 c3:Nat) (q3:Nat ->Option Addr×Nat×Nat) (a4:Option Addr) (n4 c4:Nat) (q4:Nat ->Option Addr×Nat×Nat) (a5:Option Addr) (n5 c5:Nat) (q5:Nat ->Option Addr×Nat×Nat) (a6:Option Addr) (c6:Nat) (a7:Option Addr) (n7 c7:Nat):List (Ast wm):= [bx wm b [.int .i64 x.s.qG,.slice a6 x.s.Zi.length c6,.slice a0 n0 c0,.slice a1 n1 c1,.slice a2 n2 c2,.slice a3 n3 c3,.slice a4 n4 c4,.slice a5 n5 c5,.int .i64 x.w.kK,.slice a7 n7 c7],ow wm (Zm .i64) a0 n0 c0 x.w.qV,Ym wm (Zy (Zm .i64)) a1 n1 c1 q1 x.w.qX,Ym wm (Zy (Zm .i64)) a2 n2 c2 q2 x.w.qZ,Ym wm (Zy (Zm .i64)) a3 n3 c3 q3 x.w.Zh,Ym wm (Zy Zl) a4 n4 c4 q4 x.w.Zt,Ym wm ZI a5 n5 c5 q5 x.w.kQ,ow wm Zx a7 n7 c7 x.kU]
abbrev gGz (wm b:Nat) (x:Z6) (a0:Option Addr) (n0 c0:Nat) (a1:Option Addr) (n1 c1:Nat) (q1:Nat ->Option Addr×Nat×Nat) (a2:Option Addr) (n2 c2:Nat) (q2:Nat ->Option Addr×Nat×Nat) (a3:Option Addr) (n3 c3:Nat) (q3:Nat ->Option Addr×Nat×Nat) (a4:Option Addr) (n4 c4:Nat) (q4:Nat ->Option Addr×Nat×Nat) (a5:Option Addr) (n5 c5:Nat) (q5:Nat ->Option Addr×Nat×Nat) (a6:Option Addr) (c6:Nat) (a7:Option Addr) (n7 c7:Nat):List (Ast wm):= [bx wm b [.int .i64 x.s.qG,.slice a6 x.s.Zi.length c6,.slice a0 n0 c0,.slice a1 n1 c1,.slice a2 n2 c2,.slice a3 n3 c3,.slice a4 n4 c4,.slice a5 n5 c5,.int .i64 x.w.kK,.slice a7 n7 c7],Qb wm (Xr Zk) (a6,c6) x.s.Zi,ow wm (Zm .i64) a0 n0 c0 x.w.qV,Ym wm (Zy (Zm .i64)) a1 n1 c1 q1 x.w.qX,Ym wm (Zy (Zm .i64)) a2 n2 c2 q2 x.w.qZ,Ym wm (Zy (Zm .i64)) a3 n3 c3 q3 x.w.Zh,Ym wm (Zy Zl) a4 n4 c4 q4 x.w.Zt,Ym wm ZI a5 n5 c5 q5 x.w.kQ,ow wm Zx a7 n7 c7 x.kU]
instance:Zci XX.P 3:= ⟨Kv⟩
instance:Zci XX.P 4:= ⟨ZPe⟩
instance:Zci XX.P 22:= ⟨ZEK⟩
instance:Zpg XX.P 24:= ⟨ZmJ⟩
instance:Zci XX.P 28:= ⟨ZEJ⟩
instance:Zci XX.P 29:= ⟨Zat⟩
instance:Zci XX.P 30:= ⟨ZkJ⟩
instance:Zci XX.P 31:= ⟨ZwB⟩
instance:Zpg XX.P 33:= ⟨ZwA⟩
instance:Zci XX.P 34:= ⟨ZEI⟩
instance:Zci XX.P 35:= ⟨Zep⟩
instance:Zci XX.P 36:= ⟨Zr7⟩
instance:Zci XX.P 62:= ⟨ZW3⟩
instance:Zpg XX.P 64:= ⟨ZEH⟩
instance:Zpg XX.P 66:= ⟨ZmI⟩
instance:Zci XX.P 69:= ⟨ZhM⟩
instance:Zci XX.P 71:= ⟨ZJL⟩
instance:Zci XX.P 72:= ⟨ZW2⟩
instance:Zpg XX.P 74:= ⟨ZEG⟩
instance:Zci XX.P 87:= ⟨ZJK⟩
instance:Zpg XX.P 99:= ⟨ZJJ⟩
instance:Zpg XX.P 106:= ⟨ZPh⟩
instance:Zci XX.P 112:= ⟨ZPg⟩
instance:Zci XX.P 119:= ⟨ZPf⟩
instance:Zpg XX.P 121:= ⟨Zcf⟩
instance:SzF XX.P 3 1:= ⟨XO⟩
instance:SzF XX.P 4 1:= ⟨ZRe⟩
instance:SzF XX.P 24 2:= ⟨Zgv⟩
instance:SzF XX.P 28 1:= ⟨ZKl⟩
instance:SzF XX.P 29 1:= ⟨ZsG⟩
instance:SzF XX.P 30 1:= ⟨ZKk⟩
instance:SzF XX.P 31 1:= ⟨ZKj⟩
instance:SzF XX.P 33 7:= ⟨Zgu⟩
instance:SzF XX.P 34 1:= ⟨ZKi⟩
instance:SzF XX.P 35 1:= ⟨XJ⟩
instance:SzF XX.P 36 1:= ⟨ZKh⟩
instance:SzF XX.P 62 1:= ⟨ZKg⟩
instance:SzF XX.P 64 4:= ⟨ZiS⟩
instance:SzF XX.P 66 2:= ⟨Zgt⟩
instance:SzF XX.P 69 1:= ⟨JQ⟩
instance:SzF XX.P 71 1:= ⟨ZcX⟩
instance:SzF XX.P 74 3:= ⟨ZsF⟩
instance:SzF XX.P 99 2:= ⟨Zah⟩
instance:SzF XX.P 106 3:= ⟨ZFS⟩
instance:SzF XX.P 112 1:= ⟨ZFR⟩
instance:SzF XX.P 121 5:= ⟨XK⟩
instance:Us XX.P 24 0 0:= ⟨ZnP⟩
instance:Us XX.P 24 1 1:= ⟨ZG4⟩
instance:Us XX.P 33 0 0:= ⟨ZG3⟩
instance:Us XX.P 33 1 1:= ⟨ZnO⟩
instance:Us XX.P 33 2 2:= ⟨ZfP⟩
instance:Us XX.P 33 3 3:= ⟨ZG2⟩
instance:Us XX.P 33 4 4:= ⟨Zwa⟩
instance:Us XX.P 33 5 5:= ⟨Zv9⟩
instance:Us XX.P 33 6 6:= ⟨ZG1⟩
instance:Us XX.P 64 0 0:= ⟨ZG0⟩
instance:Us XX.P 64 1 1:= ⟨ZGZ⟩
instance:Us XX.P 64 2 2:= ⟨ZGY⟩
instance:Us XX.P 64 3 3:= ⟨ZGX⟩
instance:Us XX.P 66 0 0:= ⟨ZGW⟩
instance:Us XX.P 66 1 1:= ⟨ZGV⟩
instance:Us XX.P 74 0 0:= ⟨ZGU⟩
instance:Us XX.P 74 1 1:= ⟨ZGT⟩
instance:Us XX.P 74 2 2:= ⟨ZGS⟩
instance:Us XX.P 91 0 0:= ⟨ZnN⟩
instance:Us XX.P 91 1 7:= ⟨ZnM⟩
instance:Us XX.P 91 2 9:= ⟨ZGR⟩
instance:Us XX.P 96 0 0:= ⟨Zv8⟩
instance:Us XX.P 96 1 2:= ⟨Zb7⟩
instance:Us XX.P 96 2 9:= ⟨ZGQ⟩
instance:Us XX.P 99 0 0:= ⟨Zv7⟩
instance:Us XX.P 99 1 1:= ⟨ZfO⟩
instance:Us XX.P 106 0 0:= ⟨ZDo⟩
instance:Us XX.P 106 1 2:= ⟨ZDn⟩
instance:Us XX.P 121 0 0:= ⟨ZDm⟩
instance:Us XX.P 121 1 1:= ⟨ZDl⟩
instance:Us XX.P 121 2 2:= ⟨Zq6⟩
instance:Us XX.P 121 3 3:= ⟨ZDk⟩
instance:Us XX.P 121 4 4:= ⟨Zq5⟩
instance:Zh2 XX.P 22 66:= ⟨ZQ8⟩
instance:Zh2 XX.P 25 74:= ⟨ZQ7⟩
instance:Zh2 XX.P 28 71:= ⟨Zu6⟩
instance:Zh2 XX.P 29 35:= ⟨JF⟩
instance:Zh2 XX.P 30 69:= ⟨Zee⟩
instance:Zh2 XX.P 31 99:= ⟨ZeZ⟩
instance:Zh2 XX.P 34 64:= ⟨Zzp⟩
instance:Zh2 XX.P 35 3:= ⟨XL⟩
instance:Zh2 XX.P 60 4:= ⟨ZQ5⟩
instance:Zh2 XX.P 69 121:= ⟨Q7⟩
instance:ZPG XX.P 4:= ⟨ZYe⟩
instance:Zch XX.P 3 (.int .i64 0):= ⟨KM⟩
instance:Zch XX.P 4 (.bool false):= ⟨ZP0⟩
instance:Zch XX.P 33 (.agg #[.slice none 0 0,.slice none 0 0,.slice none 0 0,.slice none 0 0,.slice none 0 0,.slice none 0 0,.int .i64 0]):= ⟨ZyN⟩
instance:Zch XX.P 35 (.slice none 0 0):= ⟨ZbF⟩
instance:Zch XX.P 36 (.int .i64 0):= ⟨ZJX⟩
instance:Zch XX.P 64 (.agg #[.int .i64 0,.int .i64 0,.int .i64 0,.int .i64 0]):= ⟨ZmP⟩
instance:Zch XX.P 66 (.agg #[.int .i64 0,.int .i64 0]):= ⟨ZJW⟩
instance:Zch XX.P 67 (.agg #[.int .i64 0,.int .i64 0]):= ⟨ZJV⟩
instance:Zch XX.P 69 (.slice none 0 0):= ⟨Zso⟩
instance:Zch XX.P 71 (.int .i64 0):= ⟨Zsn⟩
instance:Zch XX.P 74 (.agg #[.int .i64 0,.int .i64 0,.int .i64 0]):= ⟨ZJU⟩
instance:Zch XX.P 91 (.agg #[.slice none 0 0,.slice none 0 0,.slice none 0 0,.slice none 0 0,.slice none 0 0,.slice none 0 0,.int .i64 0,.int .i64 0,.slice none 0 0,.slice none 0 0]):= ⟨ZyM⟩
instance:Zch XX.P 96 (.agg #[.int .i64 0,.slice none 0 0,.slice none 0 0,.slice none 0 0,.slice none 0 0,.slice none 0 0,.slice none 0 0,.slice none 0 0,.int .i64 0,.slice none 0 0]):= ⟨ZyL⟩
instance:Zch XX.P 99 (.agg #[.int .i64 0,.slice none 0 0]):= ⟨ZmO⟩
instance:Zch XX.P 106 (.agg #[.int .i64 0,.slice none 0 0,.slice none 0 0]):= ⟨ZFs⟩
instance:Zch XX.P 112 (.nilFunc):= ⟨ZFr⟩
instance:Zch XX.P 121 (.agg #[.int .i64 0,.int .i64 0,.int .i64 0,.int .i64 0,.slice none 0 0]):= ⟨Kb⟩
instance:Zch XX.P 124 (.nilFunc):= ⟨ZdO⟩
end
section
def ZHd (p0:Zc):Option Bool:=
 some (decide ((p0.Zi.length:Int) <=30))
def Zkd (p0:Zc) (v23:Int) (Zni:(Int ->Option Bool)):Int×Int ->(Int×Int ->Option Bool) ->Option Bool:=fun(v34,v36) ZAV=>
 (bif((decide (v36 <= (p0.Zi.length:Int))) && (decide (v34 >=0))) then(bif(v34==v23) then some false else(ZW p0.Zi v34).bind fun x41=>ZAV (x41.Xu,Ye (v36 + 1))) else Zni (Ye (v23 + 1)))
def Zg2 (F:Nat) (p0:Zc):Int ->(Int ->Option Bool) ->Option Bool:=fun v23 Zni=>
 (bif decide (v23 < (p0.Zi.length:Int)) then(ZW p0.Zi v23).bind fun x26=>loop F (Zkd p0 v23 Zni) (x26.Xu,0) else some true)
def Zke (F:Nat) (p0:Zc):Int ->(Int ->Option Bool) ->Option Bool:=fun v9 Zb0=>
 (bif decide (v9 < (p0.Zi.length:Int)) then(ZW p0.Zi v9).bind fun x12=>(bif((((decide (x12.at_ < 0)) || (decide (x12.at_ >=p0.qG))) || (decide (x12.Xu < (-1)))) || (decide (x12.Xu >= (p0.Zi.length:Int)))) then some false else Zb0 (Ye (v9 + 1))) else loop F (Zg2 F p0) 0)
def ZxQ (F:Nat) (p0:Zc):Option Bool:=
 (bif((((decide (p0.qG < 1)) || (decide (p0.qG > 4))) || (decide ((p0.Zi.length:Int) < 1))) || (decide ((p0.Zi.length:Int) > 8))) then some false else loop F (Zke F p0) 0)
def Zoi (p0:(List Int)) (p1:(List Int)):Int ->(Int ->Option Bool) ->Option Bool:=fun v6 Zdi=>
 (bif decide (v6 < (p0.length:Int)) then(ZW p0 v6).bind fun x9=>(ZW p1 v6).bind fun x12=>(bif(x9 !=x12) then some false else Zdi (Ye (v6 + 1))) else some true)
def Zlm (F:Nat) (p0:(List Int)) (p1:(List Int)):Option Bool:=
 (bif((p0.length:Int) != (p1.length:Int)) then some false else loop F (Zoi p0 p1) 0)
def ZxO (p0:Zc) (p1:Int):Option Bool:=
 some ((decide (p1 >=0)) && (decide (p1 < (p0.Zi.length:Int))))
def Zoh (p0:Zc):(List Int)×Int ->((List Int)×Int ->Option (List Int)) ->Option (List Int):=fun(v9,v14) ZAY=>
 (bif decide (v14 >=0) then(app 8 v9 [v14]).bind fun z19=>(ZW p0.Zi v14).bind fun x23=>ZAY (z19,x23.Xu) else some v9)
def ZxN (F:Nat) (p0:Zc) (p1:Int):Option (List Int):=
 (ZW p0.Zi p1).bind fun x3=>loop F (Zoh p0) ([],x3.Xu)
end
section
theorem ZOA {wm h} {p0:Zc} {Zq Zp} {r} (Yc:wm <=h.size) (ZB:Sl Zk wm h Zq Zp p0.Zi) (hL:ZHd p0=some r):
 WR XX 14 #[.agg [.int .i64 p0.qG,.slice Zq p0.Zi.length Zp].toArray] wm h (CP (fun(v:Value) (Gb:List (Ast wm))=>v= .bool r∧Gb= []) [] h):=by
 refine bg Tryz.ntmps14 Yc Yo.nil ?_;intro T hT hS;unfold ZHd at hL;refine r3 ?_;rintro _ h2 ⟨b1,eb1,rfl,hS⟩;refine r13 ?_;exact rt hL hT hS
theorem ZOx {F wm h} {p0:Zc} {Zq Zp} {r} (Yc:wm <=h.size) (ZB:Sl Zk wm h Zq Zp p0.Zi) (hL:ZxQ F p0=some r):
 WR XX 17 #[.agg [.int .i64 p0.qG,.slice Zq p0.Zi.length Zp].toArray] wm h (CP (fun(v:Value) (Gb:List (Ast wm))=>v= .bool r∧Gb= []) [] h):=by
 refine bg Tryz.ntmps17 Yc Yo.nil ?_;intro T hT hS;unfold ZxQ at hL;refine r3 ?_;rintro _ h2 ⟨b1,eb1,rfl,hS⟩;refine r16 ?_;refine r16 ?_;refine cn hL ?_ ?_
 ·intro hc hL;refine r7 ?_;exact rt hL hT hS
 ·intro hc hL;refine r12 ?_;refine WC.loop (WL.lift hL (fun v9 s=>∃ fr4 h3,s= ⟨fr4,[],h3,none⟩∧Sp wm T h [bx wm b1 [.int .i64 p0.qG,.slice Zq p0.Zi.length Zp]] h3∧fr4.at 1= .pointer (some ⟨b1,0,none⟩)∧fr4.at 3= .int .i64 (p0.Zi.length:Int)∧fr4.at 29= .slice Zq p0.Zi.length Zp∧fr4.at 30= .int .i64 (p0.Zi.length:Int)∧fr4.at 31= .int .i64 v9) ⟨_,_,rfl,hS.only sl,Qo⟩ ?_);clear hL hS;rintro Zb0 v9 s ZdZ hL ⟨fr4,h3,rfl,hS,e5,e6,e7,e8,e10⟩;dsimp only [Zke] at hL;refine r6 ?_;refine cn hL ?_ ?_
  ·intro hc hL;refine r6 ?_;obtain⟨x12,ZqB,hL⟩:=bS hL;obtain⟨b13,o14,_,Zv1,Zml,Zmj,Zv5⟩:=Sl.at_ ZB ZqB;refine r1 ?_;refine WO.w gN rfl (QK ZmI Zgt (Z8 fh rfl) (At.fz hS.fz Zmj Zml) (j:=0) rfl rfl (ws:= (cP x12)) rfl) ?_;refine r1 ?_;rintro _ h16 ⟨b15,Yde,rfl,hS⟩;refine r1 ?_;rintro h17 hS;refine r16 ?_;refine Ky ?_;refine cn hL ?_ ?_
   ·intro hc hL;refine Ky ?_;exact rt hL hT hS
   ·intro hc hL;refine r7 ?_;exact Xt.XD (ZdZ _ _ hL ⟨_,_,rfl,hS.only sl,Qo⟩)
  ·intro hc hL;refine r15 ?_;refine WC.loop (WL.lift hL (fun v23 s=>∃ ZxB h18,s= ⟨ZxB,[],h18,none⟩∧Sp wm T h [bx wm b1 [.int .i64 p0.qG,.slice Zq p0.Zi.length Zp]] h18∧ZxB.at 1= .pointer (some ⟨b1,0,none⟩)∧ZxB.at 3= .int .i64 (p0.Zi.length:Int)∧ZxB.at 59= .int .i64 (p0.Zi.length:Int)∧ZxB.at 60= .int .i64 v23) ⟨_,_,rfl,hS.only sl,Qo⟩ ?_);clear hL hS;rintro Zni v23 s ZGA hL ⟨ZxB,h18,rfl,hS,e20,e21,e22,e24⟩;dsimp only [Zg2] at hL;refine r6 ?_;refine cn hL ?_ ?_
   ·intro hc hL;refine r15 ?_;obtain⟨x26,ZZK,hL⟩:=bS hL;obtain⟨b27,o28,_,Z6M,Z7I,Z7k,Z63⟩:=Sl.at_ ZB ZZK;refine r12 ?_;refine WC.loop (WL.lift hL (fun p s=>match p with | (v34,v36)=>∃ ZnL h29,s= ⟨ZnL,[],h29,none⟩∧Sp wm T h [bx wm b1 [.int .i64 p0.qG,.slice Zq p0.Zi.length Zp]] h29∧ZnL.at 1= .pointer (some ⟨b1,0,none⟩)∧ZnL.at 3= .int .i64 (p0.Zi.length:Int)∧ZnL.at 6= .int .i64 v23∧ZnL.at 7= .int .i64 v34∧ZnL.at 8= .int .i64 v36∧ZnL.at 59= .int .i64 (p0.Zi.length:Int)∧ZnL.at 60= .int .i64 v23) ⟨_,_,rfl,hS.only sl,Qo⟩ ?_);clear hL hS;rintro ZAV ⟨v34,v36⟩ s ZGx hL ⟨ZnL,h29,rfl,hS,e31,e32,e33,e35,e37,e38,e39⟩;dsimp only [Zkd] at hL;refine r12 ?_;refine cn hL ?_ ?_
    ·intro hc hL;refine r12 ?_;refine cn hL ?_ ?_
     ·intro hc hL;refine r16 ?_;exact rt hL hT hS
     ·intro hc hL;refine r6 ?_;obtain⟨x41,ZBm,hL⟩:=bS hL;obtain⟨b42,o43,_,Z6K,Z7E,Z7i,Z62⟩:=Sl.at_ ZB ZBm;refine r12 ?_;exact Xt.XD (ZGx _ _ hL ⟨_,_,rfl,hS.only sl,Qo⟩)
    ·intro hc hL;refine r10 ?_;exact Xt.XD (ZGA _ _ hL ⟨_,_,rfl,hS.only sl,Qo⟩)
   ·intro hc hL;refine Ky ?_;exact rt hL hT hS
theorem ZOy {F h} {p0:Zc} {Zq Zp} {r} (ZB:Sl Zk h.size h Zq Zp p0.Zi) (hL:ZxQ F p0=some r):Pure XX 17 #[.agg [.int .i64 p0.qG,.slice Zq p0.Zi.length Zp].toArray] h (.bool r):=
 WR.Xq rfl (ZOx (Nat.le_refl _) ZB hL)
theorem ZOq {F wm h} {p0 p1:(List Int)} {Zq Zp YF YE} {r} (Yc:wm <=h.size) (ZB:Sl (Zm .i64) wm h Zq Zp p0) (XU:Sl (Zm .i64) wm h YF YE p1) (hL:Zlm F p0 p1=some r):
 WR XX 22 #[.slice Zq p0.length Zp,.slice YF p1.length YE] wm h (CP (fun(v:Value) (Gb:List (Ast wm))=>v= .bool r∧Gb= []) [] h):=by
 refine bg Tryz.ntmps22 Yc Yo.nil ?_;intro T hT hS;unfold Zlm at hL;refine r15 ?_;refine cn hL ?_ ?_
 ·intro hc hL;refine r7 ?_;exact rt hL hT hS
 ·intro hc hL;refine Ky ?_;refine WC.loop (WL.lift hL (fun v6 s=>∃ QO h1,s= ⟨QO,[],h1,none⟩∧Sp wm T h [] h1∧QO.at 0= .slice Zq p0.length Zp∧QO.at 1= .slice YF p1.length YE∧QO.at 12= .int .i64 (p0.length:Int)∧QO.at 13= .int .i64 v6) ⟨_,_,rfl,hS.only .n,Qo⟩ ?_);clear hL hS;rintro Zdi v6 s ZeB hL ⟨QO,h1,rfl,hS,e3,e4,e5,e7⟩;dsimp only [Zoi] at hL;refine r6 ?_;refine cn hL ?_ ?_
  ·intro hc hL;refine Ky ?_;refine WC.YL mixed Kq0 ?_;refine r2 ?_;obtain⟨x9,hx9,hL⟩:=bS hL;obtain⟨b10,o11,_,ZCY,ZqW,ZqT,Zv6⟩:=Sl.at_ ZB hx9;refine r4 ?_;obtain⟨x12,ZqB,hL⟩:=bS hL;obtain⟨b13,o14,_,Zv1,Zml,Zmj,Zv5⟩:=Sl.at_ XU ZqB;refine r5 ?_;refine cn hL ?_ ?_
   ·intro hc hL;refine Ky ?_;exact rt hL hT hS
   ·intro hc hL;refine r7 ?_;exact Xt.XD (ZeB _ _ hL ⟨_,_,rfl,hS.only .n,Qo⟩)
  ·intro hc hL;refine Ky ?_;exact rt hL hT hS
theorem Zkc {F h} {p0 p1:(List Int)} {Zq Zp YF YE} {r} (ZB:Sl (Zm .i64) h.size h Zq Zp p0) (XU:Sl (Zm .i64) h.size h YF YE p1) (hL:Zlm F p0 p1=some r):Pure XX 22 #[.slice Zq p0.length Zp,.slice YF p1.length YE] h (.bool r):=
 WR.Xq rfl (ZOq (Nat.le_refl _) ZB XU hL)
theorem ZOp {wm h} {p0:Zc} {p1:Int} {Zq Zp} {r} (Yc:wm <=h.size) (ZB:Sl Zk wm h Zq Zp p0.Zi) (hL:ZxO p0 p1=some r):
 WR XX 33 #[.agg [.int .i64 p0.qG,.slice Zq p0.Zi.length Zp].toArray,.int .i64 p1] wm h (CP (fun(v:Value) (Gb:List (Ast wm))=>v= .bool r∧Gb= []) [] h):=by
 refine bg Tryz.ntmps33 Yc Yo.nil ?_;intro T hT hS;unfold ZxO at hL;refine r3 ?_;rintro _ h2 ⟨b1,eb1,rfl,hS⟩;refine r16 ?_;refine r2 ?_;exact rt hL hT hS
theorem ZDV {h} {p0:Zc} {p1:Int} {Zq Zp} {r} (ZB:Sl Zk h.size h Zq Zp p0.Zi) (hL:ZxO p0 p1=some r):Pure XX 33 #[.agg [.int .i64 p0.qG,.slice Zq p0.Zi.length Zp].toArray,.int .i64 p1] h (.bool r):=
 WR.Xq rfl (ZOp (Nat.le_refl _) ZB hL)
theorem ZDT {F wm h} {p0:Zc} {p1:Int} {Zq Zp} {r} (Yc:wm <=h.size) (ZB:Sl Zk wm h Zq Zp p0.Zi) (hL:ZxN F p0 p1=some r):
 WR XX 38 #[.agg [.int .i64 p0.qG,.slice Zq p0.Zi.length Zp].toArray,.int .i64 p1] wm h (CP (fun(v:Value) (Gb:List (Ast wm))=>∃ Q9 JA Q8,v= .slice Q9 JA Q8∧Gb= [ow wm (Zm .i64) Q9 JA Q8 r]) [] h):=by
 refine bg Tryz.ntmps38 Yc Yo.nil ?_;intro T hT hS;unfold ZxN at hL;refine r3 ?_;rintro _ h2 ⟨b1,eb1,rfl,hS⟩;refine r14 ?_;obtain⟨x3,hx3,hL⟩:=bS hL;obtain⟨b4,o5,_,ZGJ,ZGK,Ya1,ZNm⟩:=Sl.at_ ZB hx3;refine r7 ?_;have hS:=hS.nil (e:= (Zm .i64));refine WC.loop (WL.lift hL (fun p s=>match p with | (v9,v14)=>∃ fr7 h6 a10 c11 n12,s= ⟨fr7,[],h6,none⟩∧Sp wm T h [ow wm (Zm .i64) a10 n12 c11 v9,bx wm b1 [.int .i64 p0.qG,.slice Zq p0.Zi.length Zp]] h6∧fr7.at 2= .pointer (some ⟨b1,0,none⟩)∧fr7.at 5= .slice a10 n12 c11∧fr7.at 6= .int .i64 v14) ⟨_,_,none,0,0,rfl,hS.only sl,Qo⟩ ?_);clear hL hS;rintro ZAY ⟨v9,v14⟩ s ZGC hL ⟨fr7,h6,a10,c11,n12,rfl,hS,e8,e13,e15⟩;obtain rfl:=hS.on k0;dsimp only [Zoh] at hL;refine r7 ?_;refine cn hL ?_ ?_
 ·intro hc hL;refine r7 ?_;refine WO.hn gN rfl (Kw (e:= (Zm .i64)) hS XL XO KM rfl rfl rfl (Z4 lk YK) rfl [((),v14)] rfl (xs:= [v14]) rfl (by intro q hq;simp only [List.mem_cons,List.not_mem_nil,or_false] at hq;subst hq;exact trivial) rfl) ?_;rintro _ h18 ⟨b17,Ydd,rfl,hS⟩;obtain⟨z19,ZZl,hL⟩:=bS hL;refine WO.hv gN rfl (Ud (e:= (Zm .i64)) hS k1 X9 lk lk (hS.QF k0) (hS.on k0) ZZl) ?_;rintro _ h22 ⟨a20,c21,rfl,hS⟩;refine r8 ?_;obtain⟨x23,ZZL,hL⟩:=bS hL;obtain⟨b24,o25,_,Z6N,Z7J,Z7l,Z64⟩:=Sl.at_ ZB ZZL;refine r5 ?_;exact Xt.XD (ZGC _ _ hL ⟨_,_,a20,c21,z19.length,rfl,hS.only sl,Qo⟩)
 ·intro hc hL;refine r12 ?_;have hr:=Oi0 hL;subst hr;exact Ya.UW rfl (YC lk Zv) ⟨_,⟨a10,v9.length,c11,rfl,rfl⟩,hT ▸ hS.only sl⟩
end
section
def Zn8 (p0:Zc) (p1:Int):Option Bool:=
 some ((decide (p1 >=0)) && (decide (p1 < (p0.Zi.length:Int))))
def Zj3 (v13:Int) (ZbZ:((List Int)×Int ->Option (List Int))):(List Int) ->Option (List Int):=fun v19=>
 ZbZ (v19,Ye (v13 + 1))
def ZnY (p0:Zc) (p1:Int):(List Int)×Int ->((List Int)×Int ->Option (List Int)) ->Option (List Int):=fun(v6,v13) ZbZ=>
 (bif decide (v13 < (p0.Zi.length:Int)) then(ZW p0.Zi v13).bind fun x27=>(bif(x27.Xu==p1) then(app 8 v6 [v13]).bind fun z35=>(Zj3 v13 ZbZ) z35 else(Zj3 v13 ZbZ) v6) else some v6)
def Zt8 (F:Nat) (p0:Zc) (p1:Int):Option (List Int):=
 loop F (ZnY p0 p1) ([],0)
end
section
theorem ZOg {wm h} {p0:Zc} {p1:Int} {Zq Zp} {r} (Yc:wm <=h.size) (ZB:Sl Zk wm h Zq Zp p0.Zi) (hL:Zn8 p0 p1=some r):
 WR XX 54 #[.agg [.int .i64 p0.qG,.slice Zq p0.Zi.length Zp].toArray,.int .i64 p1] wm h (CP (fun(v:Value) (Gb:List (Ast wm))=>v= .bool r∧Gb= []) [] h):=by
 refine bg Tryz.ntmps54 Yc Yo.nil ?_;intro T hT hS;unfold Zn8 at hL;refine r3 ?_;rintro _ h2 ⟨b1,eb1,rfl,hS⟩;refine r16 ?_;refine r2 ?_;exact rt hL hT hS
theorem Zuc {h} {p0:Zc} {p1:Int} {Zq Zp} {r} (ZB:Sl Zk h.size h Zq Zp p0.Zi) (hL:Zn8 p0 p1=some r):Pure XX 54 #[.agg [.int .i64 p0.qG,.slice Zq p0.Zi.length Zp].toArray,.int .i64 p1] h (.bool r):=
 WR.Xq rfl (ZOg (Nat.le_refl _) ZB hL)
theorem ZDz {F wm h} {p0:Zc} {p1:Int} {Zq Zp} {r} (Yc:wm <=h.size) (ZB:Sl Zk wm h Zq Zp p0.Zi) (hL:Zt8 F p0 p1=some r):
 WR XX 83 #[.agg [.int .i64 p0.qG,.slice Zq p0.Zi.length Zp].toArray,.int .i64 p1] wm h (CP (fun(v:Value) (Gb:List (Ast wm))=>∃ Q9 JA Q8,v= .slice Q9 JA Q8∧Gb= [ow wm (Zm .i64) Q9 JA Q8 r]) [] h):=by
 refine bg Tryz.ntmps83 Yc Yo.nil ?_;intro T hT hS;unfold Zt8 at hL;refine r3 ?_;rintro _ h2 ⟨b1,eb1,rfl,hS⟩;refine r16 ?_;refine r2 ?_;have hS:=hS.nil (e:= (Zm .i64));refine WC.loop (WL.lift hL (fun p s=>match p with | (v6,v13)=>∃ fr4 h3 a7 c8 n9,s= ⟨fr4,[],h3,none⟩∧Sp wm T h [ow wm (Zm .i64) a7 n9 c8 v6] h3∧fr4.at 1= .int .i64 p1∧fr4.at 5= .slice a7 n9 c8∧fr4.at 9= .slice Zq p0.Zi.length Zp∧fr4.at 10= .int .i64 (p0.Zi.length:Int)∧fr4.at 11= .int .i64 v13) ⟨_,_,none,0,0,rfl,hS.only sl,Qo⟩ ?_);clear hL hS;rintro ZbZ ⟨v6,v13⟩ s Zny hL ⟨fr4,h3,a7,c8,n9,rfl,hS,e5,e10,e11,e12,e14⟩;obtain rfl:=hS.on k0;dsimp only [ZnY] at hL;refine r6 ?_;refine cn hL ?_ ?_
 ·intro hc hL;refine r2 ?_;refine WC.Zgx (r:=r) (fun(v19:(List Int)) s=>∃ ZfM h16 a20 c21 n22,s= ⟨ZfM,[],h16,none⟩∧Sp wm T h [ow wm (Zm .i64) a20 n22 c21 v19] h16∧ZfM.at 1= .int .i64 p1∧ZfM.at 5= .slice a20 n22 c21∧ZfM.at 9= .slice Zq p0.Zi.length Zp∧ZfM.at 10= .int .i64 (p0.Zi.length:Int)∧ZfM.at 11= .int .i64 v13) (Zj3 v13 ZbZ) ?_ ?_
  ·clear hL hS;rintro v19 s hL ⟨ZfM,h16,a20,c21,n22,rfl,hS,e18,e23,e24,e25,e26⟩;obtain rfl:=hS.on k0;dsimp only [Zj3] at hL;refine r4 ?_;exact Xt.XD (Zny _ _ hL ⟨_,_,a20,c21,v19.length,rfl,hS.only sl,Qo⟩)
  ·skip;refine r4 ?_;obtain⟨x27,hx27,hL⟩:=bS hL;obtain⟨b28,o29,_,ZU6,ZJq,ZJo,ZJm⟩:=Sl.at_ ZB hx27;refine r1 ?_;refine WO.w gN rfl (QK ZmI Zgt (Z8 fh rfl) (At.fz hS.fz ZJo ZJq) (j:=0) rfl rfl (ws:= (cP x27)) rfl) ?_;refine r1 ?_;rintro _ h31 ⟨b30,Yc9,rfl,hS⟩;refine r2 ?_;rintro h32 hS;refine r10 ?_;refine cn hL ?_ ?_
   ·intro hc hL;refine r3 ?_;refine WO.hn gN rfl (Kw (e:= (Zm .i64)) hS XL XO KM rfl rfl rfl (Z4 lk YK) rfl [((),v13)] rfl (xs:= [v13]) rfl (by intro q hq;simp only [List.mem_cons,List.not_mem_nil,or_false] at hq;subst hq;exact trivial) rfl) ?_;rintro _ h34 ⟨b33,ZV5,rfl,hS⟩;obtain⟨z35,ZMi,hL⟩:=bS hL;refine WO.hv gN rfl (Ud (e:= (Zm .i64)) hS k2 X9 lk lk (hS.QF k0) (hS.on k0) ZMi) ?_;rintro _ h38 ⟨a36,c37,rfl,hS⟩;refine r3 ?_;exact Jz.XD _ hL ⟨_,_,a36,c37,z35.length,rfl,hS.only sl,Qo⟩
   ·intro hc hL;refine r2 ?_;exact Jz.XD _ hL ⟨_,_,a7,c8,v6.length,rfl,hS.only sl,Qo⟩
 ·intro hc hL;refine r12 ?_;have hr:=Oi0 hL;subst hr;exact Ya.UW rfl (YC lk Zv) ⟨_,⟨a7,v6.length,c8,rfl,rfl⟩,hT ▸ hS.only sl⟩
end
end Go.Proofs.YtcnahmgekicbdaaGreat
end
end
