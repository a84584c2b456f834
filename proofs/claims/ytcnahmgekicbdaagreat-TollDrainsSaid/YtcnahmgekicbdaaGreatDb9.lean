/- Part 9. -/
import Derived.Test.YtcnahmgekicbdaaGreatDb8
set_option linter.all false
set_option maxHeartbeats 2000000
section
noncomputable section
namespace Go.Xv
open Go.Lf
section
variable {X:Ctx} {n wm:Nat} {rd:Option Nat} {ops:Array Oper} {ol:List Oper} {fr:Fr} {ds:List Deferred} {h h0:H} {ty:TypeId} {p:String} {af:Array Edge} {g:Option (Nat×Bool)} {T:Nat ->Prop} {G Gr:List (Ast wm)} {d l df:Nat} {LO:Qj} {ps:Array Tmp} {Xm bd:Code}
theorem Zfk {α β:Type} {body:α ->(α ->Option β) ->Option β} (C:α ->β ->Prop) (hb:∀ next:α ->Option β,(∀ x r,next x=some r ->C x r) ->∀ x r,body x next=some r ->C x r):∀ F x r,loop F body x=some r ->C x r:=by
 intro F
 induction F with
 | zero=>intro x r h;cases h
 | succ F ih=>intro x r h;exact hb _ ih x r h
def dne (c:Code):Qj ->Qj
 | .loop _ _ fr n ps Xm bd df=>.loop .done (some c) fr n ps Xm bd df
 | A=>A
def lst (b:Bool) (c:Code) (A:Qj):Qj:=bif b then dne c A else A
inductive Zv1:XX ->Code ->Prop
 | ret:Zv1 .ret .ret
 | exit (id:Nat):Zv1 (.exit id) (.exit id)
structure BdS (n lo l:Nat) (fr:Fr) (ps:Array Tmp) (Xm bd:Code) (df:Nat) (R:Bool ->H ->Prop) (e:XX) (s:Fs):Prop where
 out:s.h.at l= .loop .busy none fr n ps Xm bd df/\
  ((e= .normal/\∀ h',(lo <=l ->Up lo (fun i=>i=l) s.h h') ->h'.at l= .loop .ready none fr n ps Xm bd df ->R true h')\/
   (∃ c,Zv1 e c/\∀ h',(lo <=l ->Up lo (fun i=>i=l) s.h h') ->h'.at l= .loop .done (some c) fr n ps Xm bd df ->R false h'))
structure AsS (X:Ctx) (n wm lo l:Nat) (fr:Fr) (ps:Array Tmp) (Xm bd:Code) (df:Nat) (R:Bool ->H ->Prop) (e:XX) (s:Fs):Prop where
 out:e= .normal/\s.h.at l= .loop .ready none fr n ps Xm bd df/\∀ h1,(lo <=l ->Up lo (fun i=>i=l) s.h h1) ->h1.at l= .loop .busy none fr n ps Xm bd df ->WC X n wm (some l) bd ⟨s.fr,s.ds,h1,s.wr⟩ (BdS n lo l fr ps Xm bd df R)
theorem Zun.mkS {l:Nat} {args:List Value} {fr fr1:Fr} {ps:Array Tmp} {Xm bd:Code} {df:Nat} {R:Bool ->H ->Prop} (lo:Nat) (hat:h.at l= .loop .ready none fr n ps Xm bd df) (hw:wm <=l) (hl:Nat.beq args.length ps.toList.length=true) (hs:Jm (ps.toList.zip args) n fr=some fr1)
 (k:WC X n wm (some l) Xm ⟨fr1,[],h,none⟩ (AsS X n wm lo l fr ps Xm bd df R)):Zun X l args.toArray wm h R:=by
 obtain⟨e1,s1,⟨rfl,h1,k1⟩,j1⟩:=k;have o1:(s1.h.at l).own=true:=by rw [h1];rfl
 have s1l:=QE h1 rfl;obtain⟨e2,s2,⟨h2,k2⟩,j2⟩:=k1 (s1.h.put l (.loop .busy none fr n ps Xm bd df)) (fun hl=>Up.put hl o1) (XG s1l _);have o2:(s2.h.at l).own=true:=by rw [h2];rfl
 have s2l:=QE h2 rfl
 have key:∃ b A,R b (s2.h.put l A)/\KF l e2 s2=some (.fin (.ret (.bool b)) (s2.h.put l A)):=by
  rcases k2 with⟨rfl,k2⟩ | ⟨c,hx,k2⟩
  ·refine⟨true,_,k2 _ (fun hl=>Up.put hl o2) (XG s2l _),?_⟩;unfold KF;rw [h2]
  ·refine⟨false,_,k2 _ (fun hl=>Up.put hl o2) (XG s2l _),?_⟩;unfold KF;rw [h2];cases hx <;> rfl
 obtain⟨b,A,hR,hev⟩:=key;refine⟨b,s2.h.put l A,hR,?_⟩
 classical
 let ih:J7 ->Option XU:=fun j=>if j= .code Xm n wm (some l) ⟨fr1,[],h,none⟩ then some (.code .normal s1) else ZaY (.code bd n wm (some l) {s1 with h:=s1.h.put l (.loop .busy none fr n ps Xm bd df)}) (.code e2 s2) j
 have HI:∀ j r,ih j=some r ->XK X j r:=by
  intro j r e;dsimp only [ih] at e;split at e
  ·rename_i hj;cases e;rw [hj];exact j1
  ·exact U7 (X:=X) j2 j r e
 refine Za3 (C:=cfg X fun _=>false) (ih:=ih) HI ?_;unfold Zd0;rw [hat];have hl':Nat.beq args.toArray.toList.length ps.toList.length=true:=hl;dsimp only;rw [Nm0 hw,hl'];simp only [Bool.and_self,Cq1];have hs':Jm (ps.toList.zip args.toArray.toList) n fr=some fr1:=hs;rw [hs'];dsimp only;have i1:ih (.code Xm n wm (some l) {fr:=fr1,ds:= [],h:=h})=some (.code .normal s1):=by dsimp only [ih];rw [if_pos rfl]
 rw [i1];show ZaB ih l bd n wm .normal s1=_;unfold ZaB;dsimp only;rw [h1];dsimp only
 have i2:ih (.code bd n wm (some l) {s1 with h:=s1.h.put l (.loop .busy none fr n ps Xm bd df)})=some (.code e2 s2):=by
  dsimp only [ih];split
  ·rename_i hj;exfalso;injection hj with _ _ _ _ hs
   have:({s1 with h:=s1.h.put l (.loop .busy none fr n ps Xm bd df)}:Fs).h.at l=h.at l:=by rw [hs]
   dsimp only at this;rw [XG s1l,hat] at this;cases this
  ·exact U8 _ _
 rw [i2];exact hev
theorem WO.ZPE {Q:XX ->Fs ->Prop} {fo:Operand} {xs:Array Operand} {ts:Array TypeId} {vs:List Value} {n2:Nat} {QJ fr1:Fr} {as2 bd2:Code} (hg:YO ops ⟨some d,.call {callee:= .value fo,args:=xs,argTypes:=ts},ty,p,af,g⟩ fr) (hd:Nat.blt d n=true) (hf:Xf fr fo=some (.func (.yield l) #[] #[])) (hx:evs (Xf fr) xs.toList=some vs)
 (hS:Sp wm T h0 G h) (pk:Pk G (ob wm l LO) Gr) (hLO:LO= .loop .ready none QJ n2 ps as2 bd2 df) (hl:Nat.beq vs.length ps.toList.length=true) (hs:Jm (ps.toList.zip vs) n2 QJ=some fr1)
 (k:WC X n2 wm (some l) as2 ⟨fr1,[],h,none⟩ (AsS X n2 wm wm l QJ ps as2 bd2 df (fun b h'=>WO X n wm rd ops ol ⟨Tr.set fr d (.bool b),ds,h',none⟩ Q))):
 WO X n wm rd ops (⟨some d,.call {callee:= .value fo,args:=xs,argTypes:=ts},ty,p,af,g⟩::ol) ⟨fr,ds,h,none⟩ Q:=by
 obtain⟨h1,h2,h3⟩:=hS.get pk;have hat:=h1.trans hLO;exact WO.yld hg hd hf hx hat (Nb0 hl) (Zun.mkS (lo:=wm) hat h2 hl hs k) fun b h' hk=>hk
theorem AsS.sp {QJ:Fr} {R:Bool ->H ->Prop} (hLO:LO= .loop .ready none fr n ps Xm bd df) (hS:Sp wm T h0 G h) (pk:Pk G (ob wm l LO) Gr) (k:∀ h1,Sp wm T h0 (ob wm l (bsy LO)::Gr) h1 ->WC X n wm (some l) bd ⟨QJ,ds,h1,none⟩ (BdS n wm l fr ps Xm bd df R)):AsS X n wm wm l fr ps Xm bd df R .normal ⟨QJ,ds,h,none⟩:=by
 obtain⟨h1,h2,h3⟩:=hS.get pk;refine⟨⟨rfl,h1.trans hLO,fun h' u e=>k h' ?_⟩⟩;exact hS.one pk (u h2) (fun _ q=>q) ⟨by rw [e,hLO];rfl,h2,by rw [hLO];rfl⟩ fun _ q=>.inl q
theorem BdS.sp {QJ:Fr} {R:Bool ->H ->Prop} (hLO:LO= .loop .ready none fr n ps Xm bd df) (hS:Sp wm T h0 G h) (pk:Pk G (ob wm l (bsy LO)) Gr) (k:∀ h1,Sp wm T h0 (ob wm l LO::Gr) h1 ->R true h1):BdS n wm l fr ps Xm bd df R .normal ⟨QJ,ds,h,none⟩:=by
 obtain⟨h1,h2,h3⟩:=hS.get pk;refine⟨⟨h1.trans (by rw [hLO];rfl),.inl ⟨rfl,fun h' u e=>k h' ?_⟩⟩⟩;exact hS.one pk (u h2) (fun _ q=>q) ⟨by rw [e,hLO],h2,by rw [hLO];rfl⟩ fun _ q=>.inl q
theorem BdS.stop {QJ:Fr} {R:Bool ->H ->Prop} {e:XX} {c:Code} (hx:Zv1 e c) (hLO:LO= .loop .ready none fr n ps Xm bd df) (hS:Sp wm T h0 G h) (pk:Pk G (ob wm l (bsy LO)) Gr) (k:∀ h1,Sp wm T h0 (ob wm l (lst true c LO)::Gr) h1 ->R false h1):BdS n wm l fr ps Xm bd df R e ⟨QJ,ds,h,none⟩:=by
 obtain⟨h1,h2,h3⟩:=hS.get pk;refine⟨⟨h1.trans (by rw [hLO];rfl),.inr ⟨c,hx,fun h' u e=>k h' ?_⟩⟩⟩;exact hS.one pk (u h2) (fun _ q=>q) ⟨by rw [e,hLO];rfl,h2,by rw [hLO];rfl⟩ fun _ q=>.inl q
structure RgS (X:Ctx) (wm l:Nat) (fr:Fr) (n:Nat) (ps:Array Tmp) (Xm bd:Code) (df:Nat) (ds:List Deferred) (Q:XX ->Fs ->Prop) (h:H):Prop where
 low:wm <=l
 k:(h.at l= .loop .ready none fr n ps Xm bd df/\∀ h',Up wm (fun i=>i=l) h h' ->Q .normal ⟨fr,⟨.collected df,#[]⟩::ds,h',none⟩)\/
  (∃ c,h.at l= .loop .done (some c) fr n ps Xm bd df/\∀ h',Up wm (fun i=>i=l) h h' ->WC X n wm none c ⟨fr,⟨.collected df,#[]⟩::ds,h',none⟩ Q)
theorem RgS.sp {Q:XX ->Fs ->Prop} (hLO:LO= .loop .ready none fr n ps Xm bd df) (hS:Sp wm T h0 G h) (pk:Pk G (ob wm l LO) Gr) (k:∀ h',Sp wm T h0 Gr h' ->Q .normal ⟨fr,⟨.collected df,#[]⟩::ds,h',none⟩):RgS X wm l fr n ps Xm bd df ds Q h:=by
 obtain⟨h1,h2,h3⟩:=hS.get pk;refine⟨h2,.inl ⟨h1.trans hLO,fun h' u=>k h' ?_⟩⟩;exact Sp.step (Ga:= [ob wm l LO]) (Gb:= []) (hS.perm pk.perm) u (fun i e=>⟨_,List.mem_singleton.2 rfl,e⟩) Ym.nil fun i ⟨A,m,f⟩=>by simp at m
theorem RgS.stop {Q:XX ->Fs ->Prop} {c:Code} (hLO:LO= .loop .ready none fr n ps Xm bd df) (hS:Sp wm T h0 G h) (pk:Pk G (ob wm l (lst true c LO)) Gr) (k:∀ h',Sp wm T h0 Gr h' ->WC X n wm none c ⟨fr,⟨.collected df,#[]⟩::ds,h',none⟩ Q):RgS X wm l fr n ps Xm bd df ds Q h:=by
 obtain⟨h1,h2,h3⟩:=hS.get pk;refine⟨h2,.inr ⟨c,h1.trans (by rw [hLO];rfl),fun h' u=>k h' ?_⟩⟩;exact Sp.step (Ga:= [ob wm l (lst true c LO)]) (Gb:= []) (hS.perm pk.perm) u (fun i e=>⟨_,List.mem_singleton.2 rfl,e⟩) Ym.nil fun i ⟨A,m,f⟩=>by simp at m
theorem WC.ZzD {Q:XX ->Fs ->Prop} {gg:Operand} {f:FuncId} {first cap:List Value} (hS:Sp wm T h0 G h) (hg:Xf fr gg=some (.func (.func f) first.toArray cap.toArray)) (hf:(X.fns.get f).isSome=true)
 (k:∀ h' l df LO,LO=Qj.loop .ready none fr n ps Xm bd df ->Sp wm T h0 (ob wm l LO::ob wm df .deferred::G) h' ->WR X f (first ++ ([Value.func (.yield l) #[] #[]] ++ cap)).toArray wm h' (fun _ h2=>RgS X wm l fr n ps Xm bd df ds Q h2)):
 WC X n wm none (.rangeFunc gg ps Xm bd) ⟨fr,ds,h,none⟩ Q:=by
 have s1:Sp wm T h0 (ob wm h.size .deferred::G) (h.push .deferred):=Zne rfl hS
 have s2:Sp wm T h0 (ob wm (h.size + 1) (.loop .ready none fr n ps Xm bd h.size)::ob wm h.size .deferred::G) ((h.push .deferred).push (.loop .ready none fr n ps Xm bd h.size)):=by
  have:=Zne (A:= .loop .ready none fr n ps Xm bd h.size) rfl s1
  rwa [H.size_push] at this
 obtain⟨fn,hf⟩:=Option.isSome_iff_exists.1 hf;obtain⟨e,h3,⟨v,rfl,hr⟩,hj⟩:=k _ _ _ _ rfl s2
 have hac:KY (cfg X fun _=>false).X ((h.push .deferred).push (.loop .ready none fr n ps Xm bd h.size)) (.func (.func f) first.toArray cap.toArray) [Value.func (.yield (h.size + 1)) #[] #[]]=some (.enter f (first ++ ([Value.func (.yield (h.size + 1)) #[] #[]] ++ cap)).toArray,.none):=by
  unfold KY;have:(cfg X fun _=>false).X.fns.get f=some fn:=hf;dsimp only;rw [this];simp only [List.append_assoc]
 rcases hr.k with⟨hat,hk⟩ | ⟨c,hat,hk⟩
 ·refine⟨.normal,_,hk (h3.put (h.size + 1) (.loop .exhausted none fr n ps Xm bd h.size)) (Up.put hr.low (by rw [hat];rfl)),?_⟩;refine Qz.2 (Kk (C:=cfg X fun _=>false) (ih:=ZaY (.call f _ wm _) (.fin (.ret v) h3)) (U7 hj) ?_);show Jw (cfg X fun _=>false) _ gg n wm none (h.size + 1) ⟨fr,⟨.collected h.size,#[]⟩::ds,(h.push .deferred).push (.loop .ready none fr n ps Xm bd h.size),none⟩=_;unfold Jw;dsimp only;rw [hg];dsimp only;rw [hac];dsimp only;unfold WB;rw [U8];dsimp only;rw [hat]
  rfl
 ·obtain⟨e2,s2,hq,hj2⟩:=hk (h3.put (h.size + 1) (.loop .exhausted (some c) fr n ps Xm bd h.size)) (Up.put hr.low (by rw [hat];rfl));refine⟨e2,s2,hq,?_⟩
  classical
  let ih:J7 ->Option XU:=fun j=>if j= .code c n wm none ⟨fr,⟨.collected h.size,#[]⟩::ds,h3.put (h.size + 1) (.loop .exhausted (some c) fr n ps Xm bd h.size),none⟩ then some (.code e2 s2) else ZaY (.call f (first ++ ([Value.func (.yield (h.size + 1)) #[] #[]] ++ cap)).toArray wm ((h.push .deferred).push (.loop .ready none fr n ps Xm bd h.size))) (.fin (.ret v) h3) j
  have HI:∀ j r,ih j=some r ->XK X j r:=by
   intro j r e;dsimp only [ih] at e;split at e
   ·rename_i hj';cases e;rw [hj'];exact hj2
   ·exact U7 (X:=X) hj j r e
  refine Qz.2 (Kk (C:=cfg X fun _=>false) (ih:=ih) HI ?_);show Jw (cfg X fun _=>false) _ gg n wm none (h.size + 1) ⟨fr,⟨.collected h.size,#[]⟩::ds,(h.push .deferred).push (.loop .ready none fr n ps Xm bd h.size),none⟩=_;unfold Jw;dsimp only;rw [hg];dsimp only;rw [hac];dsimp only;unfold WB
  have i1:ih (.call f (first ++ ([Value.func (.yield (h.size + 1)) #[] #[]] ++ cap)).toArray wm ((h.push .deferred).push (.loop .ready none fr n ps Xm bd h.size)))=some (.fin (.ret v) h3):=by
   dsimp only [ih];split
   ·rename_i hj';cases hj'
   ·exact U8 _ _
  rw [i1];dsimp only;rw [hat];show ih (.code c n wm none _)=_;dsimp only [ih];rw [if_pos rfl]
theorem ZpQ {κ ν:Type} [DecidableEq κ] {kv:κ ->Value} {vv:ν ->Value} {kt vt:TypeId} {i:Nat} {ll:List (κ×ν)} {t:TypeId} {x y z:Operand} {k:κ} {v:ν} (hS:Sp wm T h0 G h) (pk:Pk G (mp wm kv vv (some i) ll) Gr) (K:ZkC X.P kt kv) (hu:X.P.underlying t=some (.map kt vt)) (hx:Xf fr x=some (.map (some i))) (hy:Xf fr y=some (kv k)) (hz:Xf fr z=some (vv v)):
 HU X wm ⟨none,.insert t x y z,ty,p,af,g⟩ fr h (fun j=>j=i) (fun h'=>Sp wm T h0 (mp wm kv vv (some i) (ZsS ll k v)::Gr) h'):=
 ZQy (ty:=ty) (p:=p) (af:=af) (g:=g) hS pk K hu hx hy hz
section
variable {sf:ST} {m:Nat}
theorem WX.Zay {Q:Fr ->H ->Prop} {o:Oper} {c:Bool} (_:Zf ops o fr c) (h1:c=true ->WX X n wm rd ops sf m h (o::ol) fr Q) (h2:c=false ->WX X n wm rd ops sf m h (o::ol) fr Q):WX X n wm rd ops sf m h (o::ol) fr Q:=by
 cases c
 ·exact h2 rfl
 ·exact h1 rfl
theorem WX.hv0 {Q:Fr ->H ->Prop} {op:Op} {T:Nat ->Prop} {K:Value ->H ->Prop} (hg:YO ops ⟨some d,op,ty,p,af,g⟩ fr) (hd:Nat.blt d n=true) (s:HV X wm ⟨some d,op,ty,p,af,g⟩ fr h T K) (h0:∀ x,T x ->False)
 (k:∀ v h',K v h' ->WX X n wm rd ops sf (m + 1) h' ol (Tr.set fr d v) Q) (hh:YL ⟨some d,op,ty,p,af,g⟩=false) (hM:okM ops sf m ⟨some d,op,ty,p,af,g⟩=true):
 WX X n wm rd ops sf m h (⟨some d,op,ty,p,af,g⟩::ol) fr Q:=by
 obtain⟨v,E,h1,ha,hE,hT,hz,hk⟩:=s;refine⟨fun hb=>?_⟩;by_cases hw:wm <=h.size
 ·have hs:=Zbd (wm:=wm) (rd:=rd) hg (.inl ha) hE
  exact WE.cons (T:=fun x=>E.tgt=some x) (xs0:= []) (h2:=h1) (v:=v) [] [] none ⟨fun _=>⟨h1,rfl,hs.1,hs.2.1 hw⟩,hs.2.2 hw,fun d' e=>(by cases e;rwa [Nat.blt_eq] at hd),fun q=>Bool.noConfusion (hh.symm.trans q),fun _ _ _ z=>by simp at z⟩ (fun _ z=>by simp at z) (fun x hx=>(h0 x (hT x hx)).elim)
   (fun x hx=>(h0 x (hT x hx)).elim) (fun hh q hq=>.inl (Wt hM hh q hq)) (fun x j C z=>by cases z) ((k v h1 hk).out fun q hq x hx=>Nat.lt_of_lt_of_le (hb q hq x hx) hz)
 ·exact WE.cons (T:=fun _=>False) (xs0:= []) (h2:=h1) (v:=v) [] [] none ⟨fun z=>absurd z hw,fun _ z=>z.elim,fun d' e=>(by cases e;rwa [Nat.blt_eq] at hd),fun q=>Bool.noConfusion (hh.symm.trans q),fun _ z=>z.elim⟩ (fun _ z=>by simp at z) (fun x hx=>hx.elim)
   (fun x hx=>hx.elim) (fun hh q hq=>.inl (Wt hM hh q hq)) (fun x j C z=>by cases z) ((k v h1 hk).out fun q hq x hx=>Nat.lt_of_lt_of_le (hb q hq x hx) hz)
theorem Sp.djs {T0:Nat ->Prop} {G Ga Gr:List (Ast wm)} {B:Ast wm} (s:Sp wm T0 h0 G h) (p:Sel G (B::Ga) Gr):∀ x,Qe Ga x ->¬ B.fp x:=fun x ⟨A,hA,fa⟩ fb=>
 (List.pairwise_cons.1 (s.Zio p).dis).1 A hA x fb fa
inductive Lk (ops:Array Oper) (m:Nat) (R:Nat ->Prop):List (Nat×(Nat ->Prop)) ->Prop
 | n:Lk ops m R []
 | o {q:Nat×(Nat ->Prop)} {r:List (Nat×(Nat ->Prop))} (h:comp (Jj ops.toList 0 []) q.1 m=true):Lk ops m R r ->Lk ops m R (q::r)
 | d {q:Nat×(Nat ->Prop)} {r:List (Nat×(Nat ->Prop))} (h:∀ x,q.2 x ->¬ R x):Lk ops m R r ->Lk ops m R (q::r)
theorem Lk.get {R:Nat ->Prop} {r:List (Nat×(Nat ->Prop))} (h:Lk ops m R r):∀ q ∈ r,Cmp ops q.1 m\/∀ x,q.2 x ->¬ R x:=by
 induction h with
 | n=>intro q hq;simp at hq
 | o h1 _ ih=>intro q hq;rcases List.mem_cons.1 hq with z | z
              ·subst z;exact .inl h1
              ·exact ih q z
 | d h1 _ ih=>intro q hq;rcases List.mem_cons.1 hq with z | z
              ·subst z;exact .inr h1
              ·exact ih q z
theorem WX.wrM {Q:Fr ->H ->Prop} {T0:Nat ->Prop} {G:List (Ast wm)} {op:Op} {v:Value} (R:Nat ->Prop) (hS:Sp wm T0 h0 G h) (hg:YO ops ⟨some d,op,ty,p,af,g⟩ fr) (hd:Nat.blt d n=true) (ha:∀ g':H,g'.size=h.size ->(∀ x,R x ->g'.at x=h.at x) ->Qw X g' (Xf fr) ⟨some d,op,ty,p,af,g⟩=some (.val v,.none))
 (k:∀ h',h'.size=h.size ->Sp wm T0 h0 G h' ->WX X n wm rd ops ⟨(m,fun x=>¬ R x)::sf.s,sf.m,sf.p⟩ (m + 1) h' ol (Tr.set fr d v) Q) (hh:YL ⟨some d,op,ty,p,af,g⟩=false) (hM:Lk ops m R sf.m):
 WX X n wm rd ops sf m h (⟨some d,op,ty,p,af,g⟩::ol) fr Q:=by
 have hsz:(Jh (Qo h R) h (mask (Qo h R) h)).size=h.size:=by rw [X6,Yc]
 have hvv:∀ x,¬ R x ->VV h (Jh (Qo h R) h (mask (Qo h R) h)) (Qo h R) x:=fun x hx=>by
  rcases Nat.lt_or_ge x h.size with z | z
  ·exact .inl ⟨z,Zb8.2 ⟨z,hx⟩⟩
  ·exact .inr (by rw [hsz];exact z)
 refine⟨fun hb=>WE.cons (T:=fun _=>False) (xs0:=Qo h R) (h2:=Jh (Qo h R) h (mask (Qo h R) h)) (v:=v) [(m,fun x=>¬ R x)] [] none ?_ (fun q hq=>?_) (fun _ z=>z.elim) (fun _ z=>z.elim) (fun hh q hq=>(hM.get q hq).imp id fun z x hx=>hvv x (z x hx)) (fun x j C z=>by cases z) ((k _ hsz (hS.up (Up.hide wm _ h))).out fun q hq x hx=>by rw [hsz];exact hb q hq x hx)⟩
 ·have:=Zbd (wm:=wm) (rd:=rd) hg (.inl (ha _ (Yc _ _) fun x hx=>ZCb hx)) (h1:=mask (Qo h R) h) rfl;have t0:(fun x:Nat=>Eff.tgt Eff.none=some x)=fun _=>False:=by funext x;simp [Eff.tgt]
  rw [t0] at this;exact⟨fun hw=>⟨_,rfl,this.1,this.2.1 (by rw [Yc];exact hw)⟩,fun _ z=>z.elim,fun d' e=>(by cases e;rwa [Nat.blt_eq] at hd),fun q=>Bool.noConfusion (hh.symm.trans q),fun _ z=>z.elim⟩
 ·rw [List.mem_singleton.1 hq];exact⟨rfl,fun x hx=>hvv x hx⟩
theorem ZdO {x:Nat} (h:X8 none x):False:=by obtain⟨o,e⟩:=h;cases e
theorem WX.XO {Q:Fr ->H ->Prop} {op:Op} {c:Bool} (hg:Zf ops ⟨some d,op,ty,p,af,g⟩ fr c) (hc:c=false) (hd:Nat.blt d n=true) (k:WX X n wm rd ops sf (m + 1) h ol (Tr.set fr d undef) Q) (hM:okM ops sf m ⟨some d,op,ty,p,af,g⟩=true):WX X n wm rd ops sf m h (⟨some d,op,ty,p,af,g⟩::ol) fr Q:=WX.off (hg.off hc) hd k hM
end
theorem ZiA {β:Type} {b:Bool} {x:Option β} {r:β} (h:(bif b then none else x)=some r):b=false/\x=some r:=by
 cases b
 ·exact⟨rfl,h⟩
 ·cases h
theorem U3 (b:Bool):b=true\/b=false:=by cases b <;> simp
end
section
def ZVF (L:List Nat):List Deferred:=L.map fun r=>⟨.collected r,#[]⟩
def cds (wm:Nat) (L:List Nat):Ast wm where
 P:=fun h=>(∀ r ∈ L,h.at r= .deferred/\wm <=r)/\L.Nodup
 fp:=fun i=>i ∈ L
 loc:=fun _ k ⟨h1,h2⟩=>⟨fun r hr=>⟨by rw [k r hr];exact(h1 r hr).1,(h1 r hr).2⟩,h2⟩
 own:=fun⟨h1,_⟩ e=>⟨(h1 _ e).2,by rw [(h1 _ e).1];rfl⟩
section
variable {X:Ctx} {n wm:Nat} {G G1 G2 Gr:List (Ast wm)} {h h0:H} {T:Nat ->Prop} {df:Nat} {L:List Nat} {fr:Fr} {ds:List Deferred}
theorem Sp.Z3P (s:Sp wm T h0 G h):Sp wm T h0 (cds wm []::G) h:=s.add ⟨fun r hr=>(by cases hr),List.nodup_nil⟩ (fun i hi=>(by cases hi))
theorem Sp.Z3O (s:Sp wm T h0 G h) (p:Pk G (ob wm df .deferred) G1) (q:Pk G1 (cds wm L) G2):Sp wm T h0 (cds wm (df::L)::G2) h:=by
 have s:=s.perm (p.perm.trans (List.Perm.cons _ q.perm));have h1:=s.hold.all (ob wm df .deferred) (by simp);have h2:=s.hold.all (cds wm L) (by simp);have d:=s.hold.dis;rw [List.pairwise_cons,List.pairwise_cons] at d;obtain⟨d1,d2,d3⟩:=d;refine⟨s.wl,s.fz,s.keep,⟨fun A m=>?_,List.pairwise_cons.2 ⟨fun B m i f f'=>?_,d3⟩⟩,fun i f=>?_⟩
 ·rcases List.mem_cons.1 m with m | m
  ·rw [m];refine⟨fun r hr=>?_,List.nodup_cons.2 ⟨fun z=>d1 (cds wm L) (by simp) df rfl z,h2.2⟩⟩;rcases List.mem_cons.1 hr with e | e
   ·rw [e];exact⟨h1.1,h1.2.1⟩
   ·exact h2.1 r e
  ·exact s.hold.all A (by simp [m])
 ·rcases List.mem_cons.1 f with e | e
  ·exact d1 B (by simp [m]) i e f'
  ·exact d2 B m i e f'
 ·obtain⟨A,m,f⟩:=f;rcases List.mem_cons.1 m with m | m
  ·rw [m] at f;rcases List.mem_cons.1 f with e | e
   ·exact s.inn i ⟨ob wm df .deferred,by simp,e⟩
   ·exact s.inn i ⟨cds wm L,by simp,e⟩
  ·exact s.inn i ⟨A,by simp [m],f⟩
theorem JF.ZDS {fn:Func} {R:Zad ->H ->Prop}:∀ {L:List Nat} {G:List (Ast wm)} {h:H} (_:Sp wm T h0 G h) (_:Pk G (cds wm L) Gr) (_:∀ h',Sp wm T h0 Gr h' ->JF X fn wm R .ret ⟨fr,ds,h',none⟩),JF X fn wm R .ret ⟨fr,ZVF L ++ ds,h,none⟩
 | [],_,h,hS,pk,k=>k h (hS.drop pk)
 | r::L,G,h,hS,pk,k=>by
   obtain⟨h1,h2⟩:=hS.get pk;have hr:=h1 r (by simp);have hn:=List.nodup_cons.1 h2;refine JF.col wm hr.2 hr.1 hr.2 fun h' u=>?_
   have s:Sp wm T h0 (cds wm L::Gr) h':=Sp.step (Ga:= [cds wm (r::L)]) (Gb:= [cds wm L]) (hS.perm pk.perm) u (fun i e=>⟨_,List.mem_singleton.2 rfl,by rw [e];exact List.mem_cons_self⟩)
    (Ym.one ⟨fun x hx=>⟨by rw [u.keep x (QE (h1 x (by simp [hx])).1 rfl) (fun e=>hn.1 (e ▸ hx))];exact(h1 x (by simp [hx])).1,(h1 x (by simp [hx])).2⟩,hn.2⟩)
    fun i ⟨A,m,f⟩=>.inl ⟨_,List.mem_singleton.2 rfl,by rw [List.mem_singleton.1 m] at f;exact List.mem_cons_of_mem _ f⟩
   exact JF.ZDS s .z k
end
end
section
variable {X:Ctx} {n wm wm':Nat} {rd:Option Nat} {ops:Array Oper} {ol:List Oper} {m:Nat} {sf:ST} {fr:Fr} {h h0:H} {ty:TypeId} {p:String} {af:Array Edge} {g:Option (Nat×Bool)} {T:Nat ->Prop} {G Gr:List (Ast wm)} {d:Nat}
theorem ZWs {a b:Bool} (ha:a=true) (h:(a && b)=false):b=false:=by cases a <;> simp_all
section
variable {α:Type} {e:Ux α} {a a1 a2:Option Addr} {nn c n1 c1 n2 c2:Nat} {ps:Nat ->Option Addr×Nat×Nat} {xs:List (List α)}
def ZLg (wm:Nat) (e:Ux α) (a:Option Addr) (n c:Nat) (ps:Nat ->Option Addr×Nat×Nat) (xs:List (List α)) (i j:Nat):Ast wm where
 P:=fun h=>n=xs.length/\i < xs.length/\j < xs.length/\Qq (ZkX (Zx e).sz (Zx e).pos) wm wm h a c ((Zx e).rows ps xs)/\Ym (Xp (Jl j (Jl i fun k x=>(Zx e).Xm wm (ps k) x)) 0 xs) h/\∀ k,X8 a k ->¬ Qe (Xp (Jl j (Jl i fun k x=>(Zx e).Xm wm (ps k) x)) 0 xs) k
 fp:=fun k=>X8 a k\/Qe (Xp (Jl j (Jl i fun k x=>(Zx e).Xm wm (ps k) x)) 0 xs) k
 loc:=fun f k ⟨h1,h0,h5,s,h2,h3⟩=>⟨h1,h0,h5,Zkp f (fun i q=>k i (.inl q)) s,h2.loc f fun i q=>k i (.inr q),h3⟩
 own:=fun⟨_,_,_,s,h2,_⟩ q=>q.elim (Zko s) h2.own
theorem Sp.take2 {i j:Int} {x y:List α} (s:Sp wm T h0 G h) (pk:Pk G (Yb wm (Zx e) a nn c ps xs) Gr) (hi:ZF xs i=some x) (pi:ps i.toNat= (a1,n1,c1)) (hj:ZF xs j=some y) (pj:ps j.toNat= (a2,n2,c2)) (hne:(i==j)=false):
 Sp wm T h0 (ZLg wm e a nn c ps xs i.toNat j.toNat::ow wm e a1 n1 c1 x::ow wm e a2 n2 c2 y::Gr) h:=by
 obtain⟨i1,i2,i3⟩:=Qt hi;obtain⟨j1,j2,j3⟩:=Qt hj
 have hne':j.toNat ≠ i.toNat:=fun q=>by
  have:i=j:=by rw [<- i1,<- j1,q]
  rw [this] at hne;simp at hne
 obtain⟨h1,so,hh,hd⟩:=s.get pk;have p1:=Js (f:=fun k x=>(Zx e).Xm wm (ps k) x) xs 0 _ x i3;have p2:=Js (f:=Jl i.toNat fun k x=>(Zx e).Xm wm (ps k) x) xs 0 _ y j3;rw [Nat.zero_add] at p1 p2;have e2:Jl i.toNat (fun k x=>(Zx e).Xm wm (ps k) x) j.toNat y= [ow wm e a2 n2 c2 y]:=by unfold Jl;rw [if_neg hne'];show [ow wm e (ps j.toNat).1 (ps j.toNat).2.1 (ps j.toNat).2.2 y]=_;rw [pj]
 have e1:(Zx e).Xm wm (ps i.toNat) x= [ow wm e a1 n1 c1 x]:=by show [ow wm e (ps i.toNat).1 (ps i.toNat).2.1 (ps i.toNat).2.2 x]=_;rw [pi]
 rw [e1] at p1;rw [e2] at p2;have hp:((Zx e).parts wm ps xs).Perm ([ow wm e a1 n1 c1 x] ++ ([ow wm e a2 n2 c2 y] ++ Xp (Jl j.toNat (Jl i.toNat fun k x=>(Zx e).Xm wm (ps k) x)) 0 xs)):=p1.trans (List.Perm.append_left _ p2);have hh2:=hh.perm hp;have hfp:∀ k,Qe ([ow wm e a1 n1 c1 x] ++ ([ow wm e a2 n2 c2 y] ++ Xp (Jl j.toNat (Jl i.toNat fun k x=>(Zx e).Xm wm (ps k) x)) 0 xs)) k ->Qe ((Zx e).parts wm ps xs) k:=fun k f=>f.perm hp.symm
 have:Sp wm T h0 ((ZLg wm e a nn c ps xs i.toNat j.toNat:: [ow wm e a1 n1 c1 x,ow wm e a2 n2 c2 y]) ++ Gr) h:=by
  refine Sp.say (Ga:= [Yb wm (Zx e) a nn c ps xs]) (s.perm pk.perm) (Ym.cons ⟨h1,i2,j2,so,hh2.right.right,fun k hk f=>hd k hk (hfp k (Qe.append.2 (.inr (Qe.append.2 (.inr f)))))⟩ (Ym.append (Ga:= [ow wm e a1 n1 c1 x]) (Gb:= [ow wm e a2 n2 c2 y]) hh2.left hh2.right.left fun k f f'=>hh2.cut k f (Qe.append.2 (.inl f'))) fun k hk f=>?_) fun k f=>?_
  ·have f':Qe ([ow wm e a1 n1 c1 x] ++ [ow wm e a2 n2 c2 y]) k:=f;rcases hk with hk | hk
   ·refine hd k hk (hfp k ?_);rcases Qe.append.1 f' with f' | f'
    ·exact Qe.append.2 (.inl f')
    ·exact Qe.append.2 (.inr (Qe.append.2 (.inl f')))
   ·rcases Qe.append.1 f' with f' | f'
    ·exact hh2.cut k f' (Qe.append.2 (.inr hk))
    ·exact hh2.right.cut k f' hk
  ·refine⟨_,List.mem_singleton.2 rfl,?_⟩;rcases Qe.cons.1 f with(f | f) | f
   ·exact Or.inl f
   ·exact Or.inr (hfp k (Qe.append.2 (.inr (Qe.append.2 (.inr f)))))
   ·have f':Qe ([ow wm e a1 n1 c1 x] ++ [ow wm e a2 n2 c2 y]) k:=f;refine Or.inr (hfp k ?_);rcases Qe.append.1 f' with f' | f'
    ·exact Qe.append.2 (.inl f')
    ·exact Qe.append.2 (.inr (Qe.append.2 (.inl f')))
 exact this
theorem Sp.ZJy {i j:Int} {x y x' y':List α} (s:Sp wm T h0 G h) (sel:Sel G [ZLg wm e a nn c ps xs i.toNat j.toNat,ow wm e a1 n1 c1 x',ow wm e a2 n2 c2 y'] Gr) (hi:ZF xs i=some x) (pi:ps i.toNat= (a1,n1,c1)) (hj:ZF xs j=some y) (pj:ps j.toNat= (a2,n2,c2)) (hne:(i==j)=false):
 Sp wm T h0 (Yb wm (Zx e) a nn c ps (ZE (ZE xs i x') j y')::Gr) h:=by
 obtain⟨i1,i2,i3⟩:=Qt hi;obtain⟨j1,j2,j3⟩:=Qt hj
 have hne':j.toNat ≠ i.toNat:=fun q=>by
  have:i=j:=by rw [<- i1,<- j1,q]
  rw [this] at hne;simp at hne
 have s:=s.perm sel.perm;obtain⟨⟨h1,_,_,so,hb,hd⟩,ha,hdj⟩:=s.hold.left.tail;have hi':ZF (ZE xs i x') i=some x':=by rw [JI hi]
 have hj':ZF (ZE xs i x') j=some y:=by
  rw [<- j1,Zdf,Wp hi,if_neg (show ¬ j.toNat=i.toNat from hne')];exact j3
 have g1:(ZE (ZE xs i x') j y')[i.toNat]? =some x':=by
  rw [Wp hj',if_neg (fun q=>hne' q.symm),Wp hi,if_pos rfl]
 have g2:(ZE (ZE xs i x') j y')[j.toNat]? =some y':=by
  rw [Wp hj',if_pos rfl]
 have p1:=Js (f:=fun k x=>(Zx e).Xm wm (ps k) x) (ZE (ZE xs i x') j y') 0 _ x' g1;have p2:=Js (f:=Jl i.toNat fun k x=>(Zx e).Xm wm (ps k) x) (ZE (ZE xs i x') j y') 0 _ y' g2;rw [Nat.zero_add] at p1 p2;have e2:Jl i.toNat (fun k x=>(Zx e).Xm wm (ps k) x) j.toNat y'= [ow wm e a2 n2 c2 y']:=by unfold Jl;rw [if_neg hne'];show [ow wm e (ps j.toNat).1 (ps j.toNat).2.1 (ps j.toNat).2.2 y']=_;rw [pj]
 have e1:(Zx e).Xm wm (ps i.toNat) x'= [ow wm e a1 n1 c1 x']:=by show [ow wm e (ps i.toNat).1 (ps i.toNat).2.1 (ps i.toNat).2.2 x']=_;rw [pi]
 rw [e1] at p1;rw [e2] at p2;have q1:=Ws (f:=Jl i.toNat fun k x=>(Zx e).Xm wm (ps k) x) (ZE xs i x') 0 j.toNat y';have comm:∀ zs:List (List α),Xp (Jl j.toNat (Jl i.toNat fun k x=>(Zx e).Xm wm (ps k) x)) 0 zs=Xp (Jl i.toNat (Jl j.toNat fun k x=>(Zx e).Xm wm (ps k) x)) 0 zs:=fun zs=>Wq zs 0 fun k x _=>by unfold Jl;by_cases z1:k=j.toNat <;> by_cases z2:k=i.toNat <;> simp [z1,z2]
 have q2:=Ws (f:=Jl j.toNat fun k x=>(Zx e).Xm wm (ps k) x) xs 0 i.toNat x';rw [Nat.zero_add] at q1 q2
 have q3:Xp (Jl j.toNat (Jl i.toNat fun k x=>(Zx e).Xm wm (ps k) x)) 0 (ZE (ZE xs i x') j y')=Xp (Jl j.toNat (Jl i.toNat fun k x=>(Zx e).Xm wm (ps k) x)) 0 xs:=by
  show Xp _ 0 ((ZE xs i x').set j.toNat y')=_;rw [q1,comm,comm xs];exact q2
 rw [q3] at p2;have hp:((Zx e).parts wm ps (ZE (ZE xs i x') j y')).Perm ([ow wm e a1 n1 c1 x'] ++ ([ow wm e a2 n2 c2 y'] ++ Xp (Jl j.toNat (Jl i.toNat fun k x=>(Zx e).Xm wm (ps k) x)) 0 xs)):=p1.trans (List.Perm.append_left _ p2);have ha':Ym ([ow wm e a1 n1 c1 x'] ++ [ow wm e a2 n2 c2 y']) h:=ha;have ZTP:∀ k,(X8 a k\/Qe (Xp (Jl j.toNat (Jl i.toNat fun k x=>(Zx e).Xm wm (ps k) x)) 0 xs) k) ->¬ Qe ([ow wm e a1 n1 c1 x'] ++ [ow wm e a2 n2 c2 y']) k:=hdj
 have hnew:Ym ((Zx e).parts wm ps (ZE (ZE xs i x') j y')) h:=by
  have z:=ha'.append hb fun k f f'=>ZTP k (.inr f') f
  rw [List.append_assoc] at z;exact z.perm hp.symm
 refine Sp.say (Ga:=_:: [ow wm e a1 n1 c1 x',ow wm e a2 n2 c2 y']) (Gb:= [Yb wm (Zx e) a nn c ps (ZE (ZE xs i x') j y')]) s (Ym.one ⟨by rw [Zau,Zau];exact h1,?_,hnew,fun k hk f=>?_⟩) fun k ⟨B,hm,f⟩=>?_
 ·have:(Zx e).rows ps (ZE (ZE xs i x') j y')= (Zx e).rows ps xs:=by
   apply List.ext_getElem?;intro t;unfold Ne.rows;rw [Jo,Jo,Wp hj',Wp hi,Nat.zero_add];by_cases t1:t=j.toNat
   ·rw [if_pos t1,t1,j3];rfl
   ·rw [if_neg t1];by_cases t2:t=i.toNat
    ·rw [if_pos t2,t2,i3];rfl
    ·rw [if_neg t2]
  rw [this];exact so
 ·have f:=f.perm hp;rw [<- List.append_assoc] at f;rcases Qe.append.1 f with f | f
  ·exact ZTP k (.inl hk) f
  ·exact hd k hk f
 ·rw [List.mem_singleton.1 hm] at f;rcases f with f | f
  ·exact Qe.cons.2 (.inl (.inl f))
  ·have f:=f.perm hp;rw [<- List.append_assoc] at f;rcases Qe.append.1 f with f | f
   ·exact Qe.cons.2 (.inr f)
   ·exact Qe.cons.2 (.inl (.inr f))
theorem Sp.ZQF {x1 x2:List α} (s:Sp wm T h0 G h) (pk:Pk G (ow wm (ZkX 1 Nat.one_pos) a nn c [⟨[.slice a1 n1 c1],rfl,rfl⟩,⟨[.slice a2 n2 c2],rfl,rfl⟩]) Gr) (k1:n1=x1.length) (s1:Sl e h.size h a1 c1 x1) (k2:n2=x2.length) (s2:Sl e h.size h a2 c2 x2):Sl (Xn e) h.size h a c [x1,x2]:=by
 obtain⟨h1,so⟩:=s.get pk;have hm:=so.max;have hc:=so.cap;refine⟨hm,hc,so.nl,.inr ?_⟩;rcases so.mem with⟨_,_,q⟩ | ⟨i,o,cs,q1,q2,q3,q4,q5,q6⟩
 ·cases q
 ·refine⟨i,o,cs,true,_,q1,q3,.inl (QE q3 rfl),⟨q6.len,fun k x hk=>?_⟩⟩
  match k with
  | 0=>
    obtain⟨_,g1,_⟩:=q6.get 0 _ rfl;simp at hk;subst hk;exact⟨(a1,c1),by rw [k1] at g1;exact g1,s1⟩
  | 1=>
    obtain⟨_,g1,_⟩:=q6.get 1 _ rfl;simp at hk;subst hk;exact⟨(a2,c2),by rw [k2] at g1;exact g1,s2⟩
  | k + 2=>simp at hk
end
section
variable {α:Type} {e:Ux α} {t el:TypeId} {x:Operand} {a:Option Addr} {nn c:Nat} {xs zs:List α} {a1:Int}
theorem Qq.cases {α:Type} {e:Ux α} {a:Option Addr} {c:Nat} {xs:List α} (s:Qq e wm wm' h a c xs):(a=none/\c=0/\xs= [])\/∃ q,a=some q:=by
 rcases s.mem with⟨h1,h2,h3⟩ | ⟨i,o,cs,h1,_⟩
 ·exact .inl ⟨h1,h2,h3⟩
 ·exact .inr ⟨_,h1⟩
theorem Zx1 {P:Program} {t:TypeId} {x y:Operand} {k k':IntKind} {a b c:Int} (hb:0 <=b) (hc:c=a.fdiv (2 ^ (min b.toNat k.bits))):J2 P .shr t x y (.int k a) (.int k' b)=some (.val (.int k c),.none):=by
 have hp:(plain (.int k a) && plain (.int k' b))=true:=rfl;unfold J2;rw [hp,Cq1]
 have e1:binOp .shr t (.int k a) (.int k' b)=pure (.int k c):=by
  show Op.shift .shr k a k' b=_;unfold Op.shift;rw [if_neg (by omega),hc]
 have hg:(do eqGuard .shr t x y (.int k a) (.int k' b);binOp .shr t (.int k a) (.int k' b):Sem Value)=pure (.int k c):=by
  rw [e1];rfl
 rw [hg];rfl
theorem Zx2 {P:Program} {t:TypeId} {x y:Operand} {a:Int}:J2 P .shr t x y (.int .u64 a) (.int .u64 1)=some (.val (.int .u64 (a / 2)),.none):=
 Zx1 (by decide) (by
  show a / 2=a.fdiv 2;rw [Int.fdiv_eq_ediv_of_nonneg a (by decide)])
theorem ZEk {g':H} {lo hi:Option Operand} (hx:Xf fr x=some (.slice a nn c)) (hu:X.P.underlying t=some (.slice el)) (ha:(a=none/\nn=0/\c=0)\/∃ i o,a=some ⟨i,o,none⟩) (hg:∀ i,X8 a i ->g'.at i=h.at i):
 Qw X g' (Xf fr) ⟨some d,.slice t x lo hi none,ty,p,af,g⟩=Qw X h (Xf fr) ⟨some d,.slice t x lo hi none,ty,p,af,g⟩:=by
 have key:∀ H:H,Qw X H (Xf fr) ⟨some d,.slice t x lo hi none,ty,p,af,g⟩= (match evo (Xf fr) lo,evo (Xf fr) hi with
  | some lo,some hi=>vN (aslice X.P H t (.slice a nn c) lo hi none)
  | _,_=>none):=fun H=>by
  show(match Xf fr x,evo (Xf fr) lo,evo (Xf fr) hi,evo (Xf fr) none with
   | some x,some lo,some hi,some mx=>bif plain x && not (Zk5 x) then(match lo,hi,mx with
      | lo,hi,mx=>bif QM (lo.toList ++ hi.toList ++ mx.toList) then pN (ZaH X.P (Instr.sliceAt t x lo hi mx)) else none)
     else vN (aslice X.P H t x lo hi mx)
   | _,_,_,_=>none)=_
  rw [hx];have hn:evo (Xf fr) none=some none:=rfl;rw [hn];cases evo (Xf fr) lo <;> cases evo (Xf fr) hi <;> try rfl
  have:Zk5 (.slice a nn c)=true:=rfl;dsimp only;rw [this,Bool.not_true,Bool.and_false,Cq0]
 rw [key,key];cases evo (Xf fr) lo <;> cases evo (Xf fr) hi <;> try rfl
 dsimp only;congr 1;rcases ha with⟨rfl,rfl,rfl⟩ | ⟨i,o,rfl⟩
 ·unfold aslice;simp only [hu]
 ·unfold aslice;simp only [hu,hg i ⟨o,rfl⟩]
theorem WX.ZFD {Q:Fr ->H ->Prop} {T0:Nat ->Prop} {G:List (Ast wm)} {lo hi:Option Operand} {a2:Int} (hS:Sp wm T0 h0 G h) (hg:YO ops ⟨some d,.slice t x lo hi none,ty,p,af,g⟩ fr) (hd:Nat.blt d n=true) (so:Qq e wm wm h a c xs) (hn:nn=xs.length) (hu:X.P.underlying t=some (.slice el)) (hs:Xo X.P el=some e.sz) (hx:Xf fr x=some (.slice a nn c))
 (hlo:evo (Xf fr) lo=some none/\a1=0\/∃ k,evo (Xf fr) lo=some (some (.int k a1))) (hhi:evo (Xf fr) hi=some none/\a2=xs.length\/∃ k,evo (Xf fr) hi=some (some (.int k a2))) (hz:slL xs a1 a2=some zs)
 (k:∀ a' c' h',h'.size=h.size ->Zpg e a c xs a' c' zs ->Sp wm T0 h0 G h' ->WX X n wm rd ops ⟨(m,fun x=>¬ X8 a x)::sf.s,sf.m,sf.p⟩ (m + 1) h' ol (Tr.set fr d (.slice a' zs.length c')) Q) (hM:Lk ops m (fun x=>X8 a x) sf.m):
 WX X n wm rd ops sf m h (⟨some d,.slice t x lo hi none,ty,p,af,g⟩::ol) fr Q:=by
 obtain⟨a',c',h1,h2⟩:=ZD9 (d:=d) (ty:=ty) (p:=p) (af:=af) (g:=g) so hn hu hs hx hlo hhi hz;refine WX.wrM (fun x=>X8 a x) hS hg hd (v:= .slice a' zs.length c') (fun g' _ hR=>?_) (fun h' e1 s1=>k a' c' h' e1 h2 s1) rfl hM;rw [ZEk hx hu ?_ hR]
 ·exact h1
 ·rcases so.mem with⟨q1,q2,q3⟩ | ⟨i,o,cs,q1,_⟩
  ·left;exact⟨q1,by rw [hn,q3];rfl,q2⟩
  ·exact .inr ⟨i,o,q1⟩
theorem ZKi {lo:Operand} {kk:IntKind} (so:Sl e wm' h a c xs) (hev:c % 2=0) (hn:nn=xs.length) (hu:X.P.underlying t=some (.slice el)) (hs:Xo X.P el=some e.sz) (hx:Xf fr x=some (.slice a nn c))
 (hlo:Xf fr lo=some (.int kk a1)) (hz:slL xs a1 xs.length=some zs):
 HE X ⟨some d,.slice t x (some lo) none none,ty,p,af,g⟩ fr h (fun v=>∃ a' c',v= .slice a' zs.length c'/\Zpg e a c xs a' c' zs):=by
 obtain⟨l,k,rfl,hk,hlk,hkx,rfl⟩:=Zat hz;have hk:k=xs.length:=by omega
 subst hk hn;have hlen:((xs.take xs.length).drop l).length=xs.length - l:=by rw [List.length_drop,List.length_take];omega
 have e1:∀ q,obN (some (.int kk (l:Int))) q=some l:=fun q=>rfl
 have e2:obN none xs.length=some xs.length:=rfl;have hcap:=so.cap;rcases so.nl with⟨rfl,rfl⟩ | ⟨rfl,rfl⟩ | ⟨i,o,rfl⟩
 ·have hx0:xs= []:=List.length_eq_zero_iff.1 (by omega);subst hx0;have hl0:l=0:=by simpa using hlk
  subst hl0;refine⟨.slice none 0 0,JJ hx (Xu hlo) rfl rfl ?_,none,0,rfl,Zid rfl⟩
  have:aslice X.P h t (.slice none 0 0) (some (.int kk ((0:Nat):Int))) none none=some (.slice none 0 0):=by
   unfold aslice;simp only [hu,hs]
   rfl
  exact this
 ·have hx0:xs= []:=List.length_eq_zero_iff.1 (by omega);subst hx0;have hl0:l=0:=by simpa using hlk
  subst hl0;refine⟨.slice (some ⟨0,0,some 0⟩) 0 0,JJ hx (Xu hlo) rfl rfl ?_,_,0,rfl,Zid rfl⟩
  have:aslice X.P h t (.slice (some ⟨0,0,some 0⟩) 0 0) (some (.int kk ((0:Nat):Int))) none none=some (.slice (some ⟨0,0,some 0⟩) 0 0):=by
   unfold aslice;simp only [hu,hs]
   rfl
  exact this
 ·have hb:Nat.beq (c % 2) 0=true:=by rw [hev];rfl
  have hd:(Nat.ble l xs.length && Nat.ble xs.length (c / 2))=true:=by rw [Nm0 hlk,Nm0 hcap];rfl
  refine⟨.slice (some ⟨i,bif Nat.beq (c / 2) l then o else o + l * e.sz,none⟩) (xs.length - l) (2 * (c / 2 - l)),JJ hx (Xu hlo) rfl rfl ?_,_,_,by rw [hlen],Zi0 hlk (Nat.le_refl _) ?_⟩
  ·unfold aslice;simp only [hu,hs,e1,e2,hd,hb,Cq1]
  ·cases hcl:Nat.beq (c / 2) l with
   | true=>right;have:=Nb0 hcl;exact⟨rfl,this,by omega⟩
   | false=>left;exact⟨rfl,by omega⟩
end
end
section
inductive E7 (l1 l2 l3 l4 l5 l6 l7:Nat):Nat ->Nat ->Nat ->Nat ->Nat ->Nat ->Nat ->Prop
 | r:E7 l1 l2 l3 l4 l5 l6 l7 l1 l2 l3 l4 l5 l6 l7
theorem Sp.w7 {wm:Nat} {h h0:H} {T:Nat ->Prop} {G G1 G2 G3 G4 G5 G6 G7:List (Ast wm)} {α1 α2 α3 α4 α5 α6 α7:Type} {e1:Ux α1} {e2:Ne α2} {e3:Ne α3} {e4:Ne α4} {e5:Ne α5} {e6:Ne α6} {e7:Ux α7} {a1 a2 a3 a4 a5 a6 a7:Option Addr} {n1 c1 n2 c2 n3 c3 n4 c4 n5 c5 n6 c6 n7 c7:Nat} {p2:Nat ->e2.KH} {p3:Nat ->e3.KH} {p4:Nat ->e4.KH} {p5:Nat ->e5.KH} {p6:Nat ->e6.KH} {x1:List α1} {x2:List α2} {x3:List α3} {x4:List α4} {x5:List α5} {x6:List α6} {x7:List α7} (s:Sp wm T h0 G h) (k1:Pk G (ow wm e1 a1 n1 c1 x1) G1) (k2:Pk G (Yb wm e2 a2 n2 c2 p2 x2) G2) (k3:Pk G (Yb wm e3 a3 n3 c3 p3 x3) G3) (k4:Pk G (Yb wm e4 a4 n4 c4 p4 x4) G4) (k5:Pk G (Yb wm e5 a5 n5 c5 p5 x5) G5) (k6:Pk G (Yb wm e6 a6 n6 c6 p6 x6) G6) (k7:Pk G (ow wm e7 a7 n7 c7 x7) G7):
 E7 x1.length x2.length x3.length x4.length x5.length x6.length x7.length n1 n2 n3 n4 n5 n6 n7:=by
 cases s.on k1;cases s.JL k2;cases s.JL k3;cases s.JL k4;cases s.JL k5;cases s.JL k6;cases s.on k7;exact .r
end
end Go.Xv
end
end
section
set_option maxRecDepth 100000
noncomputable section
namespace Go.Proofs.YtcnahmgekicbdaaGreat
section
structure ZG where
 at_:Int
 XA:Int
 deriving DecidableEq,Inhabited
structure Zc where
 qG:Int
 Zh:(List ZG)
 deriving DecidableEq,Inhabited
structure Zq where
 kZ:Int
 kV:Int
 kX:Int
 n:Int
 deriving DecidableEq,Inhabited
structure Zd where
 kW:Int
 kV:Int
 kX:Int
 n:Int
 qX:(List Int)
 deriving DecidableEq,Inhabited
structure Zg where
 Zu:Int
 kG:(List Zd)
 deriving DecidableEq,Inhabited
structure Ze where
 qV:(List Int)
 qX:(List (List Int))
 qZ:(List (List Int))
 Zk:(List (List Int))
 Zt:(List (List Zd))
 kQ:(List Zg)
 kK:Int
 deriving DecidableEq,Inhabited
structure Z5 where
 s:Zc
 w:Ze
 kU:(List Zq)
 deriving DecidableEq,Inhabited
structure Z6 where
 Za:Ze
 qK:Zc
 kU:(List Zq)
 deriving DecidableEq,Inhabited
structure YP where
 act:Int
 a:Int
 b:Int
 deriving DecidableEq,Inhabited
def ZaR (x y:Zq):Bool:= [x.kZ==y.kZ,x.kV==y.kV,x.kX==y.kX,x.n==y.n].all id
def Zxu:Option Bool:=some true
def Zre (p0:List Int) (k:Int) (p2:List Int):Option (List Int):=bif Nat.ble p0.length 1000000 && (Nat.beq p2.length 1 && (decide (0 <=k) && decide (k <= (p0.length:Int)))) then some (p0.take k.toNat ++ p2 ++ p0.drop k.toNat) else none
end
section
open Go.Xv Go.Lf
def Zj:Ux ZG where
 sz:=2
 pos:=by decide
 KH:=Unit
 dflt:= ()
 sh:=fun _ x=>[.int .i64 x.at_,.int .i64 x.XA]
 len:=fun _ _=>rfl
 one:=fun _ _=>rfl
 F:=fun _ _ _ _=>True
 mono:=fun _ x=>x
 up:=fun _ x=>x
def Zsz:Ux Zc where
 sz:=2
 pos:=by decide
 KH:= (Option Addr×Nat)
 dflt:= (none,0)
 sh:=fun p x=>[.int .i64 x.qG,.slice p.1 x.Zh.length p.2]
 len:=fun _ _=>rfl
 one:=fun _ _=>rfl
 F:=fun wm h p x=>Sl Zj wm h p.1 p.2 x.Zh
 mono:=fun f x=>x.mono f
 up:=fun f x=>x.up f
def Zw:Ux Zq where
 sz:=4
 pos:=by decide
 KH:=Unit
 dflt:= ()
 sh:=fun _ x=>[.int .i64 x.kZ,.int .i64 x.kV,.int .i64 x.kX,.int .i64 x.n]
 len:=fun _ _=>rfl
 one:=fun _ _=>rfl
 F:=fun _ _ _ _=>True
 mono:=fun _ x=>x
 up:=fun _ x=>x
def Zi:Ux Zd where
 sz:=5
 pos:=by decide
 KH:= (Option Addr×Nat)
 dflt:= (none,0)
 sh:=fun p x=>[.int .i64 x.kW,.int .i64 x.kV,.int .i64 x.kX,.int .i64 x.n,.slice p.1 x.qX.length p.2]
 len:=fun _ _=>rfl
 one:=fun _ _=>rfl
 F:=fun wm h p x=>Sl (Zl .i64) wm h p.1 p.2 x.qX
 mono:=fun f x=>x.mono f
 up:=fun f x=>x.up f
def XT:Ux Zg where
 sz:=2
 pos:=by decide
 KH:= (Option Addr×Nat)
 dflt:= (none,0)
 sh:=fun p x=>[.int .i64 x.Zu,.slice p.1 x.kG.length p.2]
 len:=fun _ _=>rfl
 one:=fun _ _=>rfl
 F:=fun wm h p x=>Sl Zi wm h p.1 p.2 x.kG
 mono:=fun f x=>x.mono f
 up:=fun f x=>x.up f
def Ka:Ux YP where
 sz:=3
 pos:=by decide
 KH:=Unit
 dflt:= ()
 sh:=fun _ x=>[.int .i64 x.act,.int .i64 x.a,.int .i64 x.b]
 len:=fun _ _=>rfl
 one:=fun _ _=>rfl
 F:=fun _ _ _ _=>True
 mono:=fun _ x=>x
 up:=fun _ x=>x
def Zy:Ne Zg where
 sz:=2
 pos:=by decide
 KH:=Option Addr×Nat×Nat
 dflt:= (none,0,0)
 sh:=fun p x=>[.int .i64 x.Zu,.slice p.1 p.2.1 p.2.2]
 len:=fun _ _=>rfl
 one:=fun _ _=>rfl
 «Xm»:=fun wm p x=>[ow wm Zi p.1 p.2.1 p.2.2 x.kG]
theorem K8 {wm:Nat}:(∀ h:H,Ym (Zy.Xm wm (none,0,0) (default:Zg)) h)/\∀ i,¬ Qe (Zy.Xm wm (none,0,0) (default:Zg)) i:=Zjm (e:=Zi)
theorem _root_.Go.Xv.Sp.Us {wm:Nat} {h h0:H} {T:Nat ->Prop} {G Gr:List (Ast wm)} {a a1:Option Addr} {nn c n1 c1:Nat} {ps:Nat ->Option Addr×Nat×Nat} {xs:List Zg} {k:Int} {x:Zg} (s:Sp wm T h0 G h) (pk:Pk G (Yb wm Zy a nn c ps xs) Gr) (hk:ZF xs k=some x) (hp:ps k.toNat= (a1,n1,c1)):Sp wm T h0 (nsh wm Zy a nn c ps xs k.toNat [.int .i64 x.Zu,.slice a1 n1 c1]::ow wm Zi a1 n1 c1 x.kG::Gr) h:=by
 have:=s.take pk hk;rw [hp] at this;exact this
theorem _root_.Go.Xv.Sp.Uv {wm:Nat} {h h0:H} {T:Nat ->Prop} {G Gr:List (Ast wm)} {a a1:Option Addr} {nn c n1 c1:Nat} {ps:Nat ->Option Addr×Nat×Nat} {xs:List Zg} {k:Int} {x0:Zg} {v0:Int} {y:List Zd} (s:Sp wm T h0 G h) (sel:Sel G [nsh wm Zy a nn c ps xs k.toNat [.int .i64 v0,.slice a1 n1 c1],ow wm Zi a1 n1 c1 y] Gr) (hk:ZF xs k=some x0):∃ ps':Nat ->Option Addr×Nat×Nat,ps' k.toNat= (a1,n1,c1)/\Sp wm T h0 (Yb wm Zy a nn c ps' (ZE xs k ⟨v0,y⟩)::Gr) h:=
 ⟨_,upd_same ps k.toNat (a1,n1,c1),Sp.fill (e:=Zy) (a1,n1,c1) ⟨v0,y⟩ s hk sel rfl⟩
theorem _root_.Go.Xv.Sp.Uj {wm:Nat} {h h0:H} {T:Nat ->Prop} {G Gr:List (Ast wm)} {a a1:Option Addr} {nn c n1 c1:Nat} {ps:Nat ->Option Addr×Nat×Nat} {xs:List Zg} {k:Int} {x:Zg} (s:Sp wm T h0 G h) (pk:Pk G (Yb wm Zy a nn c ps xs) Gr) (hk:ZF xs k=some x) (hp:ps k.toNat= (a1,n1,c1)):n1=x.kG.length/\Src Zi wm h a1 c1 x.kG/\Sl Zi h.size h a1 c1 x.kG:=by
 have:= (s.inN pk hk hp).get (A:=ow wm Zi a1 n1 c1 x.kG) .z;exact⟨this.1,this.2.src,this.2.src.sl s.hw⟩
theorem _root_.Go.Xv.Sp.Un {wm:Nat} {h h0:H} {T:Nat ->Prop} {G Gr:List (Ast wm)} {a:Option Addr} {nn c:Nat} {ps:Nat ->Option Addr×Nat×Nat} {xs:List Zg} {k:Int} {x:Zg} (s:Sp wm T h0 G h) (pk:Pk G (Yb wm Zy a nn c ps xs) Gr) (hk:ZF xs k=some x):∃ b o a1 n1 c1,ps k.toNat= (a1,n1,c1)/\a=some ⟨b,o,none⟩/\At h b (o + k.toNat * 2) [.int .i64 x.Zu,.slice a1 n1 c1]:=by
 obtain⟨b,o,⟨a1,n1,c1⟩,h1,h2,h3⟩:=s.atN pk hk;exact⟨b,o,a1,n1,c1,h1,h2,h3⟩
theorem ZA:NeR Zy XT:= ⟨rfl,fun{wm h p x} hw hh=>by
 obtain⟨h1,h2⟩:=hh.get (A:=ow wm Zi p.1 p.2.1 p.2.2 x.kG) .z;exact⟨(p.1,p.2.2),by show([.int .i64 x.Zu,.slice p.1 p.2.1 p.2.2]:List Value)= [.int .i64 x.Zu,.slice p.1 x.kG.length p.2.2];rw [h1],h2.src.sl hw⟩⟩
theorem ZQp:XX.P.underlying 3=some (.int .i64):=Kq0
theorem ZXF:XX.P.underlying 4=some .bool:=Kq0
theorem ZQr:XX.P.underlying 22=some (.slice 66):=Kq0
theorem ZQq:XX.P.underlying 25=some (.slice 74):=Kq0
theorem Zut:XX.P.underlying 28=some (.slice 71):=Kq0
theorem JH:XX.P.underlying 29=some (.slice 35):=Kq0
theorem Zeg:XX.P.underlying 30=some (.slice 69):=Kq0
theorem Ze8:XX.P.underlying 31=some (.slice 99):=Kq0
theorem Zza:XX.P.underlying 34=some (.slice 64):=Kq0
theorem XJ:XX.P.underlying 35=some (.slice 3):=Kq0
theorem ZQo:XX.P.underlying 60=some (.slice 4):=Kq0
theorem QV:XX.P.underlying 69=some (.slice 121):=Kq0
theorem Zzb:XX.P.underlying 132=some (.int .u64):=Kq0
theorem ZaW:XX.P.underlying 138=some (.map 119 124):=Kq0
theorem KG:XE XX.P 3=some false:=Kq0
theorem ZOD:XE XX.P 4=some false:=Kq0
theorem ZEs:XE XX.P 22=some false:=Kq0
theorem ZmH:XE XX.P 24=some true:=Kq0
theorem ZEr:XE XX.P 28=some false:=Kq0
theorem ZaE:XE XX.P 29=some false:=Kq0
theorem Zkt:XE XX.P 30=some false:=Kq0
theorem ZvZ:XE XX.P 31=some false:=Kq0
theorem Zr4:XE XX.P 33=some true:=Kq0
theorem ZEq:XE XX.P 34=some false:=Kq0
theorem Zep:XE XX.P 35=some false:=Kq0
theorem Zr3:XE XX.P 36=some false:=Kq0
theorem ZWu:XE XX.P 62=some false:=Kq0
theorem ZEp:XE XX.P 64=some true:=Kq0
theorem ZmG:XE XX.P 66=some true:=Kq0
theorem ZhJ:XE XX.P 69=some false:=Kq0
theorem ZJO:XE XX.P 71=some false:=Kq0
theorem ZWt:XE XX.P 72=some false:=Kq0
theorem ZEo:XE XX.P 74=some true:=Kq0
theorem ZJN:XE XX.P 87=some false:=Kq0
theorem ZvY:XE XX.P 99=some true:=Kq0
theorem ZOG:XE XX.P 106=some true:=Kq0
theorem ZOF:XE XX.P 112=some false:=Kq0
theorem ZOE:XE XX.P 119=some false:=Kq0
theorem Zcm:XE XX.P 121=some true:=Kq0
theorem XL:Xo XX.P 3=some 1:=Kq0
theorem ZQx:Xo XX.P 4=some 1:=Kq0
theorem Zgw:Xo XX.P 24=some 2:=Kq0
theorem ZKf:Xo XX.P 28=some 1:=Kq0
theorem Zsv:Xo XX.P 29=some 1:=Kq0
theorem ZKe:Xo XX.P 30=some 1:=Kq0
theorem ZKd:Xo XX.P 31=some 1:=Kq0
theorem Zeu:Xo XX.P 33=some 7:=Kq0
theorem ZKc:Xo XX.P 34=some 1:=Kq0
theorem XH:Xo XX.P 35=some 1:=Kq0
theorem ZKb:Xo XX.P 36=some 1:=Kq0
theorem ZKa:Xo XX.P 62=some 1:=Kq0
theorem Zi2:Xo XX.P 64=some 4:=Kq0
theorem Zgv:Xo XX.P 66=some 2:=Kq0
theorem JR:Xo XX.P 69=some 1:=Kq0
theorem ZcO:Xo XX.P 71=some 1:=Kq0
theorem Zsu:Xo XX.P 74=some 3:=Kq0
theorem WY:Xo XX.P 99=some 2:=Kq0
theorem ZFF:Xo XX.P 106=some 3:=Kq0
theorem ZFE:Xo XX.P 112=some 1:=Kq0
theorem XI:Xo XX.P 121=some 5:=Kq0
theorem ZnR:Yf XX.P 24 0 0:=Yf.of Kq0
theorem ZGQ:Yf XX.P 24 1 1:=Yf.of Kq0
theorem ZGP:Yf XX.P 33 0 0:=Yf.of Kq0
theorem ZnQ:Yf XX.P 33 1 1:=Yf.of Kq0
theorem ZfU:Yf XX.P 33 2 2:=Yf.of Kq0
theorem ZGO:Yf XX.P 33 3 3:=Yf.of Kq0
theorem Zvw:Yf XX.P 33 4 4:=Yf.of Kq0
theorem Zvv:Yf XX.P 33 5 5:=Yf.of Kq0
theorem ZGN:Yf XX.P 33 6 6:=Yf.of Kq0
theorem ZGM:Yf XX.P 64 0 0:=Yf.of Kq0
theorem ZGL:Yf XX.P 64 1 1:=Yf.of Kq0
theorem ZGK:Yf XX.P 64 2 2:=Yf.of Kq0
theorem ZGJ:Yf XX.P 64 3 3:=Yf.of Kq0
theorem ZGI:Yf XX.P 66 0 0:=Yf.of Kq0
theorem ZGH:Yf XX.P 66 1 1:=Yf.of Kq0
theorem ZGG:Yf XX.P 74 0 0:=Yf.of Kq0
theorem ZGF:Yf XX.P 74 1 1:=Yf.of Kq0
theorem ZGE:Yf XX.P 74 2 2:=Yf.of Kq0
theorem ZnP:Yf XX.P 91 0 0:=Yf.of Kq0
theorem ZnO:Yf XX.P 91 1 7:=Yf.of Kq0
theorem ZGD:Yf XX.P 91 2 9:=Yf.of Kq0
theorem Zvu:Yf XX.P 96 0 0:=Yf.of Kq0
theorem Zcd:Yf XX.P 96 1 2:=Yf.of Kq0
theorem ZGC:Yf XX.P 96 2 9:=Yf.of Kq0
theorem Zvt:Yf XX.P 99 0 0:=Yf.of Kq0
theorem ZfT:Yf XX.P 99 1 1:=Yf.of Kq0
theorem ZDb:Yf XX.P 106 0 0:=Yf.of Kq0
theorem ZDa:Yf XX.P 106 1 2:=Yf.of Kq0
theorem ZC9:Yf XX.P 121 0 0:=Yf.of Kq0
theorem ZC8:Yf XX.P 121 1 1:=Yf.of Kq0
theorem Zq7:Yf XX.P 121 2 2:=Yf.of Kq0
theorem ZC7:Yf XX.P 121 3 3:=Yf.of Kq0
theorem Zq6:Yf XX.P 121 4 4:=Yf.of Kq0
theorem Kt:X0 XX.P 3=some (.int .i64 0):=Kq0
theorem ZPl:X0 XX.P 4=some (.bool false):=Kq0
theorem ZyC:X0 XX.P 33=some (.agg #[.slice none 0 0,.slice none 0 0,.slice none 0 0,.slice none 0 0,.slice none 0 0,.slice none 0 0,.int .i64 0]):=Kq0
theorem ZbN:X0 XX.P 35=some (.slice none 0 0):=Kq0
theorem ZJX:X0 XX.P 36=some (.int .i64 0):=Kq0
theorem ZmP:X0 XX.P 64=some (.agg #[.int .i64 0,.int .i64 0,.int .i64 0,.int .i64 0]):=Kq0
theorem ZJW:X0 XX.P 66=some (.agg #[.int .i64 0,.int .i64 0]):=Kq0
theorem ZJV:X0 XX.P 67=some (.agg #[.int .i64 0,.int .i64 0]):=Kq0
theorem Zsf:X0 XX.P 69=some (.slice none 0 0):=Kq0
theorem Zse:X0 XX.P 71=some (.int .i64 0):=Kq0
theorem ZyB:X0 XX.P 74=some (.agg #[.int .i64 0,.int .i64 0,.int .i64 0]):=Kq0
theorem ZyA:X0 XX.P 91=some (.agg #[.slice none 0 0,.slice none 0 0,.slice none 0 0,.slice none 0 0,.slice none 0 0,.slice none 0 0,.int .i64 0,.int .i64 0,.slice none 0 0,.slice none 0 0]):=Kq0
theorem Zyz:X0 XX.P 96=some (.agg #[.int .i64 0,.slice none 0 0,.slice none 0 0,.slice none 0 0,.slice none 0 0,.slice none 0 0,.slice none 0 0,.slice none 0 0,.int .i64 0,.slice none 0 0]):=Kq0
theorem ZmO:X0 XX.P 99=some (.agg #[.int .i64 0,.slice none 0 0]):=Kq0
theorem ZE6:X0 XX.P 106=some (.agg #[.int .i64 0,.slice none 0 0,.slice none 0 0]):=Kq0
theorem ZE5:X0 XX.P 112=some (.nilFunc):=Kq0
theorem Ki:X0 XX.P 121=some (.agg #[.int .i64 0,.int .i64 0,.int .i64 0,.int .i64 0,.slice none 0 0]):=Kq0
theorem ZdH:X0 XX.P 124=some (.nilFunc):=Kq0
theorem ZD8:Zcr XX.P 33 [.slice none 0 0,.slice none 0 0,.slice none 0 0,.slice none 0 0,.slice none 0 0,.slice none 0 0,.int .i64 0] [(0,1),(1,1),(2,1),(3,1),(4,1),(5,1),(6,1)]:= ⟨_,_,ZyC,rfl,Tryz.underlying33,by kernel_rfl⟩
theorem ZJJ:Zcr XX.P 64 [.int .i64 0,.int .i64 0,.int .i64 0,.int .i64 0] [(0,1),(1,1),(2,1),(3,1)]:= ⟨_,_,ZmP,rfl,Tryz.underlying64,by kernel_rfl⟩
theorem ZV7:Zcr XX.P 74 [.int .i64 0,.int .i64 0,.int .i64 0] [(0,1),(1,1),(2,1)]:= ⟨_,_,ZyB,rfl,Tryz.underlying74,by kernel_rfl⟩
theorem ZV6:Zcr XX.P 91 [.slice none 0 0,.slice none 0 0,.slice none 0 0,.slice none 0 0,.slice none 0 0,.slice none 0 0,.int .i64 0,.int .i64 0,.slice none 0 0,.slice none 0 0] [(0,7),(7,2),(9,1)]:= ⟨_,_,ZyA,rfl,Tryz.underlying91,by kernel_rfl⟩
theorem ZV5:Zcr XX.P 96 [.int .i64 0,.slice none 0 0,.slice none 0 0,.slice none 0 0,.slice none 0 0,.slice none 0 0,.slice none 0 0,.slice none 0 0,.int .i64 0,.slice none 0 0] [(0,2),(2,7),(9,1)]:= ⟨_,_,Zyz,rfl,Tryz.underlying96,by kernel_rfl⟩
theorem Za5:Zcr XX.P 121 [.int .i64 0,.int .i64 0,.int .i64 0,.int .i64 0,.slice none 0 0] [(0,1),(1,1),(2,1),(3,1),(4,1)]:= ⟨_,_,Ki,rfl,Tryz.underlying121,by kernel_rfl⟩
theorem ZrY:Zeq XX.P #[28,28] 1 8:= ⟨71,.int .i64 0,by kernel_rfl⟩
theorem ZbH:Zeq XX.P #[29,29] 1 24:= ⟨35,.slice none 0 0,by kernel_rfl⟩
theorem ZrX:Zeq XX.P #[34,34] 4 32:= ⟨64,.agg #[.int .i64 0,.int .i64 0,.int .i64 0,.int .i64 0],by kernel_rfl⟩
theorem X4:Zeq XX.P #[35,35] 1 8:= ⟨3,.int .i64 0,by kernel_rfl⟩
theorem UW:Zeq XX.P #[69,69] 5 56:= ⟨121,.agg #[.int .i64 0,.int .i64 0,.int .i64 0,.int .i64 0,.slice none 0 0],by kernel_rfl⟩
theorem ZVg (x y:Zq):ZWZ XX.P 64 (Zw.sh () x) (Zw.sh () y) (ZaR x y):=
 ⟨by kernel_rfl,Zxw (d:=9999) (bs:= [x.kZ==y.kZ,x.kV==y.kV,x.kX==y.kX,x.n==y.n]) Tryz.underlying64 Kq0 ⟨⟨by decide,_,_,U6 Kq0 rfl,U6 Kq0 rfl,eq_int Kq0⟩,⟨by decide,_,_,U6 Kq0 rfl,U6 Kq0 rfl,eq_int Kq0⟩,⟨by decide,_,_,U6 Kq0 rfl,U6 Kq0 rfl,eq_int Kq0⟩,⟨by decide,_,_,U6 Kq0 rfl,U6 Kq0 rfl,eq_int Kq0⟩,trivial⟩⟩
theorem Za0:ZkC XX.P 119 (Value.int .i64):=ZkC.int Kq0
theorem ZJI:Za4 XX.P 3=some 8:=Kq0
theorem ZD7:Za4 XX.P 69=some 24:=Kq0
theorem ZD6:Za4 XX.P 99=some 32:=Kq0
theorem ZUa:(XX.fns.get 14).isSome=true:=Kq0
theorem ZCl:(XX.fns.get 15).isSome=true:=Kq0
theorem ZT9:(XX.fns.get 17).isSome=true:=Kq0
theorem ZT8:(XX.fns.get 18).isSome=true:=Kq0
theorem ZJi:(XX.fns.get 20).isSome=true:=Kq0
theorem ZT7:(XX.fns.get 21).isSome=true:=Kq0
theorem Zvl:(XX.fns.get 22).isSome=true:=Kq0
theorem ZT6:(XX.fns.get 23).isSome=true:=Kq0
theorem ZT5:(XX.fns.get 24).isSome=true:=Kq0
theorem ZT4:(XX.fns.get 25).isSome=true:=Kq0
theorem ZJh:(XX.fns.get 33).isSome=true:=Kq0
theorem ZT3:(XX.fns.get 34).isSome=true:=Kq0
theorem ZJg:(XX.fns.get 38).isSome=true:=Kq0
theorem ZT2:(XX.fns.get 41).isSome=true:=Kq0
theorem ZT1:(XX.fns.get 42).isSome=true:=Kq0
theorem ZT0:(XX.fns.get 43).isSome=true:=Kq0
theorem ZTZ:(XX.fns.get 44).isSome=true:=Kq0
theorem ZJf:(XX.fns.get 45).isSome=true:=Kq0
theorem ZTY:(XX.fns.get 46).isSome=true:=Kq0
theorem ZTX:(XX.fns.get 47).isSome=true:=Kq0
theorem ZJe:(XX.fns.get 48).isSome=true:=Kq0
theorem ZJd:(XX.fns.get 49).isSome=true:=Kq0
theorem ZCk:(XX.fns.get 50).isSome=true:=Kq0
theorem ZCj:(XX.fns.get 54).isSome=true:=Kq0
theorem Zvk:(XX.fns.get 55).isSome=true:=Kq0
theorem ZJc:(XX.fns.get 57).isSome=true:=Kq0
theorem ZTW:(XX.fns.get 60).isSome=true:=Kq0
theorem Zvj:(XX.fns.get 61).isSome=true:=Kq0
theorem Zl9:(XX.fns.get 62).isSome=true:=Kq0
theorem UU:(XX.fns.get 63).isSome=true:=Kq0
theorem ZJb:(XX.fns.get 64).isSome=true:=Kq0
theorem ZqW:(XX.fns.get 65).isSome=true:=Kq0
theorem ZJa:(XX.fns.get 66).isSome=true:=Kq0
theorem ZCi:(XX.fns.get 67).isSome=true:=Kq0
theorem ZTV:(XX.fns.get 68).isSome=true:=Kq0
theorem Zl8:(XX.fns.get 69).isSome=true:=Kq0
theorem ZI9:(XX.fns.get 70).isSome=true:=Kq0
theorem ZI8:(XX.fns.get 71).isSome=true:=Kq0
theorem ZI7:(XX.fns.get 72).isSome=true:=Kq0
theorem ZCh:(XX.fns.get 73).isSome=true:=Kq0
theorem ZTU:(XX.fns.get 74).isSome=true:=Kq0
theorem ZTT:(XX.fns.get 75).isSome=true:=Kq0
theorem ZI6:(XX.fns.get 76).isSome=true:=Kq0
theorem ZTS:(XX.fns.get 77).isSome=true:=Kq0
theorem ZI5:(XX.fns.get 83).isSome=true:=Kq0
theorem Zvi:(XX.fns.get 84).isSome=true:=Kq0
theorem ZI4:(XX.fns.get 85).isSome=true:=Kq0
theorem ZqV:(XX.fns.get 89).isSome=true:=Kq0
theorem ZI3:(XX.fns.get 90).isSome=true:=Kq0
theorem ZI2:(XX.fns.get 91).isSome=true:=Kq0
theorem ZqU:(XX.fns.get 92).isSome=true:=Kq0
theorem ZqT:(XX.fns.get 93).isSome=true:=Kq0
theorem UR:(XX.fns.get 94).isSome=true:=Kq0
theorem ZqS:(XX.fns.get 95).isSome=true:=Kq0
theorem ZI1:(XX.fns.get 96).isSome=true:=Kq0
theorem ZI0:(XX.fns.get 97).isSome=true:=Kq0
theorem ZCg:(XX.fns.get 98).isSome=true:=Kq0
theorem ZCf:(XX.fns.get 99).isSome=true:=Kq0
theorem ZMf:(XX.fns.get 100).isSome=true:=Kq0
theorem ZMe:(XX.fns.get 101).isSome=true:=Kq0
theorem ZMd:(XX.fns.get 102).isSome=true:=Kq0
theorem ZMc:(XX.fns.get 103).isSome=true:=Kq0
theorem Zth:(XX.fns.get 104).isSome=true:=Kq0
theorem ZMb:(XX.fns.get 105).isSome=true:=Kq0
theorem ZMa:(XX.fns.get 106).isSome=true:=Kq0
theorem ZL9:(XX.fns.get 107).isSome=true:=Kq0
theorem ZL8:(XX.fns.get 108).isSome=true:=Kq0
theorem Zny:(XX.fns.get 109).isSome=true:=Kq0
theorem ZL7:(XX.fns.get 119).isSome=true:=Kq0
theorem ZL6:(XX.fns.get 124).isSome=true:=Kq0
theorem Ztg:(XX.fns.get 125).isSome=true:=Kq0
theorem ZCs:(XX.fns.get 126).isSome=true:=Kq0
theorem ZL5:(XX.fns.get 127).isSome=true:=Kq0
theorem ZCr:(XX.fns.get 128).isSome=true:=Kq0
theorem ZCq:(XX.fns.get 136).isSome=true:=Kq0
theorem ZCp:(XX.fns.get 137).isSome=true:=Kq0
theorem ZCo:(XX.fns.get 138).isSome=true:=Kq0
theorem ZCn:(XX.fns.get 139).isSome=true:=Kq0
theorem ZCm:(XX.fns.get 142).isSome=true:=Kq0
end
end Go.Proofs.YtcnahmgekicbdaaGreat
end
end
section
noncomputable section
namespace Go.Xv
open Go.Lf
class Zct (P:Program) (t:TypeId):Prop where
 out:XE P t=some false
class Zpi (P:Program) (t:TypeId):Prop where
 out:XE P t=some true
class SzF (P:Program) (t:TypeId) (n:outParam Nat):Prop where
 out:Xo P t=some n
class Uy (P:Program) (t:TypeId) (f:Nat) (o:outParam Nat):Prop where
 out:Yf P t f o
class Zh8 (P:Program) (t:TypeId) (e:outParam TypeId):Prop where
 out:P.underlying t=some (.slice e)
class ZO4 (P:Program) (t:TypeId):Prop where
 out:P.underlying t=some .bool
class Zcp (P:Program) (t:TypeId) (v:outParam Value):Prop where
 out:X0 P t=some v
theorem ia {v:Value} (h:Wx v=false):Wx v=false:=h
theorem Z3q {fr:Fr} {t:Nat} {c:Bool} {v:Value} (h:fr.at t=cond c v undef) (ha:Wx v=false) (hc:c=true):Xf fr (.tmp t)=some v:=Q8 h ha hc
section
variable {X:Ctx} {h:H} {fr:Fr} {ty:TypeId} {p':String} {af:Array Edge} {g:Option (Nat×Bool)} {d:Option Tmp} {wm:Nat} {T:Nat ->Prop} {h0:H} {G Gr:List (Ast wm)}
theorem ZWd {x:Operand} {t:TypeId} {f off b o:Nat} [hf:Uy X.P t f off] (hx:Xf fr x=some (.pointer (some ⟨b,o,none⟩))):Qw X h (Xf fr) ⟨d,.fieldAddr t x f,ty,p',af,g⟩=some (.val (.pointer (some ⟨b,o + off,none⟩)),.none):=Qn hf.out hx
theorem Z4x {x:Operand} {t:TypeId} {b oo:Nat} {vs:List Value} {v:Value} [ht:Zct X.P t] (hx:Xf fr x=some (.pointer (some ⟨b,oo,none⟩))) (hS:Sp wm T h0 G h) (pp:Pk G (bx wm b vs) Gr) (hv:vs[oo]? =some v):
 Qw X h (Xf fr) ⟨d,.load t x,ty,p',af,g⟩=some (.val v,.none):=Xg ht.out hx (hS.QW pp) (Nat.zero_add _).symm hv
theorem ZWb {x:Operand} {t:TypeId} {b oo sz:Nat} {vs ws:List Value} [ht:Zpi X.P t] [hs:SzF X.P t sz] (hx:Xf fr x=some (.pointer (some ⟨b,oo,none⟩))) (hS:Sp wm T h0 G h) (pp:Pk G (bx wm b vs) Gr) (hj:Nat.ble (oo + sz) vs.length=true) (hv:(vs.drop oo).take sz=ws):
 Qw X h (Xf fr) ⟨d,.load t x,ty,p',af,g⟩=some (.val (.agg ws.toArray),.none):=QA ht.out hs.out hx (hS.QW pp) (Nat.zero_add _).symm hj hv
theorem ZWe {dd:Tmp} {x:Operand} {t:TypeId} {v:Value} {vs:List Value} (hx:Xf fr x=some v) (hS:Sp wm T h0 G h) (hv:v.cells.toList=vs):
 HN X wm ⟨some dd,.box t x,ty,p',af,g⟩ fr h (fun v h'=>∃ b,h.size=b/\v= .pointer (some ⟨b,0,none⟩)/\Sp wm T h0 (bx wm b vs::G) h'):=ZQC hS hx hv
theorem ZWf {dd:Tmp} {t:TypeId} {v:Value} {vs:List Value} [hz:Zcp X.P t v] (hS:Sp wm T h0 G h) (hv:v.cells.toList=vs):
 HN X wm ⟨some dd,.alloc t,ty,p',af,g⟩ fr h (fun v h'=>∃ b,h.size=b/\v= .pointer (some ⟨b,0,none⟩)/\Sp wm T h0 (bx wm b vs::G) h'):=Zzt hS hz.out hv
theorem Z4w {x y:Operand} {t:TypeId} {b o sz:Nat} {cs cs' vs:List Value} {v:Value} [hs:SzF X.P t sz] (hx:Xf fr x=some (.pointer (some ⟨b,o,none⟩))) (hS:Sp wm T h0 G h) (pk:Pk G (bx wm b cs) Gr) (hy:Xf fr y=some v)
 (hvs:v.cells.toList=vs) (hn:Nat.beq vs.length sz=true) (hl:Nat.ble (o + sz) cs.length=true) (hc:vs.all Value.oneCell'=true) (hv:splice cs o vs=cs'):
 HU X wm ⟨none,.store t x y,ty,p',af,g⟩ fr h (fun i=>i=b) (fun h'=>Sp wm T h0 (bx wm b cs'::Gr) h'):=Zsw hS pk hs.out hx hy hvs hn hl hc hv
theorem ZWc {α:Type} {xs:List α} {v:α} {x y:Operand} {t e:TypeId} {sz b o nn c dd:Nat} {a:Option Addr} {k:Int} [hu:Zh8 X.P t e] [hs:SzF X.P e sz] (hx:Xf fr x=some (.slice a nn c)) (hy:Xf fr y=some (.int .i64 k)) (hn:nn=xs.length) (ha:a=some ⟨b,o,none⟩) (hk:ZF xs k=some v):
 Qw X h (Xf fr) ⟨some dd,.indexAddr t x y,ty,p',af,g⟩=some (.val (.pointer (some ⟨b,o + k.toNat * sz,none⟩)),.none):=YM hu.out hs.out hx hy hn ha hk
theorem ZWa {x:Operand} {t:TypeId} {b o oo j:Nat} {vs:List Value} {v:Value} [ht:Zct X.P t] (hx:Xf fr x=some (.pointer (some ⟨b,oo,none⟩))) (ha:At h b o vs) (ho:oo=o + j) (hv:vs[j]? =some v):
 Qw X h (Xf fr) ⟨d,.load t x,ty,p',af,g⟩=some (.val v,.none):=Xg ht.out hx ha ho hv
theorem ZV9 {x:Operand} {t e':TypeId} {a:Option Addr} {mm cc dd:Nat} [hu:Zh8 X.P t e'] (hx:Xf fr x=some (.slice a mm cc)):
 Qw X h (Xf fr) ⟨some dd,.call {callee:= .builtin .len,args:=#[x],argTypes:=#[t]},ty,p',af,g⟩=some (.val (.int .i64 (mm:Int)),.none):=J9 hu.out hx rfl
end
section
variable {X:Ctx} {n wm:Nat} {rd:Option Nat} {ops:Array Oper} {l:List Oper} {fr:Fr} {ds:List Deferred} {h:H} {ty:TypeId} {p:String} {af:Array Edge} {g:Option (Nat×Bool)} {sf:ST} {m:Nat}
theorem WX.w2 {Q:Fr ->H ->Prop} {d:Nat} {op:Op} {v:Value} (hg:YO ops ⟨some d,op,ty,p,af,g⟩ fr) (hd:Nat.blt d n=true) (hM:okM ops sf m ⟨some d,op,ty,p,af,g⟩=true) (ha:Qw X h (Xf fr) ⟨some d,op,ty,p,af,g⟩=some (.val v,.none)) (k:WX X n wm rd ops sf (m + 1) h l (Tr.set fr d v) Q):
 WX X n wm rd ops sf m h (⟨some d,op,ty,p,af,g⟩::l) fr Q:=WX.w hg hd ha k hM
theorem WX.gv2 {Q:Fr ->H ->Prop} {d:Nat} {op:Op} {c:Bool} {v:Value} (hg:Zf ops ⟨some d,op,ty,p,af,g⟩ fr c) (hd:Nat.blt d n=true) (hM:okM ops sf m ⟨some d,op,ty,p,af,g⟩=true) (ha:c=true ->Qw X h (Xf fr) ⟨some d,op,ty,p,af,g⟩=some (.val v,.none)) (k:WX X n wm rd ops sf (m + 1) h l (Tr.set fr d (cond c v undef)) Q):
 WX X n wm rd ops sf m h (⟨some d,op,ty,p,af,g⟩::l) fr Q:=WX.gv hg hd ha k hM
end
structure Kp (q:Prop):Prop where
 out:q
theorem E0 {p:Prop}(h:p:=by(focus (repeat (first | with_reducible exact fh | ((with_reducible apply ZW);exact rfl) | ((with_reducible apply XC);exact rfl) | ((with_reducible apply YC);exact rfl) | ((with_reducible apply Zr);exact rfl) | with_reducible assumption));first|done|fail)):p:=h
theorem lk {p:Prop} (h:p:=by(first | exact evC rfl | (apply Ya;exact E0;(first | exact ia rfl | assumption)) | (apply Z3q;exact E0;(first | exact ia rfl | assumption);assumption) | fail)):p:=h
theorem pk {p:Prop} (h:p:=by
 (first | exact k0 | exact k1 | exact k2 | exact k3 | exact k4 | exact k5 | exact k6 | exact k7 | (repeat (first | exact k7 | apply Pk.s)))
 done):p:=h
theorem ce {p:Prop} (h:p:=by
 (focus (first | (simp only [ZxE,ZtV,ZrI,ZxC,ZxD,ZxF,ZoJ,cells_func,Zlm,Zkj,ZrJ];exact rfl) | exact rfl))
 done):p:=h
theorem gi {p:Prop} (h:p:=by(first | (apply Zf.yes rfl rfl rfl;exact E0) | (apply Zf.no rfl rfl rfl;exact E0) | (apply Zf.ZFa rfl rfl rfl;exact E0) | (apply Zf.Kb rfl rfl rfl;exact E0) | fail)):p:=h
section
variable {X:Ctx} {n wm:Nat} {rd:Option Nat} {Q:XX ->Fs ->Prop}
theorem cn {c:Operand} {a b:Code} {t:Bool} {fr:Fr} {ds:List Deferred} {h:H} {α:Type} {x y r:α} (hL:(bif t then x else y)=r) (h1:t=true ->x=r ->WC X n wm rd a ⟨fr,ds,h,none⟩ Q) (h2:t=false ->y=r ->WC X n wm rd b ⟨fr,ds,h,none⟩ Q) (hc:Xf fr c=some (.bool t):=by exact lk):WC X n wm rd (.cond c a b) ⟨fr,ds,h,none⟩ Q:=
 WC.ZVD hc (fun e=>h1 e (Q9 e hL)) (fun e=>h2 e (Ja e hL))
theorem rt {fn:Func} {fr:Fr} {h h0:H} {T:Nat ->Prop} {G G':List (Ast wm)} {wr:Option Nat} {t:Tmp} {β:Type} {x r:β} {g:β ->Value} (hL:some x=some r) (hT:T=Qe G) (hS:Sp wm T h0 G' h) (hr:fn.results.toList= [.tmp t]:=by exact rfl) (hv:Xf fr (.tmp t)=some (g x):=by exact lk):
 Z8 X fn (fun e h'=>∃ v,e= .ret v/\CP (fun v Gb=>v=g r/\Gb= []) G h0 v h') .ret ⟨fr,[],h,wr⟩:=by
 cases hL;exact Z8.Uu hr (Yr hv Zv) ⟨_,⟨rfl,rfl⟩,hT ▸ hS.only .n⟩
theorem bg {f:FuncId} {fn:Func} {c:Code} {args:List Value} {n:Nat} {K:Value ->List (Ast wm) ->Prop} {G:List (Ast wm)} {h:H} {fr:Fr} (hnt:fn.ntmps=n) (Ye:wm <=h.size) (hO:Ym G h)
 (k:∀ T,T=Qe (wm:=wm) G ->Sp wm T h G h ->WC X n wm none c ⟨fr,[],h,none⟩ (Z8 X fn (fun e h'=>∃ v,e= .ret v/\CP K G h v h'))) (hf:X.fns.get f=some fn:=by kernel_rfl) (hb:fn.body=some c:=by exact rfl) (hn:args.length <=n:=by simp)
 (hfr:Q7 args 0 .nil=fr:=by(simp only [Yh,Yo,Nat.reduceAdd];exact rfl)):WR X f args.toArray wm h (CP K G h):=by
 subst hfr;exact WF.begin hf hb hnt hn (k _ rfl (Sp.start Ye hO))
end
theorem lks {p:Prop} (h:p:=by
 repeat (first | exact Zm | (apply Zb;(focus exact lk;done)))
 done):p:=h
theorem Qa {p:Prop} (h:p:=by
 repeat (first | with_reducible exact fh | ((with_reducible apply ZW);exact rfl) | ((with_reducible apply XC);exact rfl) | ((with_reducible apply YC);exact rfl) | ((with_reducible apply Zr);exact rfl) | with_reducible assumption | refine⟨?_,?_⟩)
 done):p:=h
theorem r1 {p q:Prop} (k:q) (h:Kp q ->p:=by
 intro k
 first
 | refine WO.nil ?_
 | refine Zh9.Xx ?_
 | refine WC.seq ?_
 | refine WC.region ?_
 | ((first | apply WO.w gN rfl | (apply WO.gv;exact gi;rfl;intro hg) | (apply WX.w2 gN;rfl;rfl) | (apply WX.gv2;exact gi;rfl;rfl;intro hg));(focus (first
   | ((with_reducible apply XQ);exact lk)
   | ((with_reducible apply Z4x);exact lk;assumption;exact pk;rfl)
   | ((with_reducible apply ZWd);exact lk)
   | ((with_reducible apply J4);exact lk)
   | ((with_reducible apply QS);exact lk;exact lk;(first | with_reducible exact Zhr | with_reducible exact Zr7 | with_reducible exact Zgf | with_reducible exact ZEv | with_reducible exact Zx0 | with_reducible exact Zgg | with_reducible exact ZEy | with_reducible exact ZEx | with_reducible exact Zhq | with_reducible exact Zx4 ZO4.out | with_reducible exact Zx3 ZO4.out))
   | ((with_reducible apply ZWb);exact lk;assumption;exact pk;rfl;(focus simp only [Nat.zero_add,Nat.reduceAdd,List.drop_succ_cons,List.drop_zero,List.take_succ_cons,List.take_zero,List.take_nil];rfl))
   | ((with_reducible apply ZV9);exact lk)
   | ((with_reducible apply ZWc);exact lk;exact lk;(focus (exact rfl));assumption;assumption)
   | ((with_reducible apply ZWa);exact lk;(focus (first | assumption | (apply At.fz;(focus (apply Sp.fz;assumption));assumption;assumption));done);(focus (first | exact(Nat.add_zero _).symm | exact rfl);done);rfl)
   | ((with_reducible apply Zt7);exact lk;rfl)
   | ((with_reducible apply Zo0);exact lk)
   | ((with_reducible apply UH);exact lk)
   | ((with_reducible apply Zo2);exact lk;(focus (apply ZVe;exact E0);done);exact lk)
   | ((with_reducible apply ZJL);exact lk;exact lk;(apply ZVe;exact E0))
   | fail)))
 | (apply WO.hu gN;(focus (first | (((with_reducible apply Z4w));exact lk;assumption;exact pk;exact lk;exact ce;exact rfl;exact rfl;exact rfl;(focus simp only [splice,List.take_succ_cons,List.take_zero,List.drop_succ_cons,List.drop_zero,List.cons_append,List.nil_append,List.append_nil,List.length_cons,List.length_nil,Nat.reduceAdd,Nat.zero_add,List.take_nil,List.drop_nil];exact rfl)) | fail)))
 | (apply WO.hn gN rfl;(focus (first | (((with_reducible apply ZWe));exact lk;assumption;exact ce) | (((with_reducible apply ZWf));assumption;exact ce) | fail)))
 | refine WC.skip ?_
 | refine WC.ret ?_
 | refine WC.block ?_
 | refine WC.exit ?_
 | refine Zh9.ret ?_
 | refine Zh9.exit ?_
 | refine Zgk.ret ?_
 | refine Zgk.Xx ?_
 | refine Zgk.here ?_
 | refine Xh.exit ?_
 | refine Xh.ret ?_
 | refine WX.nil ?_
 | fail
 exact k.out):p:=h ⟨k⟩
theorem sl {p:Prop} (h:p:=by
 repeat (first | exact Sel.n | (apply Sel.c;(focus exact pk)))
 done):p:=h
theorem r2 {p q:Prop} (k:q) (h:Kp q ->p:=by
 intro k
 iterate 2 (refine r1 ?_)
 exact k.out):p:=h ⟨k⟩
theorem r3 {p q:Prop} (k:q) (h:Kp q ->p:=by
 intro k
 iterate 3 (refine r1 ?_)
 exact k.out):p:=h ⟨k⟩
theorem r4 {p q:Prop} (k:q) (h:Kp q ->p:=by
 intro k
 iterate 4 (refine r1 ?_)
 exact k.out):p:=h ⟨k⟩
theorem r5 {p q:Prop} (k:q) (h:Kp q ->p:=by
 intro k
 iterate 5 (refine r1 ?_)
 exact k.out):p:=h ⟨k⟩
theorem r6 {p q:Prop} (k:q) (h:Kp q ->p:=by
 intro k
 iterate 6 (refine r1 ?_)
 exact k.out):p:=h ⟨k⟩
theorem r7 {p q:Prop} (k:q) (h:Kp q ->p:=by
 intro k
 iterate 7 (refine r1 ?_)
 exact k.out):p:=h ⟨k⟩
theorem r8 {p q:Prop} (k:q) (h:Kp q ->p:=by
 intro k
 iterate 8 (refine r1 ?_)
 exact k.out):p:=h ⟨k⟩
theorem r9 {p q:Prop} (k:q) (h:Kp q ->p:=by
 intro k
 iterate 9 (refine r1 ?_)
 exact k.out):p:=h ⟨k⟩
theorem r10 {p q:Prop} (k:q) (h:Kp q ->p:=by
 intro k
 iterate 10 (refine r1 ?_)
 exact k.out):p:=h ⟨k⟩
theorem WQ {p q:Prop} (k:q) (h:Kp q ->p:=by
 intro k
 iterate 11 (refine r1 ?_)
 exact k.out):p:=h ⟨k⟩
theorem r12 {p q:Prop} (k:q) (h:Kp q ->p:=by
 intro k
 iterate 12 (refine r1 ?_)
 exact k.out):p:=h ⟨k⟩
theorem r13 {p q:Prop} (k:q) (h:Kp q ->p:=by
 intro k
 iterate 13 (refine r1 ?_)
 exact k.out):p:=h ⟨k⟩
theorem r14 {p q:Prop} (k:q) (h:Kp q ->p:=by
 intro k
 iterate 14 (refine r1 ?_)
 exact k.out):p:=h ⟨k⟩
theorem r15 {p q:Prop} (k:q) (h:Kp q ->p:=by
 intro k
 iterate 15 (refine r1 ?_)
 exact k.out):p:=h ⟨k⟩
theorem r16 {p q:Prop} (k:q) (h:Kp q ->p:=by
 intro k
 iterate 16 (refine r1 ?_)
 exact k.out):p:=h ⟨k⟩
end Go.Xv
end
end
section
set_option maxRecDepth 20000
noncomputable section
namespace Go.Proofs.YtcnahmgekicbdaaGreat
open Go.Xv Go.Lf
section
abbrev cE (x:Zq):List Value:= [.int .i64 x.kZ,.int .i64 x.kV,.int .i64 x.kX,.int .i64 x.n]
abbrev cS (x:YP):List Value:= [.int .i64 x.act,.int .i64 x.a,.int .i64 x.b]
abbrev cP (x:ZG):List Value:= [.int .i64 x.at_,.int .i64 x.XA]
abbrev cL (x:Zd) (a:Option Addr) (c:Nat):List Value:= [.int .i64 x.kW,.int .i64 x.kV,.int .i64 x.kX,.int .i64 x.n,.slice a x.qX.length c]
abbrev cW (x:Ze) (a0:Option Addr) (c0:Nat) (a1:Option Addr) (c1:Nat) (a2:Option Addr) (c2:Nat) (a3:Option Addr) (c3:Nat) (a4:Option Addr) (c4:Nat) (a5:Option Addr) (c5:Nat):List Value:= [.slice a0 x.qV.length c0,.slice a1 x.qX.length c1,.slice a2 x.qZ.length c2,.slice a3 x.Zk.length c3,.slice a4 x.Zt.length c4,.slice a5 x.kQ.length c5,.int .i64 x.kK]
abbrev cV (a0:Option Addr) (n0 c0:Nat) (a1:Option Addr) (n1 c1:Nat) (a2:Option Addr) (n2 c2:Nat) (a3:Option Addr) (n3 c3:Nat) (a4:Option Addr) (n4 c4:Nat) (a5:Option Addr) (n5 c5:Nat) (s:Int):List Value:= [.slice a0 n0 c0,.slice a1 n1 c1,.slice a2 n2 c2,.slice a3 n3 c3,.slice a4 n4 c4,.slice a5 n5 c5,.int .i64 s]
abbrev cH (a0:Option Addr) (n0 c0:Nat) (a1:Option Addr) (n1 c1:Nat) (a2:Option Addr) (n2 c2:Nat) (a3:Option Addr) (n3 c3:Nat) (a4:Option Addr) (n4 c4:Nat) (a5:Option Addr) (n5 c5:Nat) (s m:Int) (a6:Option Addr) (n6 c6:Nat) (a7:Option Addr) (n7 c7:Nat):List Value:= [.slice a0 n0 c0,.slice a1 n1 c1,.slice a2 n2 c2,.slice a3 n3 c3,.slice a4 n4 c4,.slice a5 n5 c5,.int .i64 s,.int .i64 m,.slice a6 n6 c6,.slice a7 n7 c7]
abbrev cG (m:Int) (a6:Option Addr) (n6 c6:Nat) (a0:Option Addr) (n0 c0:Nat) (a1:Option Addr) (n1 c1:Nat) (a2:Option Addr) (n2 c2:Nat) (a3:Option Addr) (n3 c3:Nat) (a4:Option Addr) (n4 c4:Nat) (a5:Option Addr) (n5 c5:Nat) (s:Int) (a7:Option Addr) (n7 c7:Nat):List Value:= [.int .i64 m,.slice a6 n6 c6,.slice a0 n0 c0,.slice a1 n1 c1,.slice a2 n2 c2,.slice a3 n3 c3,.slice a4 n4 c4,.slice a5 n5 c5,.int .i64 s,.slice a7 n7 c7]
abbrev gH (wm b:Nat) (x:Z6) (a0:Option Addr) (n0 c0:Nat) (a1:Option Addr) (n1 c1:Nat) (q1:Nat ->Option Addr×Nat×Nat) (a2:Option Addr) (n2 c2:Nat) (q2:Nat ->Option Addr×Nat×Nat) (a3:Option Addr) (n3 c3:Nat) (q3:Nat ->Option Addr×Nat×Nat) (a4:Option Addr) (n4 c4:Nat) (q4:Nat ->Option Addr×Nat×Nat) (a5:Option Addr) (n5 c5:Nat) (q5:Nat ->Option Addr×Nat×Nat) (a6:Option Addr) (c6:Nat) (a7:Option Addr) (n7 c7:Nat):List (Ast wm):= [bx wm b [.slice a0 n0 c0,.slice a1 n1 c1,.slice a2 n2 c2,.slice a3 n3 c3,.slice a4 n4 c4,.slice a5 n5 c5,.int .i64 x.Za.kK,.int .i64 x.qK.qG,.slice a6 x.qK.Zh.length c6,.slice a7 n7 c7],ow wm (Zl .i64) a0 n0 c0 x.Za.qV,Yb wm (Zx (Zl .i64)) a1 n1 c1 q1 x.Za.qX,Yb wm (Zx (Zl .i64)) a2 n2 c2 q2 x.Za.qZ,Yb wm (Zx (Zl .i64)) a3 n3 c3 q3 x.Za.Zk,Yb wm (Zx Zi) a4 n4 c4 q4 x.Za.Zt,Yb wm Zy a5 n5 c5 q5 x.Za.kQ,ow wm Zw a7 n7 c7 x.kU]
abbrev gHz (wm b:Nat) (x:Z6) (a0:Option Addr) (n0 c0:Nat) (a1:Option Addr) (n1 c1:Nat) (q1:Nat ->Option Addr×Nat×Nat) (a2:Option Addr) (n2 c2:Nat) (q2:Nat ->Option Addr×Nat×Nat) (a3:Option Addr) (n3 c3:Nat) (q3:Nat ->Option Addr×Nat×Nat) (a4:Option Addr) (n4 c4:Nat) (q4:Nat ->Option Addr×Nat×Nat) (a5:Option Addr) (n5 c5:Nat) (q5:Nat ->Option Addr×Nat×Nat) (a6:Option Addr) (c6:Nat) (a7:Option Addr) (n7 c7:Nat):List (Ast wm):= [bx wm b [.slice a0 n0 c0,.slice a1 n1 c1,.slice a2 n2 c2,.slice a3 n3 c3,.slice a4 n4 c4,.slice a5 n5 c5,.int .i64 x.Za.kK,.int .i64 x.qK.qG,.slice a6 x.qK.Zh.length c6,.slice a7 n7 c7],ow wm (Zl .i64) a0 n0 c0 x.Za.qV,Yb wm (Zx (Zl .i64)) a1 n1 c1 q1 x.Za.qX,Yb wm (Zx (Zl .i64)) a2 n2 c2 q2 x.Za.qZ,Yb wm (Zx (Zl .i64)) a3 n3 c3 q3 x.Za.Zk,Yb wm (Zx Zi) a4 n4 c4 q4 x.Za.Zt,Yb wm Zy a5 n5 c5 q5 x.Za.kQ,X7 wm (Xn Zj) (a6,c6) x.qK.Zh,ow wm Zw a7 n7 c7 x.kU]
abbrev gG (wm b:Nat) (x:Z5) (a0:Option Addr) (n0 c0:Nat) (a1:Option Addr) (n1 c1:Nat) (q1:Nat ->Option Addr×Nat×Nat) (a2:Option Addr) (n2 c2:Nat) (q2:Nat ->Option Addr×Nat×Nat) (a3:Option Addr) (n3 c3:Nat) (q3:Nat ->Option Addr×Nat×Nat) (a4:Option Addr) (n4 c4:Nat) (q4:Nat ->Option Addr×Nat×Nat) (a5:Option Addr) (n5 c5:Nat) (q5:Nat ->Option Addr×Nat×Nat) (a6:Option Addr) (c6:Nat) (a7:Option Addr) (n7 c7:Nat):List (Ast wm):= [bx wm b [.int .i64 x.s.qG,.slice a6 x.s.Zh.length c6,.slice a0 n0 c0,.slice a1 n1 c1,.slice a2 n2 c2,.slice a3 n3 c3,.slice a4 n4 c4,.slice a5 n5 c5,.int .i64 x.w.kK,.slice a7 n7 c7],ow wm (Zl .i64) a0 n0 c0 x.w.qV,Yb wm (Zx (Zl .i64)) a1 n1 c1 q1 x.w.qX,Yb wm (Zx (Zl .i64)) a2 n2 c2 q2 x.w.qZ,Yb wm (Zx (Zl .i64)) a3 n3 c3 q3 x.w.Zk,Yb wm (Zx Zi) a4 n4 c4 q4 x.w.Zt,Yb wm Zy a5 n5 c5 q5 x.w.kQ,ow wm Zw a7 n7 c7 x.kU]
abbrev gGz (wm b:Nat) (x:Z5) (a0:Option Addr) (n0 c0:Nat) (a1:Option Addr) (n1 c1:Nat) (q1:Nat ->Option Addr×Nat×Nat) (a2:Option Addr) (n2 c2:Nat) (q2:Nat ->Option Addr×Nat×Nat) (a3:Option Addr) (n3 c3:Nat) (q3:Nat ->Option Addr×Nat×Nat) (a4:Option Addr) (n4 c4:Nat) (q4:Nat ->Option Addr×Nat×Nat) (a5:Option Addr) (n5 c5:Nat) (q5:Nat ->Option Addr×Nat×Nat) (a6:Option Addr) (c6:Nat) (a7:Option Addr) (n7 c7:Nat):List (Ast wm):= [bx wm b [.int .i64 x.s.qG,.slice a6 x.s.Zh.length c6,.slice a0 n0 c0,.slice a1 n1 c1,.slice a2 n2 c2,.slice a3 n3 c3,.slice a4 n4 c4,.slice a5 n5 c5,.int .i64 x.w.kK,.slice a7 n7 c7],X7 wm (Xn Zj) (a6,c6) x.s.Zh,ow wm (Zl .i64) a0 n0 c0 x.w.qV,Yb wm (Zx (Zl .i64)) a1 n1 c1 q1 x.w.qX,Yb wm (Zx (Zl .i64)) a2 n2 c2 q2 x.w.qZ,Yb wm (Zx (Zl .i64)) a3 n3 c3 q3 x.w.Zk,Yb wm (Zx Zi) a4 n4 c4 q4 x.w.Zt,Yb wm Zy a5 n5 c5 q5 x.w.kQ,ow wm Zw a7 n7 c7 x.kU]
instance:Zct XX.P 3:= ⟨KG⟩
instance:Zct XX.P 4:= ⟨ZOD⟩
instance:Zct XX.P 22:= ⟨ZEs⟩
instance:Zpi XX.P 24:= ⟨ZmH⟩
instance:Zct XX.P 28:= ⟨ZEr⟩
instance:Zct XX.P 29:= ⟨ZaE⟩
instance:Zct XX.P 30:= ⟨Zkt⟩
instance:Zct XX.P 31:= ⟨ZvZ⟩
instance:Zpi XX.P 33:= ⟨Zr4⟩
instance:Zct XX.P 34:= ⟨ZEq⟩
instance:Zct XX.P 35:= ⟨Zep⟩
instance:Zct XX.P 36:= ⟨Zr3⟩
instance:Zct XX.P 62:= ⟨ZWu⟩
instance:Zpi XX.P 64:= ⟨ZEp⟩
instance:Zpi XX.P 66:= ⟨ZmG⟩
instance:Zct XX.P 69:= ⟨ZhJ⟩
instance:Zct XX.P 71:= ⟨ZJO⟩
instance:Zct XX.P 72:= ⟨ZWt⟩
instance:Zpi XX.P 74:= ⟨ZEo⟩
instance:Zct XX.P 87:= ⟨ZJN⟩
instance:Zpi XX.P 99:= ⟨ZvY⟩
instance:Zpi XX.P 106:= ⟨ZOG⟩
instance:Zct XX.P 112:= ⟨ZOF⟩
instance:Zct XX.P 119:= ⟨ZOE⟩
instance:Zpi XX.P 121:= ⟨Zcm⟩
instance:SzF XX.P 3 1:= ⟨XL⟩
instance:SzF XX.P 4 1:= ⟨ZQx⟩
instance:SzF XX.P 24 2:= ⟨Zgw⟩
instance:SzF XX.P 28 1:= ⟨ZKf⟩
instance:SzF XX.P 29 1:= ⟨Zsv⟩
instance:SzF XX.P 30 1:= ⟨ZKe⟩
instance:SzF XX.P 31 1:= ⟨ZKd⟩
instance:SzF XX.P 33 7:= ⟨Zeu⟩
instance:SzF XX.P 34 1:= ⟨ZKc⟩
instance:SzF XX.P 35 1:= ⟨XH⟩
instance:SzF XX.P 36 1:= ⟨ZKb⟩
instance:SzF XX.P 62 1:= ⟨ZKa⟩
instance:SzF XX.P 64 4:= ⟨Zi2⟩
instance:SzF XX.P 66 2:= ⟨Zgv⟩
instance:SzF XX.P 69 1:= ⟨JR⟩
instance:SzF XX.P 71 1:= ⟨ZcO⟩
instance:SzF XX.P 74 3:= ⟨Zsu⟩
instance:SzF XX.P 99 2:= ⟨WY⟩
instance:SzF XX.P 106 3:= ⟨ZFF⟩
instance:SzF XX.P 112 1:= ⟨ZFE⟩
instance:SzF XX.P 121 5:= ⟨XI⟩
instance:Uy XX.P 24 0 0:= ⟨ZnR⟩
instance:Uy XX.P 24 1 1:= ⟨ZGQ⟩
instance:Uy XX.P 33 0 0:= ⟨ZGP⟩
instance:Uy XX.P 33 1 1:= ⟨ZnQ⟩
instance:Uy XX.P 33 2 2:= ⟨ZfU⟩
instance:Uy XX.P 33 3 3:= ⟨ZGO⟩
instance:Uy XX.P 33 4 4:= ⟨Zvw⟩
instance:Uy XX.P 33 5 5:= ⟨Zvv⟩
instance:Uy XX.P 33 6 6:= ⟨ZGN⟩
instance:Uy XX.P 64 0 0:= ⟨ZGM⟩
instance:Uy XX.P 64 1 1:= ⟨ZGL⟩
instance:Uy XX.P 64 2 2:= ⟨ZGK⟩
instance:Uy XX.P 64 3 3:= ⟨ZGJ⟩
instance:Uy XX.P 66 0 0:= ⟨ZGI⟩
instance:Uy XX.P 66 1 1:= ⟨ZGH⟩
instance:Uy XX.P 74 0 0:= ⟨ZGG⟩
instance:Uy XX.P 74 1 1:= ⟨ZGF⟩
instance:Uy XX.P 74 2 2:= ⟨ZGE⟩
instance:Uy XX.P 91 0 0:= ⟨ZnP⟩
instance:Uy XX.P 91 1 7:= ⟨ZnO⟩
instance:Uy XX.P 91 2 9:= ⟨ZGD⟩
instance:Uy XX.P 96 0 0:= ⟨Zvu⟩
instance:Uy XX.P 96 1 2:= ⟨Zcd⟩
instance:Uy XX.P 96 2 9:= ⟨ZGC⟩
instance:Uy XX.P 99 0 0:= ⟨Zvt⟩
instance:Uy XX.P 99 1 1:= ⟨ZfT⟩
instance:Uy XX.P 106 0 0:= ⟨ZDb⟩
instance:Uy XX.P 106 1 2:= ⟨ZDa⟩
instance:Uy XX.P 121 0 0:= ⟨ZC9⟩
instance:Uy XX.P 121 1 1:= ⟨ZC8⟩
instance:Uy XX.P 121 2 2:= ⟨Zq7⟩
instance:Uy XX.P 121 3 3:= ⟨ZC7⟩
instance:Uy XX.P 121 4 4:= ⟨Zq6⟩
instance:Zh8 XX.P 22 66:= ⟨ZQr⟩
instance:Zh8 XX.P 25 74:= ⟨ZQq⟩
instance:Zh8 XX.P 28 71:= ⟨Zut⟩
instance:Zh8 XX.P 29 35:= ⟨JH⟩
instance:Zh8 XX.P 30 69:= ⟨Zeg⟩
instance:Zh8 XX.P 31 99:= ⟨Ze8⟩
instance:Zh8 XX.P 34 64:= ⟨Zza⟩
instance:Zh8 XX.P 35 3:= ⟨XJ⟩
instance:Zh8 XX.P 60 4:= ⟨ZQo⟩
instance:Zh8 XX.P 69 121:= ⟨QV⟩
instance:ZO4 XX.P 4:= ⟨ZXF⟩
instance:Zcp XX.P 3 (.int .i64 0):= ⟨Kt⟩
instance:Zcp XX.P 4 (.bool false):= ⟨ZPl⟩
instance:Zcp XX.P 33 (.agg #[.slice none 0 0,.slice none 0 0,.slice none 0 0,.slice none 0 0,.slice none 0 0,.slice none 0 0,.int .i64 0]):= ⟨ZyC⟩
instance:Zcp XX.P 35 (.slice none 0 0):= ⟨ZbN⟩
instance:Zcp XX.P 36 (.int .i64 0):= ⟨ZJX⟩
instance:Zcp XX.P 64 (.agg #[.int .i64 0,.int .i64 0,.int .i64 0,.int .i64 0]):= ⟨ZmP⟩
instance:Zcp XX.P 66 (.agg #[.int .i64 0,.int .i64 0]):= ⟨ZJW⟩
instance:Zcp XX.P 67 (.agg #[.int .i64 0,.int .i64 0]):= ⟨ZJV⟩
instance:Zcp XX.P 69 (.slice none 0 0):= ⟨Zsf⟩
instance:Zcp XX.P 71 (.int .i64 0):= ⟨Zse⟩
instance:Zcp XX.P 74 (.agg #[.int .i64 0,.int .i64 0,.int .i64 0]):= ⟨ZyB⟩
instance:Zcp XX.P 91 (.agg #[.slice none 0 0,.slice none 0 0,.slice none 0 0,.slice none 0 0,.slice none 0 0,.slice none 0 0,.int .i64 0,.int .i64 0,.slice none 0 0,.slice none 0 0]):= ⟨ZyA⟩
instance:Zcp XX.P 96 (.agg #[.int .i64 0,.slice none 0 0,.slice none 0 0,.slice none 0 0,.slice none 0 0,.slice none 0 0,.slice none 0 0,.slice none 0 0,.int .i64 0,.slice none 0 0]):= ⟨Zyz⟩
instance:Zcp XX.P 99 (.agg #[.int .i64 0,.slice none 0 0]):= ⟨ZmO⟩
instance:Zcp XX.P 106 (.agg #[.int .i64 0,.slice none 0 0,.slice none 0 0]):= ⟨ZE6⟩
instance:Zcp XX.P 112 (.nilFunc):= ⟨ZE5⟩
instance:Zcp XX.P 121 (.agg #[.int .i64 0,.int .i64 0,.int .i64 0,.int .i64 0,.slice none 0 0]):= ⟨Ki⟩
instance:Zcp XX.P 124 (.nilFunc):= ⟨ZdH⟩
end
section
def ZGY (p0:Zc):Option Bool:=
 some (decide ((p0.Zh.length:Int) <=30))
def Zj6 (p0:Zc) (v23:Int) (Znh:(Int ->Option Bool)):Int×Int ->(Int×Int ->Option Bool) ->Option Bool:=fun(v34,v36) ZAC=>
 (bif((decide (v36 <= (p0.Zh.length:Int))) && (decide (v34 >=0))) then(bif(v34==v23) then some false else(ZF p0.Zh v34).bind fun x41=>ZAC (x41.XA,Yd (v36 + 1))) else Znh (Yd (v23 + 1)))
def Zg6 (F:Nat) (p0:Zc):Int ->(Int ->Option Bool) ->Option Bool:=fun v23 Znh=>
 (bif decide (v23 < (p0.Zh.length:Int)) then(ZF p0.Zh v23).bind fun x26=>loop F (Zj6 p0 v23 Znh) (x26.XA,0) else some true)
def Zj7 (F:Nat) (p0:Zc):Int ->(Int ->Option Bool) ->Option Bool:=fun v9 Zb6=>
 (bif decide (v9 < (p0.Zh.length:Int)) then(ZF p0.Zh v9).bind fun x12=>(bif((((decide (x12.at_ < 0)) || (decide (x12.at_ >=p0.qG))) || (decide (x12.XA < (-1)))) || (decide (x12.XA >= (p0.Zh.length:Int)))) then some false else Zb6 (Yd (v9 + 1))) else loop F (Zg6 F p0) 0)
def Zxt (F:Nat) (p0:Zc):Option Bool:=
 (bif((((decide (p0.qG < 1)) || (decide (p0.qG > 4))) || (decide ((p0.Zh.length:Int) < 1))) || (decide ((p0.Zh.length:Int) > 8))) then some false else loop F (Zj7 F p0) 0)
def Zoq (p0:(List Int)) (p1:(List Int)):Int ->(Int ->Option Bool) ->Option Bool:=fun v6 ZaJ=>
 (bif decide (v6 < (p0.length:Int)) then(ZF p0 v6).bind fun x9=>(ZF p1 v6).bind fun x12=>(bif(x9 !=x12) then some false else ZaJ (Yd (v6 + 1))) else some true)
def Zor (F:Nat) (p0:(List Int)) (p1:(List Int)):Option Bool:=
 (bif((p0.length:Int) != (p1.length:Int)) then some false else loop F (Zoq p0 p1) 0)
def Zxq (p0:Zc) (p1:Int):Option Bool:=
 some ((decide (p1 >=0)) && (decide (p1 < (p0.Zh.length:Int))))
def Zoi (p0:Zc):(List Int)×Int ->((List Int)×Int ->Option (List Int)) ->Option (List Int):=fun(v9,v14) ZAF=>
 (bif decide (v14 >=0) then(app 8 v9 [v14]).bind fun z19=>(ZF p0.Zh v14).bind fun x23=>ZAF (z19,x23.XA) else some v9)
def Zxp (F:Nat) (p0:Zc) (p1:Int):Option (List Int):=
 (ZF p0.Zh p1).bind fun x3=>loop F (Zoi p0) ([],x3.XA)
end
section
theorem ZNX {wm h} {p0:Zc} {Zo Zn} {r} (Ye:wm <=h.size) (Zz:Sl Zj wm h Zo Zn p0.Zh) (hL:ZGY p0=some r):
 WR XX 14 #[.agg [.int .i64 p0.qG,.slice Zo p0.Zh.length Zn].toArray] wm h (CP (fun(v:Value) (Gb:List (Ast wm))=>v= .bool r/\Gb= []) [] h):=by
 refine bg Tryz.ntmps14 Ye Ym.nil ?_;intro T hT hS;unfold ZGY at hL;refine r3 ?_;rintro _ h2 ⟨b1,eb1,rfl,hS⟩;refine r13 ?_;exact rt hL hT hS
theorem ZNV {F wm h} {p0:Zc} {Zo Zn} {r} (Ye:wm <=h.size) (Zz:Sl Zj wm h Zo Zn p0.Zh) (hL:Zxt F p0=some r):
 WR XX 17 #[.agg [.int .i64 p0.qG,.slice Zo p0.Zh.length Zn].toArray] wm h (CP (fun(v:Value) (Gb:List (Ast wm))=>v= .bool r/\Gb= []) [] h):=by
 refine bg Tryz.ntmps17 Ye Ym.nil ?_;intro T hT hS;unfold Zxt at hL;refine r3 ?_;rintro _ h2 ⟨b1,eb1,rfl,hS⟩;refine r16 ?_;refine r16 ?_;refine cn hL ?_ ?_
 ·intro hc hL;refine r7 ?_;exact rt hL hT hS
 ·intro hc hL;refine r12 ?_;refine WC.loop (WL.lift hL (fun v9 s=>∃ fr4 h3,s= ⟨fr4,[],h3,none⟩/\Sp wm T h [bx wm b1 [.int .i64 p0.qG,.slice Zo p0.Zh.length Zn]] h3/\fr4.at 1= .pointer (some ⟨b1,0,none⟩)/\fr4.at 3= .int .i64 (p0.Zh.length:Int)/\fr4.at 29= .slice Zo p0.Zh.length Zn/\fr4.at 30= .int .i64 (p0.Zh.length:Int)/\fr4.at 31= .int .i64 v9) ⟨_,_,rfl,hS.only sl,Qa⟩ ?_);clear hL hS;rintro Zb6 v9 s ZdW hL ⟨fr4,h3,rfl,hS,e5,e6,e7,e8,e10⟩;dsimp only [Zj7] at hL;refine r6 ?_;refine cn hL ?_ ?_
  ·intro hc hL;refine r6 ?_;obtain⟨x12,ZqI,hL⟩:=bS hL;obtain⟨b13,o14,_,Zvn,Zmg,Zmd,Zvs⟩:=Sl.at_ Zz ZqI;refine r1 ?_;refine WO.w gN rfl (QA ZmG Zgv (Ya fh rfl) (At.fz hS.fz Zmd Zmg) (j:=0) rfl rfl (ws:= (cP x12)) rfl) ?_;refine r1 ?_;rintro _ h16 ⟨b15,Ydj,rfl,hS⟩;refine r1 ?_;rintro h17 hS;refine r16 ?_;refine WQ ?_;refine cn hL ?_ ?_
   ·intro hc hL;refine WQ ?_;exact rt hL hT hS
   ·intro hc hL;refine r7 ?_;exact Xh.Xx (ZdW _ _ hL ⟨_,_,rfl,hS.only sl,Qa⟩)
  ·intro hc hL;refine r15 ?_;refine WC.loop (WL.lift hL (fun v23 s=>∃ Zxc h18,s= ⟨Zxc,[],h18,none⟩/\Sp wm T h [bx wm b1 [.int .i64 p0.qG,.slice Zo p0.Zh.length Zn]] h18/\Zxc.at 1= .pointer (some ⟨b1,0,none⟩)/\Zxc.at 3= .int .i64 (p0.Zh.length:Int)/\Zxc.at 59= .int .i64 (p0.Zh.length:Int)/\Zxc.at 60= .int .i64 v23) ⟨_,_,rfl,hS.only sl,Qa⟩ ?_);clear hL hS;rintro Znh v23 s ZGm hL ⟨Zxc,h18,rfl,hS,e20,e21,e22,e24⟩;dsimp only [Zg6] at hL;refine r6 ?_;refine cn hL ?_ ?_
   ·intro hc hL;refine r15 ?_;obtain⟨x26,Z0k,hL⟩:=bS hL;obtain⟨b27,o28,_,Z6M,Z7J,Z7l,Z64⟩:=Sl.at_ Zz Z0k;refine r12 ?_;refine WC.loop (WL.lift hL (fun p s=>match p with | (v34,v36)=>∃ ZnN h29,s= ⟨ZnN,[],h29,none⟩/\Sp wm T h [bx wm b1 [.int .i64 p0.qG,.slice Zo p0.Zh.length Zn]] h29/\ZnN.at 1= .pointer (some ⟨b1,0,none⟩)/\ZnN.at 3= .int .i64 (p0.Zh.length:Int)/\ZnN.at 6= .int .i64 v23/\ZnN.at 7= .int .i64 v34/\ZnN.at 8= .int .i64 v36/\ZnN.at 59= .int .i64 (p0.Zh.length:Int)/\ZnN.at 60= .int .i64 v23) ⟨_,_,rfl,hS.only sl,Qa⟩ ?_);clear hL hS;rintro ZAC ⟨v34,v36⟩ s ZGj hL ⟨ZnN,h29,rfl,hS,e31,e32,e33,e35,e37,e38,e39⟩;dsimp only [Zj6] at hL;refine r12 ?_;refine cn hL ?_ ?_
    ·intro hc hL;refine r12 ?_;refine cn hL ?_ ?_
     ·intro hc hL;refine r16 ?_;exact rt hL hT hS
     ·intro hc hL;refine r6 ?_;obtain⟨x41,ZA3,hL⟩:=bS hL;obtain⟨b42,o43,_,Z6K,Z7F,Z7j,Z63⟩:=Sl.at_ Zz ZA3;refine r12 ?_;exact Xh.Xx (ZGj _ _ hL ⟨_,_,rfl,hS.only sl,Qa⟩)
    ·intro hc hL;refine r10 ?_;exact Xh.Xx (ZGm _ _ hL ⟨_,_,rfl,hS.only sl,Qa⟩)
   ·intro hc hL;refine WQ ?_;exact rt hL hT hS
theorem ZNW {F h} {p0:Zc} {Zo Zn} {r} (Zz:Sl Zj h.size h Zo Zn p0.Zh) (hL:Zxt F p0=some r):Pure XX 17 #[.agg [.int .i64 p0.qG,.slice Zo p0.Zh.length Zn].toArray] h (.bool r):=
 WR.Xl rfl (ZNV (Nat.le_refl _) Zz hL)
theorem ZNP {F wm h} {p0 p1:(List Int)} {Zo Zn YH YG} {r} (Ye:wm <=h.size) (Zz:Sl (Zl .i64) wm h Zo Zn p0) (XR:Sl (Zl .i64) wm h YH YG p1) (hL:Zor F p0 p1=some r):
 WR XX 22 #[.slice Zo p0.length Zn,.slice YH p1.length YG] wm h (CP (fun(v:Value) (Gb:List (Ast wm))=>v= .bool r/\Gb= []) [] h):=by
 refine bg Tryz.ntmps22 Ye Ym.nil ?_;intro T hT hS;unfold Zor at hL;refine r15 ?_;refine cn hL ?_ ?_
 ·intro hc hL;refine r7 ?_;exact rt hL hT hS
 ·intro hc hL;refine WQ ?_;refine WC.loop (WL.lift hL (fun v6 s=>∃ QJ h1,s= ⟨QJ,[],h1,none⟩/\Sp wm T h [] h1/\QJ.at 0= .slice Zo p0.length Zn/\QJ.at 1= .slice YH p1.length YG/\QJ.at 12= .int .i64 (p0.length:Int)/\QJ.at 13= .int .i64 v6) ⟨_,_,rfl,hS.only .n,Qa⟩ ?_);clear hL hS;rintro ZaJ v6 s Zcb hL ⟨QJ,h1,rfl,hS,e3,e4,e5,e7⟩;dsimp only [Zoq] at hL;refine r6 ?_;refine cn hL ?_ ?_
  ·intro hc hL;refine WQ ?_;refine WC.YJ mixed Kq0 ?_;refine r2 ?_;obtain⟨x9,hx9,hL⟩:=bS hL;obtain⟨b10,o11,_,Zvo,Zmh,Zme,ZqX⟩:=Sl.at_ Zz hx9;refine r4 ?_;obtain⟨x12,ZqI,hL⟩:=bS hL;obtain⟨b13,o14,_,Zvn,Zmg,Zmd,Zvs⟩:=Sl.at_ XR ZqI;refine r5 ?_;refine cn hL ?_ ?_
   ·intro hc hL;refine WQ ?_;exact rt hL hT hS
   ·intro hc hL;refine r7 ?_;exact Xh.Xx (Zcb _ _ hL ⟨_,_,rfl,hS.only .n,Qa⟩)
  ·intro hc hL;refine WQ ?_;exact rt hL hT hS
theorem Zop {F h} {p0 p1:(List Int)} {Zo Zn YH YG} {r} (Zz:Sl (Zl .i64) h.size h Zo Zn p0) (XR:Sl (Zl .i64) h.size h YH YG p1) (hL:Zor F p0 p1=some r):Pure XX 22 #[.slice Zo p0.length Zn,.slice YH p1.length YG] h (.bool r):=
 WR.Xl rfl (ZNP (Nat.le_refl _) Zz XR hL)
theorem ZNK {wm h} {p0:Zc} {p1:Int} {Zo Zn} {r} (Ye:wm <=h.size) (Zz:Sl Zj wm h Zo Zn p0.Zh) (hL:Zxq p0 p1=some r):
 WR XX 33 #[.agg [.int .i64 p0.qG,.slice Zo p0.Zh.length Zn].toArray,.int .i64 p1] wm h (CP (fun(v:Value) (Gb:List (Ast wm))=>v= .bool r/\Gb= []) [] h):=by
 refine bg Tryz.ntmps33 Ye Ym.nil ?_;intro T hT hS;unfold Zxq at hL;refine r3 ?_;rintro _ h2 ⟨b1,eb1,rfl,hS⟩;refine r16 ?_;refine r2 ?_;exact rt hL hT hS
theorem ZDJ {h} {p0:Zc} {p1:Int} {Zo Zn} {r} (Zz:Sl Zj h.size h Zo Zn p0.Zh) (hL:Zxq p0 p1=some r):Pure XX 33 #[.agg [.int .i64 p0.qG,.slice Zo p0.Zh.length Zn].toArray,.int .i64 p1] h (.bool r):=
 WR.Xl rfl (ZNK (Nat.le_refl _) Zz hL)
theorem ZDH {F wm h} {p0:Zc} {p1:Int} {Zo Zn} {r} (Ye:wm <=h.size) (Zz:Sl Zj wm h Zo Zn p0.Zh) (hL:Zxp F p0 p1=some r):
 WR XX 38 #[.agg [.int .i64 p0.qG,.slice Zo p0.Zh.length Zn].toArray,.int .i64 p1] wm h (CP (fun(v:Value) (Gb:List (Ast wm))=>∃ Jf JD Je,v= .slice Jf JD Je/\Gb= [ow wm (Zl .i64) Jf JD Je r]) [] h):=by
 refine bg Tryz.ntmps38 Ye Ym.nil ?_;intro T hT hS;unfold Zxp at hL;refine r3 ?_;rintro _ h2 ⟨b1,eb1,rfl,hS⟩;refine r14 ?_;obtain⟨x3,hx3,hL⟩:=bS hL;obtain⟨b4,o5,_,ZGv,ZGw,Ya3,ZMA⟩:=Sl.at_ Zz hx3;refine r7 ?_;have hS:=hS.nil (e:= (Zl .i64));refine WC.loop (WL.lift hL (fun p s=>match p with | (v9,v14)=>∃ fr7 h6 a10 c11 n12,s= ⟨fr7,[],h6,none⟩/\Sp wm T h [ow wm (Zl .i64) a10 n12 c11 v9,bx wm b1 [.int .i64 p0.qG,.slice Zo p0.Zh.length Zn]] h6/\fr7.at 2= .pointer (some ⟨b1,0,none⟩)/\fr7.at 5= .slice a10 n12 c11/\fr7.at 6= .int .i64 v14) ⟨_,_,none,0,0,rfl,hS.only sl,Qa⟩ ?_);clear hL hS;rintro ZAF ⟨v9,v14⟩ s ZGo hL ⟨fr7,h6,a10,c11,n12,rfl,hS,e8,e13,e15⟩;obtain rfl:=hS.on k0;dsimp only [Zoi] at hL;refine r7 ?_;refine cn hL ?_ ?_
 ·intro hc hL;refine r7 ?_;refine WO.hn gN rfl (Kw (e:= (Zl .i64)) hS XJ XL Kt rfl rfl rfl (ZX lk YD) rfl [((),v14)] rfl (xs:= [v14]) rfl (by intro q hq;simp only [List.mem_cons,List.not_mem_nil,or_false] at hq;subst hq;exact trivial) rfl) ?_;rintro _ h18 ⟨b17,Ydi,rfl,hS⟩;obtain⟨z19,ZZU,hL⟩:=bS hL;refine WO.hv gN rfl (Uc (e:= (Zl .i64)) hS k1 X4 lk lk (hS.Qr k0) (hS.on k0) ZZU) ?_;rintro _ h22 ⟨a20,c21,rfl,hS⟩;refine r8 ?_;obtain⟨x23,Z0l,hL⟩:=bS hL;obtain⟨b24,o25,_,Z6N,Z7K,Z7m,Z65⟩:=Sl.at_ Zz Z0l;refine r5 ?_;exact Xh.Xx (ZGo _ _ hL ⟨_,_,a20,c21,z19.length,rfl,hS.only sl,Qa⟩)
 ·intro hc hL;refine r12 ?_;have hr:=Oi0 hL;subst hr;exact Z8.Uu rfl (Yr lk Zv) ⟨_,⟨a10,v9.length,c11,rfl,rfl⟩,hT ▸ hS.only sl⟩
end
section
def Zn9 (p0:Zc) (p1:Int):Option Bool:=
 some ((decide (p1 >=0)) && (decide (p1 < (p0.Zh.length:Int))))
def ZjX (v13:Int) (Zb5:((List Int)×Int ->Option (List Int))):(List Int) ->Option (List Int):=fun v19=>
 Zb5 (v19,Yd (v13 + 1))
def ZnZ (p0:Zc) (p1:Int):(List Int)×Int ->((List Int)×Int ->Option (List Int)) ->Option (List Int):=fun(v6,v13) Zb5=>
 (bif decide (v13 < (p0.Zh.length:Int)) then(ZF p0.Zh v13).bind fun x27=>(bif(x27.XA==p1) then(app 8 v6 [v13]).bind fun z35=>(ZjX v13 Zb5) z35 else(ZjX v13 Zb5) v6) else some v6)
def Ztz (F:Nat) (p0:Zc) (p1:Int):Option (List Int):=
 loop F (ZnZ p0 p1) ([],0)
end
section
theorem ZNC {wm h} {p0:Zc} {p1:Int} {Zo Zn} {r} (Ye:wm <=h.size) (Zz:Sl Zj wm h Zo Zn p0.Zh) (hL:Zn9 p0 p1=some r):
 WR XX 54 #[.agg [.int .i64 p0.qG,.slice Zo p0.Zh.length Zn].toArray,.int .i64 p1] wm h (CP (fun(v:Value) (Gb:List (Ast wm))=>v= .bool r/\Gb= []) [] h):=by
 refine bg Tryz.ntmps54 Ye Ym.nil ?_;intro T hT hS;unfold Zn9 at hL;refine r3 ?_;rintro _ h2 ⟨b1,eb1,rfl,hS⟩;refine r16 ?_;refine r2 ?_;exact rt hL hT hS
theorem ZtD {h} {p0:Zc} {p1:Int} {Zo Zn} {r} (Zz:Sl Zj h.size h Zo Zn p0.Zh) (hL:Zn9 p0 p1=some r):Pure XX 54 #[.agg [.int .i64 p0.qG,.slice Zo p0.Zh.length Zn].toArray,.int .i64 p1] h (.bool r):=
 WR.Xl rfl (ZNC (Nat.le_refl _) Zz hL)
theorem ZDn {F wm h} {p0:Zc} {p1:Int} {Zo Zn} {r} (Ye:wm <=h.size) (Zz:Sl Zj wm h Zo Zn p0.Zh) (hL:Ztz F p0 p1=some r):
 WR XX 83 #[.agg [.int .i64 p0.qG,.slice Zo p0.Zh.length Zn].toArray,.int .i64 p1] wm h (CP (fun(v:Value) (Gb:List (Ast wm))=>∃ Jf JD Je,v= .slice Jf JD Je/\Gb= [ow wm (Zl .i64) Jf JD Je r]) [] h):=by
 refine bg Tryz.ntmps83 Ye Ym.nil ?_;intro T hT hS;unfold Ztz at hL;refine r3 ?_;rintro _ h2 ⟨b1,eb1,rfl,hS⟩;refine r16 ?_;refine r2 ?_;have hS:=hS.nil (e:= (Zl .i64));refine WC.loop (WL.lift hL (fun p s=>match p with | (v6,v13)=>∃ fr4 h3 a7 c8 n9,s= ⟨fr4,[],h3,none⟩/\Sp wm T h [ow wm (Zl .i64) a7 n9 c8 v6] h3/\fr4.at 1= .int .i64 p1/\fr4.at 5= .slice a7 n9 c8/\fr4.at 9= .slice Zo p0.Zh.length Zn/\fr4.at 10= .int .i64 (p0.Zh.length:Int)/\fr4.at 11= .int .i64 v13) ⟨_,_,none,0,0,rfl,hS.only sl,Qa⟩ ?_);clear hL hS;rintro Zb5 ⟨v6,v13⟩ s Znx hL ⟨fr4,h3,a7,c8,n9,rfl,hS,e5,e10,e11,e12,e14⟩;obtain rfl:=hS.on k0;dsimp only [ZnZ] at hL;refine r6 ?_;refine cn hL ?_ ?_
 ·intro hc hL;refine r2 ?_;refine WC.Zd9 (r:=r) (fun(v19:(List Int)) s=>∃ ZfS h16 a20 c21 n22,s= ⟨ZfS,[],h16,none⟩/\Sp wm T h [ow wm (Zl .i64) a20 n22 c21 v19] h16/\ZfS.at 1= .int .i64 p1/\ZfS.at 5= .slice a20 n22 c21/\ZfS.at 9= .slice Zo p0.Zh.length Zn/\ZfS.at 10= .int .i64 (p0.Zh.length:Int)/\ZfS.at 11= .int .i64 v13) (ZjX v13 Zb5) ?_ ?_
  ·clear hL hS;rintro v19 s hL ⟨ZfS,h16,a20,c21,n22,rfl,hS,e18,e23,e24,e25,e26⟩;obtain rfl:=hS.on k0;dsimp only [ZjX] at hL;refine r4 ?_;exact Xh.Xx (Znx _ _ hL ⟨_,_,a20,c21,v19.length,rfl,hS.only sl,Qa⟩)
  ·skip;refine r4 ?_;obtain⟨x27,hx27,hL⟩:=bS hL;obtain⟨b28,o29,_,ZUg,ZJt,ZJr,ZJp⟩:=Sl.at_ Zz hx27;refine r1 ?_;refine WO.w gN rfl (QA ZmG Zgv (Ya fh rfl) (At.fz hS.fz ZJr ZJt) (j:=0) rfl rfl (ws:= (cP x27)) rfl) ?_;refine r1 ?_;rintro _ h31 ⟨b30,Ydd,rfl,hS⟩;refine r2 ?_;rintro h32 hS;refine r10 ?_;refine cn hL ?_ ?_
   ·intro hc hL;refine r3 ?_;refine WO.hn gN rfl (Kw (e:= (Zl .i64)) hS XJ XL Kt rfl rfl rfl (ZX lk YD) rfl [((),v13)] rfl (xs:= [v13]) rfl (by intro q hq;simp only [List.mem_cons,List.not_mem_nil,or_false] at hq;subst hq;exact trivial) rfl) ?_;rintro _ h34 ⟨b33,ZVi,rfl,hS⟩;obtain⟨z35,ZLy,hL⟩:=bS hL;refine WO.hv gN rfl (Uc (e:= (Zl .i64)) hS k2 X4 lk lk (hS.Qr k0) (hS.on k0) ZLy) ?_;rintro _ h38 ⟨a36,c37,rfl,hS⟩;refine r3 ?_;exact QU.Xx _ hL ⟨_,_,a36,c37,z35.length,rfl,hS.only sl,Qa⟩
   ·intro hc hL;refine r2 ?_;exact QU.Xx _ hL ⟨_,_,a7,c8,v6.length,rfl,hS.only sl,Qa⟩
 ·intro hc hL;refine r12 ?_;have hr:=Oi0 hL;subst hr;exact Z8.Uu rfl (Yr lk Zv) ⟨_,⟨a7,v6.length,c8,rfl,rfl⟩,hT ▸ hS.only sl⟩
end
end Go.Proofs.YtcnahmgekicbdaaGreat
end
end
