/- Part 9. -/
import Derived.Test.YtcnahmgekicbdaaGreatPb8
set_option linter.all false
set_option maxHeartbeats 2000000
section
noncomputable section
namespace Go.Xr
open Go.Lf
section
variable {X:Ctx} {n wm:Nat} {rd:Option Nat} {ops:Array Oper} {ol:List Oper} {fr:Fr} {ds:List Deferred} {h h0:H} {ty:TypeId} {p:String} {af:Array Edge} {g:Option (Nat×Bool)} {T:Nat ->Prop} {G Gr:List (Ast wm)} {d l df:Nat} {LO:Qf} {ps:Array Tmp} {Xh bd:Code}
theorem Zeu {α β:Type} {body:α ->(α ->Option β) ->Option β} (C:α ->β ->Prop) (hb:∀ next:α ->Option β,(∀ x r,next x=some r ->C x r) ->∀ x r,body x next=some r ->C x r):∀ F x r,loop F body x=some r ->C x r:=by
 intro F
 induction F with
 | zero=>intro x r h;cases h
 | succ F ih=>intro x r h;exact hb _ ih x r h
def dne (c:Code):Qf ->Qf
 | .loop _ _ fr n ps Xh bd df=>.loop .done (some c) fr n ps Xh bd df
 | A=>A
def lst (b:Bool) (c:Code) (A:Qf):Qf:=bif b then dne c A else A
inductive Zux:XX ->Code ->Prop
 | ret:Zux .ret .ret
 | exit (id:Nat):Zux (.exit id) (.exit id)
structure BdS (n lo l:Nat) (fr:Fr) (ps:Array Tmp) (Xh bd:Code) (df:Nat) (R:Bool ->H ->Prop) (e:XX) (s:Fs):Prop where
 out:s.h.at l= .loop .busy none fr n ps Xh bd df/\
  ((e= .normal/\∀ h',(lo <=l ->Up lo (fun i=>i=l) s.h h') ->h'.at l= .loop .ready none fr n ps Xh bd df ->R true h')\/
   (∃ c,Zux e c/\∀ h',(lo <=l ->Up lo (fun i=>i=l) s.h h') ->h'.at l= .loop .done (some c) fr n ps Xh bd df ->R false h'))
structure AsS (X:Ctx) (n wm lo l:Nat) (fr:Fr) (ps:Array Tmp) (Xh bd:Code) (df:Nat) (R:Bool ->H ->Prop) (e:XX) (s:Fs):Prop where
 out:e= .normal/\s.h.at l= .loop .ready none fr n ps Xh bd df/\∀ h1,(lo <=l ->Up lo (fun i=>i=l) s.h h1) ->h1.at l= .loop .busy none fr n ps Xh bd df ->WC X n wm (some l) bd ⟨s.fr,s.ds,h1,s.wr⟩ (BdS n lo l fr ps Xh bd df R)
theorem ZsY.mkS {l:Nat} {args:List Value} {fr fr1:Fr} {ps:Array Tmp} {Xh bd:Code} {df:Nat} {R:Bool ->H ->Prop} (lo:Nat) (hat:h.at l= .loop .ready none fr n ps Xh bd df) (hw:wm <=l) (hl:Nat.beq args.length ps.toList.length=true) (hs:Jb (ps.toList.zip args) n fr=some fr1)
 (k:WC X n wm (some l) Xh ⟨fr1,[],h,none⟩ (AsS X n wm lo l fr ps Xh bd df R)):ZsY X l args.toArray wm h R:=by
 obtain⟨e1,s1,⟨rfl,h1,k1⟩,j1⟩:=k;have o1:(s1.h.at l).own=true:=by rw [h1];rfl
 have s1l:=Qx h1 rfl;obtain⟨e2,s2,⟨h2,k2⟩,j2⟩:=k1 (s1.h.put l (.loop .busy none fr n ps Xh bd df)) (fun hl=>Up.put hl o1) (XG s1l _);have o2:(s2.h.at l).own=true:=by rw [h2];rfl
 have s2l:=Qx h2 rfl
 have key:∃ b A,R b (s2.h.put l A)/\Ki l e2 s2=some (.fin (.ret (.bool b)) (s2.h.put l A)):=by
  rcases k2 with⟨rfl,k2⟩ | ⟨c,hx,k2⟩
  ·refine⟨true,_,k2 _ (fun hl=>Up.put hl o2) (XG s2l _),?_⟩;unfold Ki;rw [h2]
  ·refine⟨false,_,k2 _ (fun hl=>Up.put hl o2) (XG s2l _),?_⟩;unfold Ki;rw [h2];cases hx <;> rfl
 obtain⟨b,A,hR,hev⟩:=key;refine⟨b,s2.h.put l A,hR,?_⟩
 classical
 let ih:JY ->Option XU:=fun j=>if j= .code Xh n wm (some l) ⟨fr1,[],h,none⟩ then some (.code .normal s1) else ZaC (.code bd n wm (some l) {s1 with h:=s1.h.put l (.loop .busy none fr n ps Xh bd df)}) (.code e2 s2) j
 have HI:∀ j r,ih j=some r ->XJ X j r:=by
  intro j r e;dsimp only [ih] at e;split at e
  ·rename_i hj;cases e;rw [hj];exact j1
  ·exact UX (X:=X) j2 j r e
 refine ZaH (C:=cfg X fun _=>false) (ih:=ih) HI ?_;unfold Zdj;rw [hat];have hl':Nat.beq args.toArray.toList.length ps.toList.length=true:=hl;dsimp only;rw [Nm0 hw,hl'];simp only [Bool.and_self,Cq1];have hs':Jb (ps.toList.zip args.toArray.toList) n fr=some fr1:=hs;rw [hs'];dsimp only;have i1:ih (.code Xh n wm (some l) {fr:=fr1,ds:= [],h:=h})=some (.code .normal s1):=by dsimp only [ih];rw [if_pos rfl]
 rw [i1];show Zag ih l bd n wm .normal s1=_;unfold Zag;dsimp only;rw [h1];dsimp only
 have i2:ih (.code bd n wm (some l) {s1 with h:=s1.h.put l (.loop .busy none fr n ps Xh bd df)})=some (.code e2 s2):=by
  dsimp only [ih];split
  ·rename_i hj;exfalso;injection hj with _ _ _ _ hs
   have:({s1 with h:=s1.h.put l (.loop .busy none fr n ps Xh bd df)}:Fs).h.at l=h.at l:=by rw [hs]
   dsimp only at this;rw [XG s1l,hat] at this;cases this
  ·exact UY _ _
 rw [i2];exact hev
theorem WO.ZNE {Q:XX ->Fs ->Prop} {fo:Operand} {xs:Array Operand} {ts:Array TypeId} {vs:List Value} {n2:Nat} {QK fr1:Fr} {as2 bd2:Code} (hg:YN ops ⟨some d,.call {callee:= .value fo,args:=xs,argTypes:=ts},ty,p,af,g⟩ fr) (hd:Nat.blt d n=true) (hf:Xc fr fo=some (.func (.yield l) #[] #[])) (hx:evs (Xc fr) xs.toList=some vs)
 (hS:Sp wm T h0 G h) (pk:Pk G (ob wm l LO) Gr) (hLO:LO= .loop .ready none QK n2 ps as2 bd2 df) (hl:Nat.beq vs.length ps.toList.length=true) (hs:Jb (ps.toList.zip vs) n2 QK=some fr1)
 (k:WC X n2 wm (some l) as2 ⟨fr1,[],h,none⟩ (AsS X n2 wm wm l QK ps as2 bd2 df (fun b h'=>WO X n wm rd ops ol ⟨Tr.set fr d (.bool b),ds,h',none⟩ Q))):
 WO X n wm rd ops (⟨some d,.call {callee:= .value fo,args:=xs,argTypes:=ts},ty,p,af,g⟩::ol) ⟨fr,ds,h,none⟩ Q:=by
 obtain⟨h1,h2,h3⟩:=hS.get pk;have hat:=h1.trans hLO;exact WO.yld hg hd hf hx hat (Nb0 hl) (ZsY.mkS (lo:=wm) hat h2 hl hs k) fun b h' hk=>hk
theorem AsS.sp {QK:Fr} {R:Bool ->H ->Prop} (hLO:LO= .loop .ready none fr n ps Xh bd df) (hS:Sp wm T h0 G h) (pk:Pk G (ob wm l LO) Gr) (k:∀ h1,Sp wm T h0 (ob wm l (bsy LO)::Gr) h1 ->WC X n wm (some l) bd ⟨QK,ds,h1,none⟩ (BdS n wm l fr ps Xh bd df R)):AsS X n wm wm l fr ps Xh bd df R .normal ⟨QK,ds,h,none⟩:=by
 obtain⟨h1,h2,h3⟩:=hS.get pk;refine⟨⟨rfl,h1.trans hLO,fun h' u e=>k h' ?_⟩⟩;exact hS.one pk (u h2) (fun _ q=>q) ⟨by rw [e,hLO];rfl,h2,by rw [hLO];rfl⟩ fun _ q=>.inl q
theorem BdS.sp {QK:Fr} {R:Bool ->H ->Prop} (hLO:LO= .loop .ready none fr n ps Xh bd df) (hS:Sp wm T h0 G h) (pk:Pk G (ob wm l (bsy LO)) Gr) (k:∀ h1,Sp wm T h0 (ob wm l LO::Gr) h1 ->R true h1):BdS n wm l fr ps Xh bd df R .normal ⟨QK,ds,h,none⟩:=by
 obtain⟨h1,h2,h3⟩:=hS.get pk;refine⟨⟨h1.trans (by rw [hLO];rfl),.inl ⟨rfl,fun h' u e=>k h' ?_⟩⟩⟩;exact hS.one pk (u h2) (fun _ q=>q) ⟨by rw [e,hLO],h2,by rw [hLO];rfl⟩ fun _ q=>.inl q
theorem BdS.stop {QK:Fr} {R:Bool ->H ->Prop} {e:XX} {c:Code} (hx:Zux e c) (hLO:LO= .loop .ready none fr n ps Xh bd df) (hS:Sp wm T h0 G h) (pk:Pk G (ob wm l (bsy LO)) Gr) (k:∀ h1,Sp wm T h0 (ob wm l (lst true c LO)::Gr) h1 ->R false h1):BdS n wm l fr ps Xh bd df R e ⟨QK,ds,h,none⟩:=by
 obtain⟨h1,h2,h3⟩:=hS.get pk;refine⟨⟨h1.trans (by rw [hLO];rfl),.inr ⟨c,hx,fun h' u e=>k h' ?_⟩⟩⟩;exact hS.one pk (u h2) (fun _ q=>q) ⟨by rw [e,hLO];rfl,h2,by rw [hLO];rfl⟩ fun _ q=>.inl q
structure RgS (X:Ctx) (wm l:Nat) (fr:Fr) (n:Nat) (ps:Array Tmp) (Xh bd:Code) (df:Nat) (ds:List Deferred) (Q:XX ->Fs ->Prop) (h:H):Prop where
 low:wm <=l
 k:(h.at l= .loop .ready none fr n ps Xh bd df/\∀ h',Up wm (fun i=>i=l) h h' ->Q .normal ⟨fr,⟨.collected df,#[]⟩::ds,h',none⟩)\/
  (∃ c,h.at l= .loop .done (some c) fr n ps Xh bd df/\∀ h',Up wm (fun i=>i=l) h h' ->WC X n wm none c ⟨fr,⟨.collected df,#[]⟩::ds,h',none⟩ Q)
theorem RgS.sp {Q:XX ->Fs ->Prop} (hLO:LO= .loop .ready none fr n ps Xh bd df) (hS:Sp wm T h0 G h) (pk:Pk G (ob wm l LO) Gr) (k:∀ h',Sp wm T h0 Gr h' ->Q .normal ⟨fr,⟨.collected df,#[]⟩::ds,h',none⟩):RgS X wm l fr n ps Xh bd df ds Q h:=by
 obtain⟨h1,h2,h3⟩:=hS.get pk;refine⟨h2,.inl ⟨h1.trans hLO,fun h' u=>k h' ?_⟩⟩;exact Sp.step (Ga:= [ob wm l LO]) (Gb:= []) (hS.perm pk.perm) u (fun i e=>⟨_,List.mem_singleton.2 rfl,e⟩) Yn.nil fun i ⟨A,m,f⟩=>by simp at m
theorem RgS.stop {Q:XX ->Fs ->Prop} {c:Code} (hLO:LO= .loop .ready none fr n ps Xh bd df) (hS:Sp wm T h0 G h) (pk:Pk G (ob wm l (lst true c LO)) Gr) (k:∀ h',Sp wm T h0 Gr h' ->WC X n wm none c ⟨fr,⟨.collected df,#[]⟩::ds,h',none⟩ Q):RgS X wm l fr n ps Xh bd df ds Q h:=by
 obtain⟨h1,h2,h3⟩:=hS.get pk;refine⟨h2,.inr ⟨c,h1.trans (by rw [hLO];rfl),fun h' u=>k h' ?_⟩⟩;exact Sp.step (Ga:= [ob wm l (lst true c LO)]) (Gb:= []) (hS.perm pk.perm) u (fun i e=>⟨_,List.mem_singleton.2 rfl,e⟩) Yn.nil fun i ⟨A,m,f⟩=>by simp at m
theorem WC.ZxW {Q:XX ->Fs ->Prop} {gg:Operand} {f:FuncId} {first cap:List Value} (hS:Sp wm T h0 G h) (hg:Xc fr gg=some (.func (.func f) first.toArray cap.toArray)) (hf:(X.fns.get f).isSome=true)
 (k:∀ h' l df LO,LO=Qf.loop .ready none fr n ps Xh bd df ->Sp wm T h0 (ob wm l LO::ob wm df .deferred::G) h' ->WR X f (first ++ ([Value.func (.yield l) #[] #[]] ++ cap)).toArray wm h' (fun _ h2=>RgS X wm l fr n ps Xh bd df ds Q h2)):
 WC X n wm none (.rangeFunc gg ps Xh bd) ⟨fr,ds,h,none⟩ Q:=by
 have s1:Sp wm T h0 (ob wm h.size .deferred::G) (h.push .deferred):=Zl3 rfl hS
 have s2:Sp wm T h0 (ob wm (h.size + 1) (.loop .ready none fr n ps Xh bd h.size)::ob wm h.size .deferred::G) ((h.push .deferred).push (.loop .ready none fr n ps Xh bd h.size)):=by
  have:=Zl3 (A:= .loop .ready none fr n ps Xh bd h.size) rfl s1
  rwa [H.size_push] at this
 obtain⟨fn,hf⟩:=Option.isSome_iff_exists.1 hf;obtain⟨e,h3,⟨v,rfl,hr⟩,hj⟩:=k _ _ _ _ rfl s2
 have hac:KG (cfg X fun _=>false).X ((h.push .deferred).push (.loop .ready none fr n ps Xh bd h.size)) (.func (.func f) first.toArray cap.toArray) [Value.func (.yield (h.size + 1)) #[] #[]]=some (.enter f (first ++ ([Value.func (.yield (h.size + 1)) #[] #[]] ++ cap)).toArray,.none):=by
  unfold KG;have:(cfg X fun _=>false).X.fns.get f=some fn:=hf;dsimp only;rw [this];simp only [List.append_assoc]
 rcases hr.k with⟨hat,hk⟩ | ⟨c,hat,hk⟩
 ·refine⟨.normal,_,hk (h3.put (h.size + 1) (.loop .exhausted none fr n ps Xh bd h.size)) (Up.put hr.low (by rw [hat];rfl)),?_⟩;refine Qv.2 (WT (C:=cfg X fun _=>false) (ih:=ZaC (.call f _ wm _) (.fin (.ret v) h3)) (UX hj) ?_);show Jk (cfg X fun _=>false) _ gg n wm none (h.size + 1) ⟨fr,⟨.collected h.size,#[]⟩::ds,(h.push .deferred).push (.loop .ready none fr n ps Xh bd h.size),none⟩=_;unfold Jk;dsimp only;rw [hg];dsimp only;rw [hac];dsimp only;unfold Wl;rw [UY];dsimp only;rw [hat]
  rfl
 ·obtain⟨e2,s2,hq,hj2⟩:=hk (h3.put (h.size + 1) (.loop .exhausted (some c) fr n ps Xh bd h.size)) (Up.put hr.low (by rw [hat];rfl));refine⟨e2,s2,hq,?_⟩
  classical
  let ih:JY ->Option XU:=fun j=>if j= .code c n wm none ⟨fr,⟨.collected h.size,#[]⟩::ds,h3.put (h.size + 1) (.loop .exhausted (some c) fr n ps Xh bd h.size),none⟩ then some (.code e2 s2) else ZaC (.call f (first ++ ([Value.func (.yield (h.size + 1)) #[] #[]] ++ cap)).toArray wm ((h.push .deferred).push (.loop .ready none fr n ps Xh bd h.size))) (.fin (.ret v) h3) j
  have HI:∀ j r,ih j=some r ->XJ X j r:=by
   intro j r e;dsimp only [ih] at e;split at e
   ·rename_i hj';cases e;rw [hj'];exact hj2
   ·exact UX (X:=X) hj j r e
  refine Qv.2 (WT (C:=cfg X fun _=>false) (ih:=ih) HI ?_);show Jk (cfg X fun _=>false) _ gg n wm none (h.size + 1) ⟨fr,⟨.collected h.size,#[]⟩::ds,(h.push .deferred).push (.loop .ready none fr n ps Xh bd h.size),none⟩=_;unfold Jk;dsimp only;rw [hg];dsimp only;rw [hac];dsimp only;unfold Wl
  have i1:ih (.call f (first ++ ([Value.func (.yield (h.size + 1)) #[] #[]] ++ cap)).toArray wm ((h.push .deferred).push (.loop .ready none fr n ps Xh bd h.size)))=some (.fin (.ret v) h3):=by
   dsimp only [ih];split
   ·rename_i hj';cases hj'
   ·exact UY _ _
  rw [i1];dsimp only;rw [hat];show ih (.code c n wm none _)=_;dsimp only [ih];rw [if_pos rfl]
theorem Zon {κ ν:Type} [DecidableEq κ] {kv:κ ->Value} {vv:ν ->Value} {kt vt:TypeId} {i:Nat} {ll:List (κ×ν)} {t:TypeId} {x y z:Operand} {k:κ} {v:ν} (hS:Sp wm T h0 G h) (pk:Pk G (mp wm kv vv (some i) ll) Gr) (K:Zju X.P kt kv) (hu:X.P.underlying t=some (.map kt vt)) (hx:Xc fr x=some (.map (some i))) (hy:Xc fr y=some (kv k)) (hz:Xc fr z=some (vv v)):
 HU X wm ⟨none,.insert t x y z,ty,p,af,g⟩ fr h (fun j=>j=i) (fun h'=>Sp wm T h0 (mp wm kv vv (some i) (Zry ll k v)::Gr) h'):=
 ZOA (ty:=ty) (p:=p) (af:=af) (g:=g) hS pk K hu hx hy hz
section
variable {sf:ST} {m:Nat}
theorem WX.ZaE {Q:Fr ->H ->Prop} {o:Oper} {c:Bool} (_:Zf ops o fr c) (h1:c=true ->WX X n wm rd ops sf m h (o::ol) fr Q) (h2:c=false ->WX X n wm rd ops sf m h (o::ol) fr Q):WX X n wm rd ops sf m h (o::ol) fr Q:=by
 cases c
 ·exact h2 rfl
 ·exact h1 rfl
theorem WX.hv0 {Q:Fr ->H ->Prop} {op:Op} {T:Nat ->Prop} {K:Value ->H ->Prop} (hg:YN ops ⟨some d,op,ty,p,af,g⟩ fr) (hd:Nat.blt d n=true) (s:HV X wm ⟨some d,op,ty,p,af,g⟩ fr h T K) (h0:∀ x,T x ->False)
 (k:∀ v h',K v h' ->WX X n wm rd ops sf (m + 1) h' ol (Tr.set fr d v) Q) (hh:YH ⟨some d,op,ty,p,af,g⟩=false) (hM:okM ops sf m ⟨some d,op,ty,p,af,g⟩=true):
 WX X n wm rd ops sf m h (⟨some d,op,ty,p,af,g⟩::ol) fr Q:=by
 obtain⟨v,E,h1,ha,hE,hT,hz,hk⟩:=s;refine⟨fun hb=>?_⟩;by_cases hw:wm <=h.size
 ·have hs:=ZaP (wm:=wm) (rd:=rd) hg (.inl ha) hE
  exact WE.cons (T:=fun x=>E.tgt=some x) (xs0:= []) (h2:=h1) (v:=v) [] [] none ⟨fun _=>⟨h1,rfl,hs.1,hs.2.1 hw⟩,hs.2.2 hw,fun d' e=>(by cases e;rwa [Nat.blt_eq] at hd),fun q=>Bool.noConfusion (hh.symm.trans q),fun _ _ _ z=>by simp at z⟩ (fun _ z=>by simp at z) (fun x hx=>(h0 x (hT x hx)).elim)
   (fun x hx=>(h0 x (hT x hx)).elim) (fun hh q hq=>.inl (Wd hM hh q hq)) (fun x j C z=>by cases z) ((k v h1 hk).out fun q hq x hx=>Nat.lt_of_lt_of_le (hb q hq x hx) hz)
 ·exact WE.cons (T:=fun _=>False) (xs0:= []) (h2:=h1) (v:=v) [] [] none ⟨fun z=>absurd z hw,fun _ z=>z.elim,fun d' e=>(by cases e;rwa [Nat.blt_eq] at hd),fun q=>Bool.noConfusion (hh.symm.trans q),fun _ z=>z.elim⟩ (fun _ z=>by simp at z) (fun x hx=>hx.elim)
   (fun x hx=>hx.elim) (fun hh q hq=>.inl (Wd hM hh q hq)) (fun x j C z=>by cases z) ((k v h1 hk).out fun q hq x hx=>Nat.lt_of_lt_of_le (hb q hq x hx) hz)
theorem Sp.djs {T0:Nat ->Prop} {G Ga Gr:List (Ast wm)} {B:Ast wm} (s:Sp wm T0 h0 G h) (p:Sel G (B::Ga) Gr):∀ x,X8 Ga x ->¬ B.fp x:=fun x ⟨A,hA,fa⟩ fb=>
 (List.pairwise_cons.1 (s.Zhk p).dis).1 A hA x fb fa
inductive Lk (ops:Array Oper) (m:Nat) (R:Nat ->Prop):List (Nat×(Nat ->Prop)) ->Prop
 | n:Lk ops m R []
 | o {q:Nat×(Nat ->Prop)} {r:List (Nat×(Nat ->Prop))} (h:comp (Q8 ops.toList 0 []) q.1 m=true):Lk ops m R r ->Lk ops m R (q::r)
 | d {q:Nat×(Nat ->Prop)} {r:List (Nat×(Nat ->Prop))} (h:∀ x,q.2 x ->¬ R x):Lk ops m R r ->Lk ops m R (q::r)
theorem Lk.get {R:Nat ->Prop} {r:List (Nat×(Nat ->Prop))} (h:Lk ops m R r):∀ q ∈ r,Cmp ops q.1 m\/∀ x,q.2 x ->¬ R x:=by
 induction h with
 | n=>intro q hq;simp at hq
 | o h1 _ ih=>intro q hq;rcases List.mem_cons.1 hq with z | z
              ·subst z;exact .inl h1
              ·exact ih q z
 | d h1 _ ih=>intro q hq;rcases List.mem_cons.1 hq with z | z
              ·subst z;exact .inr h1
              ·exact ih q z
theorem WX.wrM {Q:Fr ->H ->Prop} {T0:Nat ->Prop} {G:List (Ast wm)} {op:Op} {v:Value} (R:Nat ->Prop) (hS:Sp wm T0 h0 G h) (hg:YN ops ⟨some d,op,ty,p,af,g⟩ fr) (hd:Nat.blt d n=true) (ha:∀ g':H,g'.size=h.size ->(∀ x,R x ->g'.at x=h.at x) ->Qs X g' (Xc fr) ⟨some d,op,ty,p,af,g⟩=some (.val v,.none))
 (k:∀ h',h'.size=h.size ->Sp wm T0 h0 G h' ->WX X n wm rd ops ⟨(m,fun x=>¬ R x)::sf.s,sf.m,sf.p⟩ (m + 1) h' ol (Tr.set fr d v) Q) (hh:YH ⟨some d,op,ty,p,af,g⟩=false) (hM:Lk ops m R sf.m):
 WX X n wm rd ops sf m h (⟨some d,op,ty,p,af,g⟩::ol) fr Q:=by
 have hsz:(Q6 (Qk h R) h (mask (Qk h R) h)).size=h.size:=by rw [X3,Z9]
 have hvv:∀ x,¬ R x ->VV h (Q6 (Qk h R) h (mask (Qk h R) h)) (Qk h R) x:=fun x hx=>by
  rcases Nat.lt_or_ge x h.size with z | z
  ·exact .inl ⟨z,ZbH.2 ⟨z,hx⟩⟩
  ·exact .inr (by rw [hsz];exact z)
 refine⟨fun hb=>WE.cons (T:=fun _=>False) (xs0:=Qk h R) (h2:=Q6 (Qk h R) h (mask (Qk h R) h)) (v:=v) [(m,fun x=>¬ R x)] [] none ?_ (fun q hq=>?_) (fun _ z=>z.elim) (fun _ z=>z.elim) (fun hh q hq=>(hM.get q hq).imp id fun z x hx=>hvv x (z x hx)) (fun x j C z=>by cases z) ((k _ hsz (hS.up (Up.hide wm _ h))).out fun q hq x hx=>by rw [hsz];exact hb q hq x hx)⟩
 ·have:=ZaP (wm:=wm) (rd:=rd) hg (.inl (ha _ (Z9 _ _) fun x hx=>ZAe hx)) (h1:=mask (Qk h R) h) rfl;have t0:(fun x:Nat=>Eff.tgt Eff.none=some x)=fun _=>False:=by funext x;simp [Eff.tgt]
  rw [t0] at this;exact⟨fun hw=>⟨_,rfl,this.1,this.2.1 (by rw [Z9];exact hw)⟩,fun _ z=>z.elim,fun d' e=>(by cases e;rwa [Nat.blt_eq] at hd),fun q=>Bool.noConfusion (hh.symm.trans q),fun _ z=>z.elim⟩
 ·rw [List.mem_singleton.1 hq];exact⟨rfl,fun x hx=>hvv x hx⟩
theorem Zda {x:Nat} (h:X4 none x):False:=by obtain⟨o,e⟩:=h;cases e
theorem WX.XQ {Q:Fr ->H ->Prop} {op:Op} {c:Bool} (hg:Zf ops ⟨some d,op,ty,p,af,g⟩ fr c) (hc:c=false) (hd:Nat.blt d n=true) (k:WX X n wm rd ops sf (m + 1) h ol (Tr.set fr d undef) Q) (hM:okM ops sf m ⟨some d,op,ty,p,af,g⟩=true):WX X n wm rd ops sf m h (⟨some d,op,ty,p,af,g⟩::ol) fr Q:=WX.off (hg.off hc) hd k hM
end
theorem Zhv {β:Type} {b:Bool} {x:Option β} {r:β} (h:(bif b then none else x)=some r):b=false/\x=some r:=by
 cases b
 ·exact⟨rfl,h⟩
 ·cases h
theorem UO (b:Bool):b=true\/b=false:=by cases b <;> simp
end
section
def ZTv (L:List Nat):List Deferred:=L.map fun r=>⟨.collected r,#[]⟩
def cds (wm:Nat) (L:List Nat):Ast wm where
 P:=fun h=>(∀ r ∈ L,h.at r= .deferred/\wm <=r)/\L.Nodup
 fp:=fun i=>i ∈ L
 loc:=fun _ k ⟨h1,h2⟩=>⟨fun r hr=>⟨by rw [k r hr];exact(h1 r hr).1,(h1 r hr).2⟩,h2⟩
 own:=fun⟨h1,_⟩ e=>⟨(h1 _ e).2,by rw [(h1 _ e).1];rfl⟩
section
variable {X:Ctx} {n wm:Nat} {G G1 G2 Gr:List (Ast wm)} {h h0:H} {T:Nat ->Prop} {df:Nat} {L:List Nat} {fr:Fr} {ds:List Deferred}
theorem Sp.Z1h (s:Sp wm T h0 G h):Sp wm T h0 (cds wm []::G) h:=s.add ⟨fun r hr=>(by cases hr),List.nodup_nil⟩ (fun i hi=>(by cases hi))
theorem Sp.Z1g (s:Sp wm T h0 G h) (p:Pk G (ob wm df .deferred) G1) (q:Pk G1 (cds wm L) G2):Sp wm T h0 (cds wm (df::L)::G2) h:=by
 have s:=s.perm (p.perm.trans (List.Perm.cons _ q.perm));have h1:=s.hold.all (ob wm df .deferred) (by simp);have h2:=s.hold.all (cds wm L) (by simp);have d:=s.hold.dis;rw [List.pairwise_cons,List.pairwise_cons] at d;obtain⟨d1,d2,d3⟩:=d;refine⟨s.wl,s.fz,s.keep,⟨fun A m=>?_,List.pairwise_cons.2 ⟨fun B m i f f'=>?_,d3⟩⟩,fun i f=>?_⟩
 ·rcases List.mem_cons.1 m with m | m
  ·rw [m];refine⟨fun r hr=>?_,List.nodup_cons.2 ⟨fun z=>d1 (cds wm L) (by simp) df rfl z,h2.2⟩⟩;rcases List.mem_cons.1 hr with e | e
   ·rw [e];exact⟨h1.1,h1.2.1⟩
   ·exact h2.1 r e
  ·exact s.hold.all A (by simp [m])
 ·rcases List.mem_cons.1 f with e | e
  ·exact d1 B (by simp [m]) i e f'
  ·exact d2 B m i e f'
 ·obtain⟨A,m,f⟩:=f;rcases List.mem_cons.1 m with m | m
  ·rw [m] at f;rcases List.mem_cons.1 f with e | e
   ·exact s.inn i ⟨ob wm df .deferred,by simp,e⟩
   ·exact s.inn i ⟨cds wm L,by simp,e⟩
  ·exact s.inn i ⟨A,by simp [m],f⟩
theorem Jz.ZBU {fn:Func} {R:KS ->H ->Prop}:∀ {L:List Nat} {G:List (Ast wm)} {h:H} (_:Sp wm T h0 G h) (_:Pk G (cds wm L) Gr) (_:∀ h',Sp wm T h0 Gr h' ->Jz X fn wm R .ret ⟨fr,ds,h',none⟩),Jz X fn wm R .ret ⟨fr,ZTv L ++ ds,h,none⟩
 | [],_,h,hS,pk,k=>k h (hS.drop pk)
 | r::L,G,h,hS,pk,k=>by
   obtain⟨h1,h2⟩:=hS.get pk;have hr:=h1 r (by simp);have hn:=List.nodup_cons.1 h2;refine Jz.col wm hr.2 hr.1 hr.2 fun h' u=>?_
   have s:Sp wm T h0 (cds wm L::Gr) h':=Sp.step (Ga:= [cds wm (r::L)]) (Gb:= [cds wm L]) (hS.perm pk.perm) u (fun i e=>⟨_,List.mem_singleton.2 rfl,by rw [e];exact List.mem_cons_self⟩)
    (Yn.one ⟨fun x hx=>⟨by rw [u.keep x (Qx (h1 x (by simp [hx])).1 rfl) (fun e=>hn.1 (e ▸ hx))];exact(h1 x (by simp [hx])).1,(h1 x (by simp [hx])).2⟩,hn.2⟩)
    fun i ⟨A,m,f⟩=>.inl ⟨_,List.mem_singleton.2 rfl,by rw [List.mem_singleton.1 m] at f;exact List.mem_cons_of_mem _ f⟩
   exact Jz.ZBU s .z k
end
end
section
variable {X:Ctx} {n wm wm':Nat} {rd:Option Nat} {ops:Array Oper} {ol:List Oper} {m:Nat} {sf:ST} {fr:Fr} {h h0:H} {ty:TypeId} {p:String} {af:Array Edge} {g:Option (Nat×Bool)} {T:Nat ->Prop} {G Gr:List (Ast wm)} {d:Nat}
theorem ZUe {a b:Bool} (ha:a=true) (h:(a && b)=false):b=false:=by cases a <;> simp_all
section
variable {α:Type} {e:Um α} {a a1 a2:Option Addr} {nn c n1 c1 n2 c2:Nat} {ps:Nat ->Option Addr×Nat×Nat} {xs:List (List α)}
def ZJt (wm:Nat) (e:Um α) (a:Option Addr) (n c:Nat) (ps:Nat ->Option Addr×Nat×Nat) (xs:List (List α)) (i j:Nat):Ast wm where
 P:=fun h=>n=xs.length/\i < xs.length/\j < xs.length/\Qo (ZjS (Zx e).sz (Zx e).pos) wm wm h a c ((Zx e).rows ps xs)/\Yn (Xj (Ja j (Ja i fun k x=>(Zx e).Xh wm (ps k) x)) 0 xs) h/\∀ k,X4 a k ->¬ X8 (Xj (Ja j (Ja i fun k x=>(Zx e).Xh wm (ps k) x)) 0 xs) k
 fp:=fun k=>X4 a k\/X8 (Xj (Ja j (Ja i fun k x=>(Zx e).Xh wm (ps k) x)) 0 xs) k
 loc:=fun f k ⟨h1,h0,h5,s,h2,h3⟩=>⟨h1,h0,h5,Zji f (fun i q=>k i (.inl q)) s,h2.loc f fun i q=>k i (.inr q),h3⟩
 own:=fun⟨_,_,_,s,h2,_⟩ q=>q.elim (Zjh s) h2.own
theorem Sp.take2 {i j:Int} {x y:List α} (s:Sp wm T h0 G h) (pk:Pk G (Yf wm (Zx e) a nn c ps xs) Gr) (hi:ZL xs i=some x) (pi:ps i.toNat= (a1,n1,c1)) (hj:ZL xs j=some y) (pj:ps j.toNat= (a2,n2,c2)) (hne:(i==j)=false):
 Sp wm T h0 (ZJt wm e a nn c ps xs i.toNat j.toNat::ow wm e a1 n1 c1 x::ow wm e a2 n2 c2 y::Gr) h:=by
 obtain⟨i1,i2,i3⟩:=Qq hi;obtain⟨j1,j2,j3⟩:=Qq hj
 have hne':j.toNat ≠ i.toNat:=fun q=>by
  have:i=j:=by rw [<- i1,<- j1,q]
  rw [this] at hne;simp at hne
 obtain⟨h1,so,hh,hd⟩:=s.get pk;have p1:=Jf (f:=fun k x=>(Zx e).Xh wm (ps k) x) xs 0 _ x i3;have p2:=Jf (f:=Ja i.toNat fun k x=>(Zx e).Xh wm (ps k) x) xs 0 _ y j3;rw [Nat.zero_add] at p1 p2;have e2:Ja i.toNat (fun k x=>(Zx e).Xh wm (ps k) x) j.toNat y= [ow wm e a2 n2 c2 y]:=by unfold Ja;rw [if_neg hne'];show [ow wm e (ps j.toNat).1 (ps j.toNat).2.1 (ps j.toNat).2.2 y]=_;rw [pj]
 have e1:(Zx e).Xh wm (ps i.toNat) x= [ow wm e a1 n1 c1 x]:=by show [ow wm e (ps i.toNat).1 (ps i.toNat).2.1 (ps i.toNat).2.2 x]=_;rw [pi]
 rw [e1] at p1;rw [e2] at p2;have hp:((Zx e).parts wm ps xs).Perm ([ow wm e a1 n1 c1 x] ++ ([ow wm e a2 n2 c2 y] ++ Xj (Ja j.toNat (Ja i.toNat fun k x=>(Zx e).Xh wm (ps k) x)) 0 xs)):=p1.trans (List.Perm.append_left _ p2);have hh2:=hh.perm hp;have hfp:∀ k,X8 ([ow wm e a1 n1 c1 x] ++ ([ow wm e a2 n2 c2 y] ++ Xj (Ja j.toNat (Ja i.toNat fun k x=>(Zx e).Xh wm (ps k) x)) 0 xs)) k ->X8 ((Zx e).parts wm ps xs) k:=fun k f=>f.perm hp.symm
 have:Sp wm T h0 ((ZJt wm e a nn c ps xs i.toNat j.toNat:: [ow wm e a1 n1 c1 x,ow wm e a2 n2 c2 y]) ++ Gr) h:=by
  refine Sp.say (Ga:= [Yf wm (Zx e) a nn c ps xs]) (s.perm pk.perm) (Yn.cons ⟨h1,i2,j2,so,hh2.right.right,fun k hk f=>hd k hk (hfp k (X8.append.2 (.inr (X8.append.2 (.inr f)))))⟩ (Yn.append (Ga:= [ow wm e a1 n1 c1 x]) (Gb:= [ow wm e a2 n2 c2 y]) hh2.left hh2.right.left fun k f f'=>hh2.cut k f (X8.append.2 (.inl f'))) fun k hk f=>?_) fun k f=>?_
  ·have f':X8 ([ow wm e a1 n1 c1 x] ++ [ow wm e a2 n2 c2 y]) k:=f;rcases hk with hk | hk
   ·refine hd k hk (hfp k ?_);rcases X8.append.1 f' with f' | f'
    ·exact X8.append.2 (.inl f')
    ·exact X8.append.2 (.inr (X8.append.2 (.inl f')))
   ·rcases X8.append.1 f' with f' | f'
    ·exact hh2.cut k f' (X8.append.2 (.inr hk))
    ·exact hh2.right.cut k f' hk
  ·refine⟨_,List.mem_singleton.2 rfl,?_⟩;rcases X8.cons.1 f with(f | f) | f
   ·exact Or.inl f
   ·exact Or.inr (hfp k (X8.append.2 (.inr (X8.append.2 (.inr f)))))
   ·have f':X8 ([ow wm e a1 n1 c1 x] ++ [ow wm e a2 n2 c2 y]) k:=f;refine Or.inr (hfp k ?_);rcases X8.append.1 f' with f' | f'
    ·exact X8.append.2 (.inl f')
    ·exact X8.append.2 (.inr (X8.append.2 (.inl f')))
 exact this
theorem Sp.ZHD {i j:Int} {x y x' y':List α} (s:Sp wm T h0 G h) (sel:Sel G [ZJt wm e a nn c ps xs i.toNat j.toNat,ow wm e a1 n1 c1 x',ow wm e a2 n2 c2 y'] Gr) (hi:ZL xs i=some x) (pi:ps i.toNat= (a1,n1,c1)) (hj:ZL xs j=some y) (pj:ps j.toNat= (a2,n2,c2)) (hne:(i==j)=false):
 Sp wm T h0 (Yf wm (Zx e) a nn c ps (ZE (ZE xs i x') j y')::Gr) h:=by
 obtain⟨i1,i2,i3⟩:=Qq hi;obtain⟨j1,j2,j3⟩:=Qq hj
 have hne':j.toNat ≠ i.toNat:=fun q=>by
  have:i=j:=by rw [<- i1,<- j1,q]
  rw [this] at hne;simp at hne
 have s:=s.perm sel.perm;obtain⟨⟨h1,_,_,so,hb,hd⟩,ha,hdj⟩:=s.hold.left.tail;have hi':ZL (ZE xs i x') i=some x':=by rw [JC hi]
 have hj':ZL (ZE xs i x') j=some y:=by
  rw [<- j1,ZcJ,U7 hi,if_neg (show ¬ j.toNat=i.toNat from hne')];exact j3
 have g1:(ZE (ZE xs i x') j y')[i.toNat]? =some x':=by
  rw [U7 hj',if_neg (fun q=>hne' q.symm),U7 hi,if_pos rfl]
 have g2:(ZE (ZE xs i x') j y')[j.toNat]? =some y':=by
  rw [U7 hj',if_pos rfl]
 have p1:=Jf (f:=fun k x=>(Zx e).Xh wm (ps k) x) (ZE (ZE xs i x') j y') 0 _ x' g1;have p2:=Jf (f:=Ja i.toNat fun k x=>(Zx e).Xh wm (ps k) x) (ZE (ZE xs i x') j y') 0 _ y' g2;rw [Nat.zero_add] at p1 p2;have e2:Ja i.toNat (fun k x=>(Zx e).Xh wm (ps k) x) j.toNat y'= [ow wm e a2 n2 c2 y']:=by unfold Ja;rw [if_neg hne'];show [ow wm e (ps j.toNat).1 (ps j.toNat).2.1 (ps j.toNat).2.2 y']=_;rw [pj]
 have e1:(Zx e).Xh wm (ps i.toNat) x'= [ow wm e a1 n1 c1 x']:=by show [ow wm e (ps i.toNat).1 (ps i.toNat).2.1 (ps i.toNat).2.2 x']=_;rw [pi]
 rw [e1] at p1;rw [e2] at p2;have q1:=U9 (f:=Ja i.toNat fun k x=>(Zx e).Xh wm (ps k) x) (ZE xs i x') 0 j.toNat y';have comm:∀ zs:List (List α),Xj (Ja j.toNat (Ja i.toNat fun k x=>(Zx e).Xh wm (ps k) x)) 0 zs=Xj (Ja i.toNat (Ja j.toNat fun k x=>(Zx e).Xh wm (ps k) x)) 0 zs:=fun zs=>U8 zs 0 fun k x _=>by unfold Ja;by_cases z1:k=j.toNat <;> by_cases z2:k=i.toNat <;> simp [z1,z2]
 have q2:=U9 (f:=Ja j.toNat fun k x=>(Zx e).Xh wm (ps k) x) xs 0 i.toNat x';rw [Nat.zero_add] at q1 q2
 have q3:Xj (Ja j.toNat (Ja i.toNat fun k x=>(Zx e).Xh wm (ps k) x)) 0 (ZE (ZE xs i x') j y')=Xj (Ja j.toNat (Ja i.toNat fun k x=>(Zx e).Xh wm (ps k) x)) 0 xs:=by
  show Xj _ 0 ((ZE xs i x').set j.toNat y')=_;rw [q1,comm,comm xs];exact q2
 rw [q3] at p2;have hp:((Zx e).parts wm ps (ZE (ZE xs i x') j y')).Perm ([ow wm e a1 n1 c1 x'] ++ ([ow wm e a2 n2 c2 y'] ++ Xj (Ja j.toNat (Ja i.toNat fun k x=>(Zx e).Xh wm (ps k) x)) 0 xs)):=p1.trans (List.Perm.append_left _ p2);have ha':Yn ([ow wm e a1 n1 c1 x'] ++ [ow wm e a2 n2 c2 y']) h:=ha;have ZRO:∀ k,(X4 a k\/X8 (Xj (Ja j.toNat (Ja i.toNat fun k x=>(Zx e).Xh wm (ps k) x)) 0 xs) k) ->¬ X8 ([ow wm e a1 n1 c1 x'] ++ [ow wm e a2 n2 c2 y']) k:=hdj
 have hnew:Yn ((Zx e).parts wm ps (ZE (ZE xs i x') j y')) h:=by
  have z:=ha'.append hb fun k f f'=>ZRO k (.inr f') f
  rw [List.append_assoc] at z;exact z.perm hp.symm
 refine Sp.say (Ga:=_:: [ow wm e a1 n1 c1 x',ow wm e a2 n2 c2 y']) (Gb:= [Yf wm (Zx e) a nn c ps (ZE (ZE xs i x') j y')]) s (Yn.one ⟨by rw [Zab,Zab];exact h1,?_,hnew,fun k hk f=>?_⟩) fun k ⟨B,hm,f⟩=>?_
 ·have:(Zx e).rows ps (ZE (ZE xs i x') j y')= (Zx e).rows ps xs:=by
   apply List.ext_getElem?;intro t;unfold Ne.rows;rw [Jc,Jc,U7 hj',U7 hi,Nat.zero_add];by_cases t1:t=j.toNat
   ·rw [if_pos t1,t1,j3];rfl
   ·rw [if_neg t1];by_cases t2:t=i.toNat
    ·rw [if_pos t2,t2,i3];rfl
    ·rw [if_neg t2]
  rw [this];exact so
 ·have f:=f.perm hp;rw [<- List.append_assoc] at f;rcases X8.append.1 f with f | f
  ·exact ZRO k (.inl hk) f
  ·exact hd k hk f
 ·rw [List.mem_singleton.1 hm] at f;rcases f with f | f
  ·exact X8.cons.2 (.inl (.inl f))
  ·have f:=f.perm hp;rw [<- List.append_assoc] at f;rcases X8.append.1 f with f | f
   ·exact X8.cons.2 (.inr f)
   ·exact X8.cons.2 (.inl (.inr f))
theorem Sp.ZOH {x1 x2:List α} (s:Sp wm T h0 G h) (pk:Pk G (ow wm (ZjS 1 Nat.one_pos) a nn c [⟨[.slice a1 n1 c1],rfl,rfl⟩,⟨[.slice a2 n2 c2],rfl,rfl⟩]) Gr) (k1:n1=x1.length) (s1:Sl e h.size h a1 c1 x1) (k2:n2=x2.length) (s2:Sl e h.size h a2 c2 x2):Sl (Xo e) h.size h a c [x1,x2]:=by
 obtain⟨h1,so⟩:=s.get pk;have hm:=so.max;have hc:=so.cap;refine⟨hm,hc,so.nl,.inr ?_⟩;rcases so.mem with⟨_,_,q⟩ | ⟨i,o,cs,q1,q2,q3,q4,q5,q6⟩
 ·cases q
 ·refine⟨i,o,cs,true,_,q1,q3,.inl (Qx q3 rfl),⟨q6.len,fun k x hk=>?_⟩⟩
  match k with
  | 0=>
    obtain⟨_,g1,_⟩:=q6.get 0 _ rfl;simp at hk;subst hk;exact⟨(a1,c1),by rw [k1] at g1;exact g1,s1⟩
  | 1=>
    obtain⟨_,g1,_⟩:=q6.get 1 _ rfl;simp at hk;subst hk;exact⟨(a2,c2),by rw [k2] at g1;exact g1,s2⟩
  | k + 2=>simp at hk
end
section
variable {α:Type} {e:Um α} {t el:TypeId} {x:Operand} {a:Option Addr} {nn c:Nat} {xs zs:List α} {a1:Int}
theorem Qo.cases {α:Type} {e:Um α} {a:Option Addr} {c:Nat} {xs:List α} (s:Qo e wm wm' h a c xs):(a=none/\c=0/\xs= [])\/∃ q,a=some q:=by
 rcases s.mem with⟨h1,h2,h3⟩ | ⟨i,o,cs,h1,_⟩
 ·exact .inl ⟨h1,h2,h3⟩
 ·exact .inr ⟨_,h1⟩
theorem Zws {P:Program} {t:TypeId} {x y:Operand} {k k':IntKind} {a b c:Int} (hb:0 <=b) (hc:c=a.fdiv (2 ^ (min b.toNat k.bits))):Ul P .shr t x y (.int k a) (.int k' b)=some (.val (.int k c),.none):=by
 have hp:(plain (.int k a) && plain (.int k' b))=true:=rfl;unfold Ul;rw [hp,Cq1]
 have e1:binOp .shr t (.int k a) (.int k' b)=pure (.int k c):=by
  show Op.shift .shr k a k' b=_;unfold Op.shift;rw [if_neg (by omega),hc]
 have hg:(do eqGuard .shr t x y (.int k a) (.int k' b);binOp .shr t (.int k a) (.int k' b):Sem Value)=pure (.int k c):=by
  rw [e1];rfl
 rw [hg];rfl
theorem Zwt {P:Program} {t:TypeId} {x y:Operand} {a:Int}:Ul P .shr t x y (.int .u64 a) (.int .u64 1)=some (.val (.int .u64 (a / 2)),.none):=
 Zws (by decide) (by
  show a / 2=a.fdiv 2;rw [Int.fdiv_eq_ediv_of_nonneg a (by decide)])
theorem ZCk {g':H} {lo hi:Option Operand} (hx:Xc fr x=some (.slice a nn c)) (hu:X.P.underlying t=some (.slice el)) (ha:(a=none/\nn=0/\c=0)\/∃ i o,a=some ⟨i,o,none⟩) (hg:∀ i,X4 a i ->g'.at i=h.at i):
 Qs X g' (Xc fr) ⟨some d,.slice t x lo hi none,ty,p,af,g⟩=Qs X h (Xc fr) ⟨some d,.slice t x lo hi none,ty,p,af,g⟩:=by
 have key:∀ H:H,Qs X H (Xc fr) ⟨some d,.slice t x lo hi none,ty,p,af,g⟩= (match evo (Xc fr) lo,evo (Xc fr) hi with
  | some lo,some hi=>vN (aslice X.P H t (.slice a nn c) lo hi none)
  | _,_=>none):=fun H=>by
  show(match Xc fr x,evo (Xc fr) lo,evo (Xc fr) hi,evo (Xc fr) none with
   | some x,some lo,some hi,some mx=>bif plain x && not (ZjY x) then(match lo,hi,mx with
      | lo,hi,mx=>bif QD (lo.toList ++ hi.toList ++ mx.toList) then pN (Zal X.P (Instr.sliceAt t x lo hi mx)) else none)
     else vN (aslice X.P H t x lo hi mx)
   | _,_,_,_=>none)=_
  rw [hx];have hn:evo (Xc fr) none=some none:=rfl;rw [hn];cases evo (Xc fr) lo <;> cases evo (Xc fr) hi <;> try rfl
  have:ZjY (.slice a nn c)=true:=rfl;dsimp only;rw [this,Bool.not_true,Bool.and_false,Cq0]
 rw [key,key];cases evo (Xc fr) lo <;> cases evo (Xc fr) hi <;> try rfl
 dsimp only;congr 1;rcases ha with⟨rfl,rfl,rfl⟩ | ⟨i,o,rfl⟩
 ·unfold aslice;simp only [hu]
 ·unfold aslice;simp only [hu,hg i ⟨o,rfl⟩]
theorem WX.ZDH {Q:Fr ->H ->Prop} {T0:Nat ->Prop} {G:List (Ast wm)} {lo hi:Option Operand} {a2:Int} (hS:Sp wm T0 h0 G h) (hg:YN ops ⟨some d,.slice t x lo hi none,ty,p,af,g⟩ fr) (hd:Nat.blt d n=true) (so:Qo e wm wm h a c xs) (hn:nn=xs.length) (hu:X.P.underlying t=some (.slice el)) (hs:Xi X.P el=some e.sz) (hx:Xc fr x=some (.slice a nn c))
 (hlo:evo (Xc fr) lo=some none/\a1=0\/∃ k,evo (Xc fr) lo=some (some (.int k a1))) (hhi:evo (Xc fr) hi=some none/\a2=xs.length\/∃ k,evo (Xc fr) hi=some (some (.int k a2))) (hz:slL xs a1 a2=some zs)
 (k:∀ a' c' h',h'.size=h.size ->ZnS e a c xs a' c' zs ->Sp wm T0 h0 G h' ->WX X n wm rd ops ⟨(m,fun x=>¬ X4 a x)::sf.s,sf.m,sf.p⟩ (m + 1) h' ol (Tr.set fr d (.slice a' zs.length c')) Q) (hM:Lk ops m (fun x=>X4 a x) sf.m):
 WX X n wm rd ops sf m h (⟨some d,.slice t x lo hi none,ty,p,af,g⟩::ol) fr Q:=by
 obtain⟨a',c',h1,h2⟩:=ZB9 (d:=d) (ty:=ty) (p:=p) (af:=af) (g:=g) so hn hu hs hx hlo hhi hz;refine WX.wrM (fun x=>X4 a x) hS hg hd (v:= .slice a' zs.length c') (fun g' _ hR=>?_) (fun h' e1 s1=>k a' c' h' e1 h2 s1) rfl hM;rw [ZCk hx hu ?_ hR]
 ·exact h1
 ·rcases so.mem with⟨q1,q2,q3⟩ | ⟨i,o,cs,q1,_⟩
  ·left;exact⟨q1,by rw [hn,q3];rfl,q2⟩
  ·exact .inr ⟨i,o,q1⟩
theorem ZIt {lo:Operand} {kk:IntKind} (so:Sl e wm' h a c xs) (hev:c % 2=0) (hn:nn=xs.length) (hu:X.P.underlying t=some (.slice el)) (hs:Xi X.P el=some e.sz) (hx:Xc fr x=some (.slice a nn c))
 (hlo:Xc fr lo=some (.int kk a1)) (hz:slL xs a1 xs.length=some zs):
 HE X ⟨some d,.slice t x (some lo) none none,ty,p,af,g⟩ fr h (fun v=>∃ a' c',v= .slice a' zs.length c'/\ZnS e a c xs a' c' zs):=by
 obtain⟨l,k,rfl,hk,hlk,hkx,rfl⟩:=K9 hz;have hk:k=xs.length:=by omega
 subst hk hn;have hlen:((xs.take xs.length).drop l).length=xs.length - l:=by rw [List.length_drop,List.length_take];omega
 have e1:∀ q,obN (some (.int kk (l:Int))) q=some l:=fun q=>rfl
 have e2:obN none xs.length=some xs.length:=rfl;have hcap:=so.cap;rcases so.nl with⟨rfl,rfl⟩ | ⟨rfl,rfl⟩ | ⟨i,o,rfl⟩
 ·have hx0:xs= []:=List.length_eq_zero_iff.1 (by omega);subst hx0;have hl0:l=0:=by simpa using hlk
  subst hl0;refine⟨.slice none 0 0,JD hx (Xq hlo) rfl rfl ?_,none,0,rfl,Zg9 rfl⟩
  have:aslice X.P h t (.slice none 0 0) (some (.int kk ((0:Nat):Int))) none none=some (.slice none 0 0):=by
   unfold aslice;simp only [hu,hs]
   rfl
  exact this
 ·have hx0:xs= []:=List.length_eq_zero_iff.1 (by omega);subst hx0;have hl0:l=0:=by simpa using hlk
  subst hl0;refine⟨.slice (some ⟨0,0,some 0⟩) 0 0,JD hx (Xq hlo) rfl rfl ?_,_,0,rfl,Zg9 rfl⟩
  have:aslice X.P h t (.slice (some ⟨0,0,some 0⟩) 0 0) (some (.int kk ((0:Nat):Int))) none none=some (.slice (some ⟨0,0,some 0⟩) 0 0):=by
   unfold aslice;simp only [hu,hs]
   rfl
  exact this
 ·have hb:Nat.beq (c % 2) 0=true:=by rw [hev];rfl
  have hd:(Nat.ble l xs.length && Nat.ble xs.length (c / 2))=true:=by rw [Nm0 hlk,Nm0 hcap];rfl
  refine⟨.slice (some ⟨i,bif Nat.beq (c / 2) l then o else o + l * e.sz,none⟩) (xs.length - l) (2 * (c / 2 - l)),JD hx (Xq hlo) rfl rfl ?_,_,_,by rw [hlen],ZhW hlk (Nat.le_refl _) ?_⟩
  ·unfold aslice;simp only [hu,hs,e1,e2,hd,hb,Cq1]
  ·cases hcl:Nat.beq (c / 2) l with
   | true=>right;have:=Nb0 hcl;exact⟨rfl,this,by omega⟩
   | false=>left;exact⟨rfl,by omega⟩
end
end
section
inductive E7 (l1 l2 l3 l4 l5 l6 l7:Nat):Nat ->Nat ->Nat ->Nat ->Nat ->Nat ->Nat ->Prop
 | r:E7 l1 l2 l3 l4 l5 l6 l7 l1 l2 l3 l4 l5 l6 l7
theorem Sp.w7 {wm:Nat} {h h0:H} {T:Nat ->Prop} {G G1 G2 G3 G4 G5 G6 G7:List (Ast wm)} {α1 α2 α3 α4 α5 α6 α7:Type} {e1:Um α1} {e2:Ne α2} {e3:Ne α3} {e4:Ne α4} {e5:Ne α5} {e6:Ne α6} {e7:Um α7} {a1 a2 a3 a4 a5 a6 a7:Option Addr} {n1 c1 n2 c2 n3 c3 n4 c4 n5 c5 n6 c6 n7 c7:Nat} {p2:Nat ->e2.Kk} {p3:Nat ->e3.Kk} {p4:Nat ->e4.Kk} {p5:Nat ->e5.Kk} {p6:Nat ->e6.Kk} {x1:List α1} {x2:List α2} {x3:List α3} {x4:List α4} {x5:List α5} {x6:List α6} {x7:List α7} (s:Sp wm T h0 G h) (k1:Pk G (ow wm e1 a1 n1 c1 x1) G1) (k2:Pk G (Yf wm e2 a2 n2 c2 p2 x2) G2) (k3:Pk G (Yf wm e3 a3 n3 c3 p3 x3) G3) (k4:Pk G (Yf wm e4 a4 n4 c4 p4 x4) G4) (k5:Pk G (Yf wm e5 a5 n5 c5 p5 x5) G5) (k6:Pk G (Yf wm e6 a6 n6 c6 p6 x6) G6) (k7:Pk G (ow wm e7 a7 n7 c7 x7) G7):
 E7 x1.length x2.length x3.length x4.length x5.length x6.length x7.length n1 n2 n3 n4 n5 n6 n7:=by
 cases s.on k1;cases s.JF k2;cases s.JF k3;cases s.JF k4;cases s.JF k5;cases s.JF k6;cases s.on k7;exact .r
end
end Go.Xr
end
end
section
set_option maxRecDepth 100000
noncomputable section
namespace Go.Proofs.YtcnahmgekicbdaaGreat
section
structure ZV where
 at_:Int
 Xw:Int
 deriving DecidableEq,Inhabited
structure Zc where
 qG:Int
 Zh:(List ZV)
 deriving DecidableEq,Inhabited
structure Zv where
 kZ:Int
 kV:Int
 kX:Int
 n:Int
 deriving DecidableEq,Inhabited
structure Zd where
 kW:Int
 kV:Int
 kX:Int
 n:Int
 qX:(List Int)
 deriving DecidableEq,Inhabited
structure Zg where
 Zt:Int
 kG:(List Zd)
 deriving DecidableEq,Inhabited
structure Ze where
 qV:(List Int)
 qX:(List (List Int))
 qZ:(List (List Int))
 Zk:(List (List Int))
 Zr:(List (List Zd))
 kQ:(List Zg)
 kK:Int
 deriving DecidableEq,Inhabited
structure Z5 where
 s:Zc
 w:Ze
 kU:(List Zv)
 deriving DecidableEq,Inhabited
structure Z6 where
 Za:Ze
 qK:Zc
 kU:(List Zv)
 deriving DecidableEq,Inhabited
structure XA where
 act:Int
 a:Int
 b:Int
 deriving DecidableEq,Inhabited
def Zav (x y:Zv):Bool:= [x.kZ==y.kZ,x.kV==y.kV,x.kX==y.kX,x.n==y.n].all id
def ZBO:Option Bool:=some true
def ZpM (p0:List Int) (k:Int) (p2:List Int):Option (List Int):=bif Nat.ble p0.length 1000000 && (Nat.beq p2.length 1 && (decide (0 <=k) && decide (k <= (p0.length:Int)))) then some (p0.take k.toNat ++ p2 ++ p0.drop k.toNat) else none
end
section
open Go.Xr Go.Lf
def Zj:Um ZV where
 sz:=2
 pos:=by decide
 Kk:=Unit
 dflt:= ()
 sh:=fun _ x=>[.int .i64 x.at_,.int .i64 x.Xw]
 len:=fun _ _=>rfl
 one:=fun _ _=>rfl
 F:=fun _ _ _ _=>True
 mono:=fun _ x=>x
 up:=fun _ x=>x
def Zrb:Um Zc where
 sz:=2
 pos:=by decide
 Kk:= (Option Addr×Nat)
 dflt:= (none,0)
 sh:=fun p x=>[.int .i64 x.qG,.slice p.1 x.Zh.length p.2]
 len:=fun _ _=>rfl
 one:=fun _ _=>rfl
 F:=fun wm h p x=>Sl Zj wm h p.1 p.2 x.Zh
 mono:=fun f x=>x.mono f
 up:=fun f x=>x.up f
def Zw:Um Zv where
 sz:=4
 pos:=by decide
 Kk:=Unit
 dflt:= ()
 sh:=fun _ x=>[.int .i64 x.kZ,.int .i64 x.kV,.int .i64 x.kX,.int .i64 x.n]
 len:=fun _ _=>rfl
 one:=fun _ _=>rfl
 F:=fun _ _ _ _=>True
 mono:=fun _ x=>x
 up:=fun _ x=>x
def Zi:Um Zd where
 sz:=5
 pos:=by decide
 Kk:= (Option Addr×Nat)
 dflt:= (none,0)
 sh:=fun p x=>[.int .i64 x.kW,.int .i64 x.kV,.int .i64 x.kX,.int .i64 x.n,.slice p.1 x.qX.length p.2]
 len:=fun _ _=>rfl
 one:=fun _ _=>rfl
 F:=fun wm h p x=>Sl (Zl .i64) wm h p.1 p.2 x.qX
 mono:=fun f x=>x.mono f
 up:=fun f x=>x.up f
def XT:Um Zg where
 sz:=2
 pos:=by decide
 Kk:= (Option Addr×Nat)
 dflt:= (none,0)
 sh:=fun p x=>[.int .i64 x.Zt,.slice p.1 x.kG.length p.2]
 len:=fun _ _=>rfl
 one:=fun _ _=>rfl
 F:=fun wm h p x=>Sl Zi wm h p.1 p.2 x.kG
 mono:=fun f x=>x.mono f
 up:=fun f x=>x.up f
def WB:Um XA where
 sz:=3
 pos:=by decide
 Kk:=Unit
 dflt:= ()
 sh:=fun _ x=>[.int .i64 x.act,.int .i64 x.a,.int .i64 x.b]
 len:=fun _ _=>rfl
 one:=fun _ _=>rfl
 F:=fun _ _ _ _=>True
 mono:=fun _ x=>x
 up:=fun _ x=>x
def Zz:Ne Zg where
 sz:=2
 pos:=by decide
 Kk:=Option Addr×Nat×Nat
 dflt:= (none,0,0)
 sh:=fun p x=>[.int .i64 x.Zt,.slice p.1 p.2.1 p.2.2]
 len:=fun _ _=>rfl
 one:=fun _ _=>rfl
 «Xh»:=fun wm p x=>[ow wm Zi p.1 p.2.1 p.2.2 x.kG]
theorem KL {wm:Nat}:(∀ h:H,Yn (Zz.Xh wm (none,0,0) (default:Zg)) h)/\∀ i,¬ X8 (Zz.Xh wm (none,0,0) (default:Zg)) i:=Zij (e:=Zi)
theorem _root_.Go.Xr.Sp.Ug {wm:Nat} {h h0:H} {T:Nat ->Prop} {G Gr:List (Ast wm)} {a a1:Option Addr} {nn c n1 c1:Nat} {ps:Nat ->Option Addr×Nat×Nat} {xs:List Zg} {k:Int} {x:Zg} (s:Sp wm T h0 G h) (pk:Pk G (Yf wm Zz a nn c ps xs) Gr) (hk:ZL xs k=some x) (hp:ps k.toNat= (a1,n1,c1)):Sp wm T h0 (nsh wm Zz a nn c ps xs k.toNat [.int .i64 x.Zt,.slice a1 n1 c1]::ow wm Zi a1 n1 c1 x.kG::Gr) h:=by
 have:=s.take pk hk;rw [hp] at this;exact this
theorem _root_.Go.Xr.Sp.Ui {wm:Nat} {h h0:H} {T:Nat ->Prop} {G Gr:List (Ast wm)} {a a1:Option Addr} {nn c n1 c1:Nat} {ps:Nat ->Option Addr×Nat×Nat} {xs:List Zg} {k:Int} {x0:Zg} {v0:Int} {y:List Zd} (s:Sp wm T h0 G h) (sel:Sel G [nsh wm Zz a nn c ps xs k.toNat [.int .i64 v0,.slice a1 n1 c1],ow wm Zi a1 n1 c1 y] Gr) (hk:ZL xs k=some x0):∃ ps':Nat ->Option Addr×Nat×Nat,ps' k.toNat= (a1,n1,c1)/\Sp wm T h0 (Yf wm Zz a nn c ps' (ZE xs k ⟨v0,y⟩)::Gr) h:=
 ⟨_,upd_same ps k.toNat (a1,n1,c1),Sp.fill (e:=Zz) (a1,n1,c1) ⟨v0,y⟩ s hk sel rfl⟩
theorem _root_.Go.Xr.Sp.WH {wm:Nat} {h h0:H} {T:Nat ->Prop} {G Gr:List (Ast wm)} {a a1:Option Addr} {nn c n1 c1:Nat} {ps:Nat ->Option Addr×Nat×Nat} {xs:List Zg} {k:Int} {x:Zg} (s:Sp wm T h0 G h) (pk:Pk G (Yf wm Zz a nn c ps xs) Gr) (hk:ZL xs k=some x) (hp:ps k.toNat= (a1,n1,c1)):n1=x.kG.length/\Src Zi wm h a1 c1 x.kG/\Sl Zi h.size h a1 c1 x.kG:=by
 have:= (s.inN pk hk hp).get (A:=ow wm Zi a1 n1 c1 x.kG) .z;exact⟨this.1,this.2.src,this.2.src.sl s.hw⟩
theorem _root_.Go.Xr.Sp.WJ {wm:Nat} {h h0:H} {T:Nat ->Prop} {G Gr:List (Ast wm)} {a:Option Addr} {nn c:Nat} {ps:Nat ->Option Addr×Nat×Nat} {xs:List Zg} {k:Int} {x:Zg} (s:Sp wm T h0 G h) (pk:Pk G (Yf wm Zz a nn c ps xs) Gr) (hk:ZL xs k=some x):∃ b o a1 n1 c1,ps k.toNat= (a1,n1,c1)/\a=some ⟨b,o,none⟩/\At h b (o + k.toNat * 2) [.int .i64 x.Zt,.slice a1 n1 c1]:=by
 obtain⟨b,o,⟨a1,n1,c1⟩,h1,h2,h3⟩:=s.atN pk hk;exact⟨b,o,a1,n1,c1,h1,h2,h3⟩
theorem Zy:NeR Zz XT:= ⟨rfl,fun{wm h p x} hw hh=>by
 obtain⟨h1,h2⟩:=hh.get (A:=ow wm Zi p.1 p.2.1 p.2.2 x.kG) .z;exact⟨(p.1,p.2.2),by show([.int .i64 x.Zt,.slice p.1 p.2.1 p.2.2]:List Value)= [.int .i64 x.Zt,.slice p.1 x.kG.length p.2.2];rw [h1],h2.src.sl hw⟩⟩
theorem ZOr:XX.P.underlying 3=some (.int .i64):=Kq0
theorem ZVs:XX.P.underlying 4=some .bool:=Kq0
theorem ZOt:XX.P.underlying 22=some (.slice 66):=Kq0
theorem ZOs:XX.P.underlying 25=some (.slice 74):=Kq0
theorem Zs4:XX.P.underlying 28=some (.slice 71):=Kq0
theorem JB:XX.P.underlying 29=some (.slice 35):=Kq0
theorem Zdx:XX.P.underlying 30=some (.slice 69):=Kq0
theorem Zej:XX.P.underlying 31=some (.slice 99):=Kq0
theorem Zxv:XX.P.underlying 34=some (.slice 64):=Kq0
theorem XK:XX.P.underlying 35=some (.slice 3):=Kq0
theorem ZOq:XX.P.underlying 60=some (.slice 4):=Kq0
theorem QZ:XX.P.underlying 69=some (.slice 121):=Kq0
theorem Zxw:XX.P.underlying 132=some (.int .u64):=Kq0
theorem ZaB:XX.P.underlying 138=some (.map 119 124):=Kq0
theorem Kj:XE XX.P 3=some false:=Kq0
theorem ZMC:XE XX.P 4=some false:=Kq0
theorem ZCs:XE XX.P 22=some false:=Kq0
theorem Zlx:XE XX.P 24=some true:=Kq0
theorem ZCr:XE XX.P 28=some false:=Kq0
theorem Zai:XE XX.P 29=some false:=Kq0
theorem Zjl:XE XX.P 30=some false:=Kq0
theorem Zuw:XE XX.P 31=some false:=Kq0
theorem Zuv:XE XX.P 33=some true:=Kq0
theorem ZCq:XE XX.P 34=some false:=Kq0
theorem ZdH:XE XX.P 35=some false:=Kq0
theorem ZqC:XE XX.P 36=some false:=Kq0
theorem ZUg:XE XX.P 62=some false:=Kq0
theorem ZCp:XE XX.P 64=some true:=Kq0
theorem Zlw:XE XX.P 66=some true:=Kq0
theorem ZgK:XE XX.P 69=some false:=Kq0
theorem ZHT:XE XX.P 71=some false:=Kq0
theorem ZUf:XE XX.P 72=some false:=Kq0
theorem ZCo:XE XX.P 74=some true:=Kq0
theorem ZHS:XE XX.P 87=some false:=Kq0
theorem ZHR:XE XX.P 99=some true:=Kq0
theorem ZMF:XE XX.P 106=some true:=Kq0
theorem ZME:XE XX.P 112=some false:=Kq0
theorem ZMD:XE XX.P 119=some false:=Kq0
theorem ZbS:XE XX.P 121=some true:=Kq0
theorem XM:Xi XX.P 3=some 1:=Kq0
theorem ZOz:Xi XX.P 4=some 1:=Kq0
theorem ZfG:Xi XX.P 24=some 2:=Kq0
theorem ZIq:Xi XX.P 28=some 1:=Kq0
theorem Zq7:Xi XX.P 29=some 1:=Kq0
theorem ZIp:Xi XX.P 30=some 1:=Kq0
theorem ZIo:Xi XX.P 31=some 1:=Kq0
theorem ZfF:Xi XX.P 33=some 7:=Kq0
theorem ZIn:Xi XX.P 34=some 1:=Kq0
theorem XH:Xi XX.P 35=some 1:=Kq0
theorem ZIm:Xi XX.P 36=some 1:=Kq0
theorem ZIl:Xi XX.P 62=some 1:=Kq0
theorem ZhY:Xi XX.P 64=some 4:=Kq0
theorem ZfE:Xi XX.P 66=some 2:=Kq0
theorem JM:Xi XX.P 69=some 1:=Kq0
theorem Zch:Xi XX.P 71=some 1:=Kq0
theorem Zq6:Xi XX.P 74=some 3:=Kq0
theorem Zaa:Xi XX.P 99=some 2:=Kq0
theorem ZDJ:Xi XX.P 106=some 3:=Kq0
theorem ZDI:Xi XX.P 112=some 1:=Kq0
theorem XI:Xi XX.P 121=some 5:=Kq0
theorem ZmB:Ya XX.P 24 0 0:=Ya.of Kq0
theorem ZET:Ya XX.P 24 1 1:=Ya.of Kq0
theorem ZES:Ya XX.P 33 0 0:=Ya.of Kq0
theorem ZmA:Ya XX.P 33 1 1:=Ya.of Kq0
theorem Ze6:Ya XX.P 33 2 2:=Ya.of Kq0
theorem ZER:Ya XX.P 33 3 3:=Ya.of Kq0
theorem Zt5:Ya XX.P 33 4 4:=Ya.of Kq0
theorem Zt4:Ya XX.P 33 5 5:=Ya.of Kq0
theorem ZEQ:Ya XX.P 33 6 6:=Ya.of Kq0
theorem ZEP:Ya XX.P 64 0 0:=Ya.of Kq0
theorem ZEO:Ya XX.P 64 1 1:=Ya.of Kq0
theorem ZEN:Ya XX.P 64 2 2:=Ya.of Kq0
theorem ZEM:Ya XX.P 64 3 3:=Ya.of Kq0
theorem ZEL:Ya XX.P 66 0 0:=Ya.of Kq0
theorem ZEK:Ya XX.P 66 1 1:=Ya.of Kq0
theorem ZEJ:Ya XX.P 74 0 0:=Ya.of Kq0
theorem ZEI:Ya XX.P 74 1 1:=Ya.of Kq0
theorem ZEH:Ya XX.P 74 2 2:=Ya.of Kq0
theorem Zmz:Ya XX.P 91 0 0:=Ya.of Kq0
theorem Zmy:Ya XX.P 91 1 7:=Ya.of Kq0
theorem ZEG:Ya XX.P 91 2 9:=Ya.of Kq0
theorem Zt3:Ya XX.P 96 0 0:=Ya.of Kq0
theorem ZbL:Ya XX.P 96 1 2:=Ya.of Kq0
theorem ZEF:Ya XX.P 96 2 9:=Ya.of Kq0
theorem Zt2:Ya XX.P 99 0 0:=Ya.of Kq0
theorem Ze5:Ya XX.P 99 1 1:=Ya.of Kq0
theorem ZBd:Ya XX.P 106 0 0:=Ya.of Kq0
theorem ZBc:Ya XX.P 106 1 2:=Ya.of Kq0
theorem ZBb:Ya XX.P 121 0 0:=Ya.of Kq0
theorem ZBa:Ya XX.P 121 1 1:=Ya.of Kq0
theorem ZpF:Ya XX.P 121 2 2:=Ya.of Kq0
theorem ZA9:Ya XX.P 121 3 3:=Ya.of Kq0
theorem ZpE:Ya XX.P 121 4 4:=Ya.of Kq0
theorem KC:XZ XX.P 3=some (.int .i64 0):=Kq0
theorem ZNk:XZ XX.P 4=some (.bool false):=Kq0
theorem Zw1:XZ XX.P 33=some (.agg #[.slice none 0 0,.slice none 0 0,.slice none 0 0,.slice none 0 0,.slice none 0 0,.slice none 0 0,.int .i64 0]):=Kq0
theorem Zbk:XZ XX.P 35=some (.slice none 0 0):=Kq0
theorem ZH4:XZ XX.P 36=some (.int .i64 0):=Kq0
theorem ZlD:XZ XX.P 64=some (.agg #[.int .i64 0,.int .i64 0,.int .i64 0,.int .i64 0]):=Kq0
theorem ZH3:XZ XX.P 66=some (.agg #[.int .i64 0,.int .i64 0]):=Kq0
theorem ZH2:XZ XX.P 67=some (.agg #[.int .i64 0,.int .i64 0]):=Kq0
theorem ZqR:XZ XX.P 69=some (.slice none 0 0):=Kq0
theorem ZqQ:XZ XX.P 71=some (.int .i64 0):=Kq0
theorem ZH1:XZ XX.P 74=some (.agg #[.int .i64 0,.int .i64 0,.int .i64 0]):=Kq0
theorem Zw0:XZ XX.P 91=some (.agg #[.slice none 0 0,.slice none 0 0,.slice none 0 0,.slice none 0 0,.slice none 0 0,.slice none 0 0,.int .i64 0,.int .i64 0,.slice none 0 0,.slice none 0 0]):=Kq0
theorem ZwZ:XZ XX.P 96=some (.agg #[.int .i64 0,.slice none 0 0,.slice none 0 0,.slice none 0 0,.slice none 0 0,.slice none 0 0,.slice none 0 0,.slice none 0 0,.int .i64 0,.slice none 0 0]):=Kq0
theorem ZlC:XZ XX.P 99=some (.agg #[.int .i64 0,.slice none 0 0]):=Kq0
theorem ZC9:XZ XX.P 106=some (.agg #[.int .i64 0,.slice none 0 0,.slice none 0 0]):=Kq0
theorem ZC8:XZ XX.P 112=some (.nilFunc):=Kq0
theorem WN:XZ XX.P 121=some (.agg #[.int .i64 0,.int .i64 0,.int .i64 0,.int .i64 0,.slice none 0 0]):=Kq0
theorem Zc4:XZ XX.P 124=some (.nilFunc):=Kq0
theorem ZHN:Zdp XX.P 33 [.slice none 0 0,.slice none 0 0,.slice none 0 0,.slice none 0 0,.slice none 0 0,.slice none 0 0,.int .i64 0] [(0,1),(1,1),(2,1),(3,1),(4,1),(5,1),(6,1)]:= ⟨_,_,Zw1,rfl,Tryz.underlying33,by kernel_rfl⟩
theorem ZHM:Zdp XX.P 64 [.int .i64 0,.int .i64 0,.int .i64 0,.int .i64 0] [(0,1),(1,1),(2,1),(3,1)]:= ⟨_,_,ZlD,rfl,Tryz.underlying64,by kernel_rfl⟩
theorem ZTS:Zdp XX.P 91 [.slice none 0 0,.slice none 0 0,.slice none 0 0,.slice none 0 0,.slice none 0 0,.slice none 0 0,.int .i64 0,.int .i64 0,.slice none 0 0,.slice none 0 0] [(0,7),(7,2),(9,1)]:= ⟨_,_,Zw0,rfl,Tryz.underlying91,by kernel_rfl⟩
theorem ZTR:Zdp XX.P 96 [.int .i64 0,.slice none 0 0,.slice none 0 0,.slice none 0 0,.slice none 0 0,.slice none 0 0,.slice none 0 0,.slice none 0 0,.int .i64 0,.slice none 0 0] [(0,2),(2,7),(9,1)]:= ⟨_,_,ZwZ,rfl,Tryz.underlying96,by kernel_rfl⟩
theorem ZaJ:Zdp XX.P 121 [.int .i64 0,.int .i64 0,.int .i64 0,.int .i64 0,.slice none 0 0] [(0,1),(1,1),(2,1),(3,1),(4,1)]:= ⟨_,_,WN,rfl,Tryz.underlying121,by kernel_rfl⟩
theorem Zqx:ZdI XX.P #[28,28] 1 8:= ⟨71,.int .i64 0,by kernel_rfl⟩
theorem Zbg:ZdI XX.P #[29,29] 1 24:= ⟨35,.slice none 0 0,by kernel_rfl⟩
theorem Zqw:ZdI XX.P #[34,34] 4 32:= ⟨64,.agg #[.int .i64 0,.int .i64 0,.int .i64 0,.int .i64 0],by kernel_rfl⟩
theorem X7:ZdI XX.P #[35,35] 1 8:= ⟨3,.int .i64 0,by kernel_rfl⟩
theorem UF:ZdI XX.P #[69,69] 5 56:= ⟨121,.agg #[.int .i64 0,.int .i64 0,.int .i64 0,.int .i64 0,.slice none 0 0],by kernel_rfl⟩
theorem ZTa (x y:Zv):ZUM XX.P 64 (Zw.sh () x) (Zw.sh () y) (Zav x y):=
 ⟨by kernel_rfl,ZvW (d:=9999) (bs:= [x.kZ==y.kZ,x.kV==y.kV,x.kX==y.kX,x.n==y.n]) Tryz.underlying64 Kq0 ⟨⟨by decide,_,_,UW Kq0 rfl,UW Kq0 rfl,eq_int Kq0⟩,⟨by decide,_,_,UW Kq0 rfl,UW Kq0 rfl,eq_int Kq0⟩,⟨by decide,_,_,UW Kq0 rfl,UW Kq0 rfl,eq_int Kq0⟩,⟨by decide,_,_,UW Kq0 rfl,UW Kq0 rfl,eq_int Kq0⟩,trivial⟩⟩
theorem ZaD:Zju XX.P 119 (Value.int .i64):=Zju.int Kq0
theorem ZHL:ZaI XX.P 3=some 8:=Kq0
theorem ZB8:ZaI XX.P 69=some 24:=Kq0
theorem ZB7:ZaI XX.P 99=some 32:=Kq0
theorem ZR7:(XX.fns.get 14).isSome=true:=Kq0
theorem ZAn:(XX.fns.get 15).isSome=true:=Kq0
theorem ZR6:(XX.fns.get 16).isSome=true:=Kq0
theorem ZR5:(XX.fns.get 17).isSome=true:=Kq0
theorem ZR4:(XX.fns.get 18).isSome=true:=Kq0
theorem ZR3:(XX.fns.get 19).isSome=true:=Kq0
theorem ZHo:(XX.fns.get 20).isSome=true:=Kq0
theorem ZR2:(XX.fns.get 21).isSome=true:=Kq0
theorem Zpp:(XX.fns.get 22).isSome=true:=Kq0
theorem ZHn:(XX.fns.get 33).isSome=true:=Kq0
theorem ZR1:(XX.fns.get 34).isSome=true:=Kq0
theorem ZHm:(XX.fns.get 38).isSome=true:=Kq0
theorem ZR0:(XX.fns.get 41).isSome=true:=Kq0
theorem ZRZ:(XX.fns.get 42).isSome=true:=Kq0
theorem ZRY:(XX.fns.get 43).isSome=true:=Kq0
theorem ZRX:(XX.fns.get 44).isSome=true:=Kq0
theorem ZHl:(XX.fns.get 45).isSome=true:=Kq0
theorem ZRW:(XX.fns.get 48).isSome=true:=Kq0
theorem ZRV:(XX.fns.get 49).isSome=true:=Kq0
theorem ZHk:(XX.fns.get 50).isSome=true:=Kq0
theorem ZAm:(XX.fns.get 54).isSome=true:=Kq0
theorem ZtU:(XX.fns.get 55).isSome=true:=Kq0
theorem ZHj:(XX.fns.get 57).isSome=true:=Kq0
theorem ZRU:(XX.fns.get 60).isSome=true:=Kq0
theorem ZtT:(XX.fns.get 61).isSome=true:=Kq0
theorem Zk4:(XX.fns.get 62).isSome=true:=Kq0
theorem UE:(XX.fns.get 63).isSome=true:=Kq0
theorem ZHi:(XX.fns.get 64).isSome=true:=Kq0
theorem Zpo:(XX.fns.get 65).isSome=true:=Kq0
theorem ZHh:(XX.fns.get 66).isSome=true:=Kq0
theorem ZAl:(XX.fns.get 67).isSome=true:=Kq0
theorem Zk3:(XX.fns.get 69).isSome=true:=Kq0
theorem ZHg:(XX.fns.get 70).isSome=true:=Kq0
theorem ZHf:(XX.fns.get 71).isSome=true:=Kq0
theorem ZHe:(XX.fns.get 72).isSome=true:=Kq0
theorem ZAk:(XX.fns.get 73).isSome=true:=Kq0
theorem ZRT:(XX.fns.get 74).isSome=true:=Kq0
theorem ZRS:(XX.fns.get 75).isSome=true:=Kq0
theorem ZHd:(XX.fns.get 76).isSome=true:=Kq0
theorem ZRR:(XX.fns.get 77).isSome=true:=Kq0
theorem ZHc:(XX.fns.get 83).isSome=true:=Kq0
theorem ZtS:(XX.fns.get 84).isSome=true:=Kq0
theorem ZHb:(XX.fns.get 85).isSome=true:=Kq0
theorem Zpn:(XX.fns.get 89).isSome=true:=Kq0
theorem ZHa:(XX.fns.get 90).isSome=true:=Kq0
theorem ZG9:(XX.fns.get 91).isSome=true:=Kq0
theorem Zpm:(XX.fns.get 92).isSome=true:=Kq0
theorem Zpl:(XX.fns.get 93).isSome=true:=Kq0
theorem UD:(XX.fns.get 94).isSome=true:=Kq0
theorem Zpk:(XX.fns.get 95).isSome=true:=Kq0
theorem ZG8:(XX.fns.get 96).isSome=true:=Kq0
theorem ZG7:(XX.fns.get 97).isSome=true:=Kq0
theorem ZAj:(XX.fns.get 98).isSome=true:=Kq0
theorem ZAi:(XX.fns.get 99).isSome=true:=Kq0
theorem ZKq:(XX.fns.get 100).isSome=true:=Kq0
theorem ZKp:(XX.fns.get 101).isSome=true:=Kq0
theorem ZKo:(XX.fns.get 102).isSome=true:=Kq0
theorem ZKn:(XX.fns.get 103).isSome=true:=Kq0
theorem ZrY:(XX.fns.get 104).isSome=true:=Kq0
theorem ZKm:(XX.fns.get 105).isSome=true:=Kq0
theorem ZKl:(XX.fns.get 106).isSome=true:=Kq0
theorem ZKk:(XX.fns.get 107).isSome=true:=Kq0
theorem ZKj:(XX.fns.get 108).isSome=true:=Kq0
theorem Zml:(XX.fns.get 109).isSome=true:=Kq0
theorem ZKi:(XX.fns.get 119).isSome=true:=Kq0
theorem ZKh:(XX.fns.get 124).isSome=true:=Kq0
theorem ZrX:(XX.fns.get 125).isSome=true:=Kq0
theorem ZAu:(XX.fns.get 126).isSome=true:=Kq0
theorem ZKg:(XX.fns.get 127).isSome=true:=Kq0
theorem ZAt:(XX.fns.get 128).isSome=true:=Kq0
theorem ZAs:(XX.fns.get 136).isSome=true:=Kq0
theorem ZAr:(XX.fns.get 137).isSome=true:=Kq0
theorem ZAq:(XX.fns.get 138).isSome=true:=Kq0
theorem ZAp:(XX.fns.get 139).isSome=true:=Kq0
theorem ZAo:(XX.fns.get 142).isSome=true:=Kq0
end
end Go.Proofs.YtcnahmgekicbdaaGreat
end
end
section
noncomputable section
namespace Go.Xr
open Go.Lf
class ZbV (P:Program) (t:TypeId):Prop where
 out:XE P t=some false
class ZnU (P:Program) (t:TypeId):Prop where
 out:XE P t=some true
class SzF (P:Program) (t:TypeId) (n:outParam Nat):Prop where
 out:Xi P t=some n
class Un (P:Program) (t:TypeId) (f:Nat) (o:outParam Nat):Prop where
 out:Ya P t f o
class Zg4 (P:Program) (t:TypeId) (e:outParam TypeId):Prop where
 out:P.underlying t=some (.slice e)
class ZM0 (P:Program) (t:TypeId):Prop where
 out:P.underlying t=some .bool
class ZbT (P:Program) (t:TypeId) (v:outParam Value):Prop where
 out:XZ P t=some v
theorem ia {v:Value} (h:Wh v=false):Wh v=false:=h
theorem Z0X {fr:Fr} {t:Nat} {c:Bool} {v:Value} (h:fr.at t=cond c v undef) (ha:Wh v=false) (hc:c=true):Xc fr (.tmp t)=some v:=QW h ha hc
section
variable {X:Ctx} {h:H} {fr:Fr} {ty:TypeId} {p':String} {af:Array Edge} {g:Option (Nat×Bool)} {d:Option Tmp} {wm:Nat} {T:Nat ->Prop} {h0:H} {G Gr:List (Ast wm)}
theorem ZTY {x:Operand} {t:TypeId} {f off b o:Nat} [hf:Un X.P t f off] (hx:Xc fr x=some (.pointer (some ⟨b,o,none⟩))):Qs X h (Xc fr) ⟨d,.fieldAddr t x f,ty,p',af,g⟩=some (.val (.pointer (some ⟨b,o + off,none⟩)),.none):=Qj hf.out hx
theorem Z11 {x:Operand} {t:TypeId} {b oo:Nat} {vs:List Value} {v:Value} [ht:ZbV X.P t] (hx:Xc fr x=some (.pointer (some ⟨b,oo,none⟩))) (hS:Sp wm T h0 G h) (pp:Pk G (bx wm b vs) Gr) (hv:vs[oo]? =some v):
 Qs X h (Xc fr) ⟨d,.load t x,ty,p',af,g⟩=some (.val v,.none):=Xd ht.out hx (hS.QT pp) (Nat.zero_add _).symm hv
theorem ZTW {x:Operand} {t:TypeId} {b oo sz:Nat} {vs ws:List Value} [ht:ZnU X.P t] [hs:SzF X.P t sz] (hx:Xc fr x=some (.pointer (some ⟨b,oo,none⟩))) (hS:Sp wm T h0 G h) (pp:Pk G (bx wm b vs) Gr) (hj:Nat.ble (oo + sz) vs.length=true) (hv:(vs.drop oo).take sz=ws):
 Qs X h (Xc fr) ⟨d,.load t x,ty,p',af,g⟩=some (.val (.agg ws.toArray),.none):=QH ht.out hs.out hx (hS.QT pp) (Nat.zero_add _).symm hj hv
theorem ZTZ {dd:Tmp} {x:Operand} {t:TypeId} {v:Value} {vs:List Value} (hx:Xc fr x=some v) (hS:Sp wm T h0 G h) (hv:v.cells.toList=vs):
 HN X wm ⟨some dd,.box t x,ty,p',af,g⟩ fr h (fun v h'=>∃ b,h.size=b/\v= .pointer (some ⟨b,0,none⟩)/\Sp wm T h0 (bx wm b vs::G) h'):=ZOE hS hx hv
theorem ZT0 {dd:Tmp} {t:TypeId} {v:Value} {vs:List Value} [hz:ZbT X.P t v] (hS:Sp wm T h0 G h) (hv:v.cells.toList=vs):
 HN X wm ⟨some dd,.alloc t,ty,p',af,g⟩ fr h (fun v h'=>∃ b,h.size=b/\v= .pointer (some ⟨b,0,none⟩)/\Sp wm T h0 (bx wm b vs::G) h'):=ZxO hS hz.out hv
theorem Z10 {x y:Operand} {t:TypeId} {b o sz:Nat} {cs cs' vs:List Value} {v:Value} [hs:SzF X.P t sz] (hx:Xc fr x=some (.pointer (some ⟨b,o,none⟩))) (hS:Sp wm T h0 G h) (pk:Pk G (bx wm b cs) Gr) (hy:Xc fr y=some v)
 (hvs:v.cells.toList=vs) (hn:Nat.beq vs.length sz=true) (hl:Nat.ble (o + sz) cs.length=true) (hc:vs.all Value.oneCell'=true) (hv:splice cs o vs=cs'):
 HU X wm ⟨none,.store t x y,ty,p',af,g⟩ fr h (fun i=>i=b) (fun h'=>Sp wm T h0 (bx wm b cs'::Gr) h'):=Zq8 hS pk hs.out hx hy hvs hn hl hc hv
theorem ZTX {α:Type} {xs:List α} {v:α} {x y:Operand} {t e:TypeId} {sz b o nn c dd:Nat} {a:Option Addr} {k:Int} [hu:Zg4 X.P t e] [hs:SzF X.P e sz] (hx:Xc fr x=some (.slice a nn c)) (hy:Xc fr y=some (.int .i64 k)) (hn:nn=xs.length) (ha:a=some ⟨b,o,none⟩) (hk:ZL xs k=some v):
 Qs X h (Xc fr) ⟨some dd,.indexAddr t x y,ty,p',af,g⟩=some (.val (.pointer (some ⟨b,o + k.toNat * sz,none⟩)),.none):=YL hu.out hs.out hx hy hn ha hk
theorem ZTV {x:Operand} {t:TypeId} {b o oo j:Nat} {vs:List Value} {v:Value} [ht:ZbV X.P t] (hx:Xc fr x=some (.pointer (some ⟨b,oo,none⟩))) (ha:At h b o vs) (ho:oo=o + j) (hv:vs[j]? =some v):
 Qs X h (Xc fr) ⟨d,.load t x,ty,p',af,g⟩=some (.val v,.none):=Xd ht.out hx ha ho hv
theorem ZTU {x:Operand} {t e':TypeId} {a:Option Addr} {mm cc dd:Nat} [hu:Zg4 X.P t e'] (hx:Xc fr x=some (.slice a mm cc)):
 Qs X h (Xc fr) ⟨some dd,.call {callee:= .builtin .len,args:=#[x],argTypes:=#[t]},ty,p',af,g⟩=some (.val (.int .i64 (mm:Int)),.none):=UG hu.out hx rfl
end
section
variable {X:Ctx} {n wm:Nat} {rd:Option Nat} {ops:Array Oper} {l:List Oper} {fr:Fr} {ds:List Deferred} {h:H} {ty:TypeId} {p:String} {af:Array Edge} {g:Option (Nat×Bool)} {sf:ST} {m:Nat}
theorem WX.w2 {Q:Fr ->H ->Prop} {d:Nat} {op:Op} {v:Value} (hg:YN ops ⟨some d,op,ty,p,af,g⟩ fr) (hd:Nat.blt d n=true) (hM:okM ops sf m ⟨some d,op,ty,p,af,g⟩=true) (ha:Qs X h (Xc fr) ⟨some d,op,ty,p,af,g⟩=some (.val v,.none)) (k:WX X n wm rd ops sf (m + 1) h l (Tr.set fr d v) Q):
 WX X n wm rd ops sf m h (⟨some d,op,ty,p,af,g⟩::l) fr Q:=WX.w hg hd ha k hM
theorem WX.gv2 {Q:Fr ->H ->Prop} {d:Nat} {op:Op} {c:Bool} {v:Value} (hg:Zf ops ⟨some d,op,ty,p,af,g⟩ fr c) (hd:Nat.blt d n=true) (hM:okM ops sf m ⟨some d,op,ty,p,af,g⟩=true) (ha:c=true ->Qs X h (Xc fr) ⟨some d,op,ty,p,af,g⟩=some (.val v,.none)) (k:WX X n wm rd ops sf (m + 1) h l (Tr.set fr d (cond c v undef)) Q):
 WX X n wm rd ops sf m h (⟨some d,op,ty,p,af,g⟩::l) fr Q:=WX.gv hg hd ha k hM
end
structure Kp (q:Prop):Prop where
 out:q
theorem E0 {p:Prop}(h:p:=by(focus (repeat (first | with_reducible exact fh | ((with_reducible apply ZW);exact rfl) | ((with_reducible apply XB);exact rfl) | ((with_reducible apply YB);exact rfl) | ((with_reducible apply Zq);exact rfl) | with_reducible assumption));first|done|fail)):p:=h
theorem lk {p:Prop} (h:p:=by(first | exact evC rfl | (apply Yc;exact E0;(first | exact ia rfl | assumption)) | (apply Z0X;exact E0;(first | exact ia rfl | assumption);assumption) | fail)):p:=h
theorem pk {p:Prop} (h:p:=by
 (first | exact k0 | exact k1 | exact k2 | exact k3 | exact k4 | exact k5 | exact k6 | exact k7 | (repeat (first | exact k7 | apply Pk.s)))
 done):p:=h
theorem ce {p:Prop} (h:p:=by
 (focus (first | (simp only [Zv2,Zsy,Zqf,Zv0,Zv1,Zv3,Znn,cells_func,Zki,Zjd,Zqg];exact rfl) | exact rfl))
 done):p:=h
theorem gi {p:Prop} (h:p:=by(first | (apply Zf.yes rfl rfl rfl;exact E0) | (apply Zf.no rfl rfl rfl;exact E0) | (apply Zf.ZDd rfl rfl rfl;exact E0) | (apply Zf.WG rfl rfl rfl;exact E0) | fail)):p:=h
section
variable {X:Ctx} {n wm:Nat} {rd:Option Nat} {Q:XX ->Fs ->Prop}
theorem cn {c:Operand} {a b:Code} {t:Bool} {fr:Fr} {ds:List Deferred} {h:H} {α:Type} {x y r:α} (hL:(bif t then x else y)=r) (h1:t=true ->x=r ->WC X n wm rd a ⟨fr,ds,h,none⟩ Q) (h2:t=false ->y=r ->WC X n wm rd b ⟨fr,ds,h,none⟩ Q) (hc:Xc fr c=some (.bool t):=by exact lk):WC X n wm rd (.cond c a b) ⟨fr,ds,h,none⟩ Q:=
 WC.ZTt hc (fun e=>h1 e (Jl e hL)) (fun e=>h2 e (Jm e hL))
theorem rt {fn:Func} {fr:Fr} {h h0:H} {T:Nat ->Prop} {G G':List (Ast wm)} {wr:Option Nat} {t:Tmp} {β:Type} {x r:β} {g:β ->Value} (hL:some x=some r) (hT:T=X8 G) (hS:Sp wm T h0 G' h) (hr:fn.results.toList= [.tmp t]:=by exact rfl) (hv:Xc fr (.tmp t)=some (g x):=by exact lk):
 Z8 X fn (fun e h'=>∃ v,e= .ret v/\CP (fun v Gb=>v=g r/\Gb= []) G h0 v h') .ret ⟨fr,[],h,wr⟩:=by
 cases hL;exact Z8.UM hr (YA hv Zu) ⟨_,⟨rfl,rfl⟩,hT ▸ hS.only .n⟩
theorem bg {f:FuncId} {fn:Func} {c:Code} {args:List Value} {n:Nat} {K:Value ->List (Ast wm) ->Prop} {G:List (Ast wm)} {h:H} {fr:Fr} (hnt:fn.ntmps=n) (Yb:wm <=h.size) (hO:Yn G h)
 (k:∀ T,T=X8 (wm:=wm) G ->Sp wm T h G h ->WC X n wm none c ⟨fr,[],h,none⟩ (Z8 X fn (fun e h'=>∃ v,e= .ret v/\CP K G h v h'))) (hf:X.fns.get f=some fn:=by kernel_rfl) (hb:fn.body=some c:=by exact rfl) (hn:args.length <=n:=by simp)
 (hfr:QV args 0 .nil=fr:=by(simp only [Yl,Yr,Nat.reduceAdd];exact rfl)):WR X f args.toArray wm h (CP K G h):=by
 subst hfr;exact WF.begin hf hb hnt hn (k _ rfl (Sp.start Yb hO))
end
theorem lks {p:Prop} (h:p:=by
 repeat (first | exact Zm | (apply Zb;(focus exact lk;done)))
 done):p:=h
theorem Qm {p:Prop} (h:p:=by
 repeat (first | with_reducible exact fh | ((with_reducible apply ZW);exact rfl) | ((with_reducible apply XB);exact rfl) | ((with_reducible apply YB);exact rfl) | ((with_reducible apply Zq);exact rfl) | with_reducible assumption | refine⟨?_,?_⟩)
 done):p:=h
theorem r1 {p q:Prop} (k:q) (h:Kp q ->p:=by
 intro k
 first
 | refine WO.nil ?_
 | refine Zg5.XC ?_
 | refine WC.seq ?_
 | refine WC.region ?_
 | ((first | apply WO.w gN rfl | (apply WO.gv;exact gi;rfl;intro hg) | (apply WX.w2 gN;rfl;rfl) | (apply WX.gv2;exact gi;rfl;rfl;intro hg));(focus (first
   | ((with_reducible apply XP);exact lk)
   | ((with_reducible apply Z11);exact lk;assumption;exact pk;rfl)
   | ((with_reducible apply ZTY);exact lk)
   | ((with_reducible apply JW);exact lk)
   | ((with_reducible apply JX);exact lk;exact lk;(first | with_reducible exact Zgu | with_reducible exact ZqF | with_reducible exact Zfq | with_reducible exact ZCv | with_reducible exact Zwr | with_reducible exact Zfr | with_reducible exact ZCy | with_reducible exact ZCx | with_reducible exact Zgt | with_reducible exact Zwv ZM0.out | with_reducible exact Zwu ZM0.out))
   | ((with_reducible apply ZTW);exact lk;assumption;exact pk;rfl;(focus simp only [Nat.zero_add,Nat.reduceAdd,List.drop_succ_cons,List.drop_zero,List.take_succ_cons,List.take_zero,List.take_nil];rfl))
   | ((with_reducible apply ZTU);exact lk)
   | ((with_reducible apply ZTX);exact lk;exact lk;(focus (exact rfl));assumption;assumption)
   | ((with_reducible apply ZTV);exact lk;(focus (first | assumption | (apply At.fz;(focus (apply Sp.fz;assumption));assumption;assumption));done);(focus (first | exact(Nat.add_zero _).symm | exact rfl);done);rfl)
   | ((with_reducible apply ZsH);exact lk;rfl)
   | ((with_reducible apply ZnB);exact lk)
   | ((with_reducible apply Uv);exact lk)
   | ((with_reducible apply ZnD);exact lk;(focus (apply ZS8;exact E0);done);exact lk)
   | ((with_reducible apply ZHP);exact lk;exact lk;(apply ZS8;exact E0))
   | fail)))
 | (apply WO.hu gN;(focus (first | (((with_reducible apply Z10));exact lk;assumption;exact pk;exact lk;exact ce;exact rfl;exact rfl;exact rfl;(focus simp only [splice,List.take_succ_cons,List.take_zero,List.drop_succ_cons,List.drop_zero,List.cons_append,List.nil_append,List.append_nil,List.length_cons,List.length_nil,Nat.reduceAdd,Nat.zero_add,List.take_nil,List.drop_nil];exact rfl)) | fail)))
 | (apply WO.hn gN rfl;(focus (first | (((with_reducible apply ZTZ));exact lk;assumption;exact ce) | (((with_reducible apply ZT0));assumption;exact ce) | fail)))
 | refine WC.skip ?_
 | refine WC.ret ?_
 | refine WC.block ?_
 | refine WC.exit ?_
 | refine Zg5.ret ?_
 | refine Zg5.exit ?_
 | refine Zgw.ret ?_
 | refine Zgw.XC ?_
 | refine Zgw.here ?_
 | refine Xp.exit ?_
 | refine Xp.ret ?_
 | refine WX.nil ?_
 | fail
 exact k.out):p:=h ⟨k⟩
theorem sl {p:Prop} (h:p:=by
 repeat (first | exact Sel.n | (apply Sel.c;(focus exact pk)))
 done):p:=h
theorem r2 {p q:Prop} (k:q) (h:Kp q ->p:=by
 intro k
 iterate 2 (refine r1 ?_)
 exact k.out):p:=h ⟨k⟩
theorem r3 {p q:Prop} (k:q) (h:Kp q ->p:=by
 intro k
 iterate 3 (refine r1 ?_)
 exact k.out):p:=h ⟨k⟩
theorem r4 {p q:Prop} (k:q) (h:Kp q ->p:=by
 intro k
 iterate 4 (refine r1 ?_)
 exact k.out):p:=h ⟨k⟩
theorem r5 {p q:Prop} (k:q) (h:Kp q ->p:=by
 intro k
 iterate 5 (refine r1 ?_)
 exact k.out):p:=h ⟨k⟩
theorem r6 {p q:Prop} (k:q) (h:Kp q ->p:=by
 intro k
 iterate 6 (refine r1 ?_)
 exact k.out):p:=h ⟨k⟩
theorem r7 {p q:Prop} (k:q) (h:Kp q ->p:=by
 intro k
 iterate 7 (refine r1 ?_)
 exact k.out):p:=h ⟨k⟩
theorem r8 {p q:Prop} (k:q) (h:Kp q ->p:=by
 intro k
 iterate 8 (refine r1 ?_)
 exact k.out):p:=h ⟨k⟩
theorem r9 {p q:Prop} (k:q) (h:Kp q ->p:=by
 intro k
 iterate 9 (refine r1 ?_)
 exact k.out):p:=h ⟨k⟩
theorem r10 {p q:Prop} (k:q) (h:Kp q ->p:=by
 intro k
 iterate 10 (refine r1 ?_)
 exact k.out):p:=h ⟨k⟩
theorem Kq {p q:Prop} (k:q) (h:Kp q ->p:=by
 intro k
 iterate 11 (refine r1 ?_)
 exact k.out):p:=h ⟨k⟩
theorem r12 {p q:Prop} (k:q) (h:Kp q ->p:=by
 intro k
 iterate 12 (refine r1 ?_)
 exact k.out):p:=h ⟨k⟩
theorem r13 {p q:Prop} (k:q) (h:Kp q ->p:=by
 intro k
 iterate 13 (refine r1 ?_)
 exact k.out):p:=h ⟨k⟩
theorem r14 {p q:Prop} (k:q) (h:Kp q ->p:=by
 intro k
 iterate 14 (refine r1 ?_)
 exact k.out):p:=h ⟨k⟩
theorem r15 {p q:Prop} (k:q) (h:Kp q ->p:=by
 intro k
 iterate 15 (refine r1 ?_)
 exact k.out):p:=h ⟨k⟩
theorem r16 {p q:Prop} (k:q) (h:Kp q ->p:=by
 intro k
 iterate 16 (refine r1 ?_)
 exact k.out):p:=h ⟨k⟩
end Go.Xr
end
end
section
set_option maxRecDepth 20000
noncomputable section
namespace Go.Proofs.YtcnahmgekicbdaaGreat
open Go.Xr Go.Lf
section
abbrev cE (x:Zv):List Value:= [.int .i64 x.kZ,.int .i64 x.kV,.int .i64 x.kX,.int .i64 x.n]
abbrev cS (x:XA):List Value:= [.int .i64 x.act,.int .i64 x.a,.int .i64 x.b]
abbrev cP (x:ZV):List Value:= [.int .i64 x.at_,.int .i64 x.Xw]
abbrev cL (x:Zd) (a:Option Addr) (c:Nat):List Value:= [.int .i64 x.kW,.int .i64 x.kV,.int .i64 x.kX,.int .i64 x.n,.slice a x.qX.length c]
abbrev cW (x:Ze) (a0:Option Addr) (c0:Nat) (a1:Option Addr) (c1:Nat) (a2:Option Addr) (c2:Nat) (a3:Option Addr) (c3:Nat) (a4:Option Addr) (c4:Nat) (a5:Option Addr) (c5:Nat):List Value:= [.slice a0 x.qV.length c0,.slice a1 x.qX.length c1,.slice a2 x.qZ.length c2,.slice a3 x.Zk.length c3,.slice a4 x.Zr.length c4,.slice a5 x.kQ.length c5,.int .i64 x.kK]
abbrev cV (a0:Option Addr) (n0 c0:Nat) (a1:Option Addr) (n1 c1:Nat) (a2:Option Addr) (n2 c2:Nat) (a3:Option Addr) (n3 c3:Nat) (a4:Option Addr) (n4 c4:Nat) (a5:Option Addr) (n5 c5:Nat) (s:Int):List Value:= [.slice a0 n0 c0,.slice a1 n1 c1,.slice a2 n2 c2,.slice a3 n3 c3,.slice a4 n4 c4,.slice a5 n5 c5,.int .i64 s]
abbrev cH (a0:Option Addr) (n0 c0:Nat) (a1:Option Addr) (n1 c1:Nat) (a2:Option Addr) (n2 c2:Nat) (a3:Option Addr) (n3 c3:Nat) (a4:Option Addr) (n4 c4:Nat) (a5:Option Addr) (n5 c5:Nat) (s m:Int) (a6:Option Addr) (n6 c6:Nat) (a7:Option Addr) (n7 c7:Nat):List Value:= [.slice a0 n0 c0,.slice a1 n1 c1,.slice a2 n2 c2,.slice a3 n3 c3,.slice a4 n4 c4,.slice a5 n5 c5,.int .i64 s,.int .i64 m,.slice a6 n6 c6,.slice a7 n7 c7]
abbrev cG (m:Int) (a6:Option Addr) (n6 c6:Nat) (a0:Option Addr) (n0 c0:Nat) (a1:Option Addr) (n1 c1:Nat) (a2:Option Addr) (n2 c2:Nat) (a3:Option Addr) (n3 c3:Nat) (a4:Option Addr) (n4 c4:Nat) (a5:Option Addr) (n5 c5:Nat) (s:Int) (a7:Option Addr) (n7 c7:Nat):List Value:= [.int .i64 m,.slice a6 n6 c6,.slice a0 n0 c0,.slice a1 n1 c1,.slice a2 n2 c2,.slice a3 n3 c3,.slice a4 n4 c4,.slice a5 n5 c5,.int .i64 s,.slice a7 n7 c7]
abbrev gH (wm b:Nat) (x:Z6) (a0:Option Addr) (n0 c0:Nat) (a1:Option Addr) (n1 c1:Nat) (q1:Nat ->Option Addr×Nat×Nat) (a2:Option Addr) (n2 c2:Nat) (q2:Nat ->Option Addr×Nat×Nat) (a3:Option Addr) (n3 c3:Nat) (q3:Nat ->Option Addr×Nat×Nat) (a4:Option Addr) (n4 c4:Nat) (q4:Nat ->Option Addr×Nat×Nat) (a5:Option Addr) (n5 c5:Nat) (q5:Nat ->Option Addr×Nat×Nat) (a6:Option Addr) (c6:Nat) (a7:Option Addr) (n7 c7:Nat):List (Ast wm):= [bx wm b [.slice a0 n0 c0,.slice a1 n1 c1,.slice a2 n2 c2,.slice a3 n3 c3,.slice a4 n4 c4,.slice a5 n5 c5,.int .i64 x.Za.kK,.int .i64 x.qK.qG,.slice a6 x.qK.Zh.length c6,.slice a7 n7 c7],ow wm (Zl .i64) a0 n0 c0 x.Za.qV,Yf wm (Zx (Zl .i64)) a1 n1 c1 q1 x.Za.qX,Yf wm (Zx (Zl .i64)) a2 n2 c2 q2 x.Za.qZ,Yf wm (Zx (Zl .i64)) a3 n3 c3 q3 x.Za.Zk,Yf wm (Zx Zi) a4 n4 c4 q4 x.Za.Zr,Yf wm Zz a5 n5 c5 q5 x.Za.kQ,ow wm Zw a7 n7 c7 x.kU]
abbrev gHz (wm b:Nat) (x:Z6) (a0:Option Addr) (n0 c0:Nat) (a1:Option Addr) (n1 c1:Nat) (q1:Nat ->Option Addr×Nat×Nat) (a2:Option Addr) (n2 c2:Nat) (q2:Nat ->Option Addr×Nat×Nat) (a3:Option Addr) (n3 c3:Nat) (q3:Nat ->Option Addr×Nat×Nat) (a4:Option Addr) (n4 c4:Nat) (q4:Nat ->Option Addr×Nat×Nat) (a5:Option Addr) (n5 c5:Nat) (q5:Nat ->Option Addr×Nat×Nat) (a6:Option Addr) (c6:Nat) (a7:Option Addr) (n7 c7:Nat):List (Ast wm):= [bx wm b [.slice a0 n0 c0,.slice a1 n1 c1,.slice a2 n2 c2,.slice a3 n3 c3,.slice a4 n4 c4,.slice a5 n5 c5,.int .i64 x.Za.kK,.int .i64 x.qK.qG,.slice a6 x.qK.Zh.length c6,.slice a7 n7 c7],ow wm (Zl .i64) a0 n0 c0 x.Za.qV,Yf wm (Zx (Zl .i64)) a1 n1 c1 q1 x.Za.qX,Yf wm (Zx (Zl .i64)) a2 n2 c2 q2 x.Za.qZ,Yf wm (Zx (Zl .i64)) a3 n3 c3 q3 x.Za.Zk,Yf wm (Zx Zi) a4 n4 c4 q4 x.Za.Zr,Yf wm Zz a5 n5 c5 q5 x.Za.kQ,X9 wm (Xo Zj) (a6,c6) x.qK.Zh,ow wm Zw a7 n7 c7 x.kU]
abbrev gG (wm b:Nat) (x:Z5) (a0:Option Addr) (n0 c0:Nat) (a1:Option Addr) (n1 c1:Nat) (q1:Nat ->Option Addr×Nat×Nat) (a2:Option Addr) (n2 c2:Nat) (q2:Nat ->Option Addr×Nat×Nat) (a3:Option Addr) (n3 c3:Nat) (q3:Nat ->Option Addr×Nat×Nat) (a4:Option Addr) (n4 c4:Nat) (q4:Nat ->Option Addr×Nat×Nat) (a5:Option Addr) (n5 c5:Nat) (q5:Nat ->Option Addr×Nat×Nat) (a6:Option Addr) (c6:Nat) (a7:Option Addr) (n7 c7:Nat):List (Ast wm):= [bx wm b [.int .i64 x.s.qG,.slice a6 x.s.Zh.length c6,.slice a0 n0 c0,.slice a1 n1 c1,.slice a2 n2 c2,.slice a3 n3 c3,.slice a4 n4 c4,.slice a5 n5 c5,.int .i64 x.w.kK,.slice a7 n7 c7],ow wm (Zl .i64) a0 n0 c0 x.w.qV,Yf wm (Zx (Zl .i64)) a1 n1 c1 q1 x.w.qX,Yf wm (Zx (Zl .i64)) a2 n2 c2 q2 x.w.qZ,Yf wm (Zx (Zl .i64)) a3 n3 c3 q3 x.w.Zk,Yf wm (Zx Zi) a4 n4 c4 q4 x.w.Zr,Yf wm Zz a5 n5 c5 q5 x.w.kQ,ow wm Zw a7 n7 c7 x.kU]
abbrev gGz (wm b:Nat) (x:Z5) (a0:Option Addr) (n0 c0:Nat) (a1:Option Addr) (n1 c1:Nat) (q1:Nat ->Option Addr×Nat×Nat) (a2:Option Addr) (n2 c2:Nat) (q2:Nat ->Option Addr×Nat×Nat) (a3:Option Addr) (n3 c3:Nat) (q3:Nat ->Option Addr×Nat×Nat) (a4:Option Addr) (n4 c4:Nat) (q4:Nat ->Option Addr×Nat×Nat) (a5:Option Addr) (n5 c5:Nat) (q5:Nat ->Option Addr×Nat×Nat) (a6:Option Addr) (c6:Nat) (a7:Option Addr) (n7 c7:Nat):List (Ast wm):= [bx wm b [.int .i64 x.s.qG,.slice a6 x.s.Zh.length c6,.slice a0 n0 c0,.slice a1 n1 c1,.slice a2 n2 c2,.slice a3 n3 c3,.slice a4 n4 c4,.slice a5 n5 c5,.int .i64 x.w.kK,.slice a7 n7 c7],X9 wm (Xo Zj) (a6,c6) x.s.Zh,ow wm (Zl .i64) a0 n0 c0 x.w.qV,Yf wm (Zx (Zl .i64)) a1 n1 c1 q1 x.w.qX,Yf wm (Zx (Zl .i64)) a2 n2 c2 q2 x.w.qZ,Yf wm (Zx (Zl .i64)) a3 n3 c3 q3 x.w.Zk,Yf wm (Zx Zi) a4 n4 c4 q4 x.w.Zr,Yf wm Zz a5 n5 c5 q5 x.w.kQ,ow wm Zw a7 n7 c7 x.kU]
instance:ZbV XX.P 3:= ⟨Kj⟩
instance:ZbV XX.P 4:= ⟨ZMC⟩
instance:ZbV XX.P 22:= ⟨ZCs⟩
instance:ZnU XX.P 24:= ⟨Zlx⟩
instance:ZbV XX.P 28:= ⟨ZCr⟩
instance:ZbV XX.P 29:= ⟨Zai⟩
instance:ZbV XX.P 30:= ⟨Zjl⟩
instance:ZbV XX.P 31:= ⟨Zuw⟩
instance:ZnU XX.P 33:= ⟨Zuv⟩
instance:ZbV XX.P 34:= ⟨ZCq⟩
instance:ZbV XX.P 35:= ⟨ZdH⟩
instance:ZbV XX.P 36:= ⟨ZqC⟩
instance:ZbV XX.P 62:= ⟨ZUg⟩
instance:ZnU XX.P 64:= ⟨ZCp⟩
instance:ZnU XX.P 66:= ⟨Zlw⟩
instance:ZbV XX.P 69:= ⟨ZgK⟩
instance:ZbV XX.P 71:= ⟨ZHT⟩
instance:ZbV XX.P 72:= ⟨ZUf⟩
instance:ZnU XX.P 74:= ⟨ZCo⟩
instance:ZbV XX.P 87:= ⟨ZHS⟩
instance:ZnU XX.P 99:= ⟨ZHR⟩
instance:ZnU XX.P 106:= ⟨ZMF⟩
instance:ZbV XX.P 112:= ⟨ZME⟩
instance:ZbV XX.P 119:= ⟨ZMD⟩
instance:ZnU XX.P 121:= ⟨ZbS⟩
instance:SzF XX.P 3 1:= ⟨XM⟩
instance:SzF XX.P 4 1:= ⟨ZOz⟩
instance:SzF XX.P 24 2:= ⟨ZfG⟩
instance:SzF XX.P 28 1:= ⟨ZIq⟩
instance:SzF XX.P 29 1:= ⟨Zq7⟩
instance:SzF XX.P 30 1:= ⟨ZIp⟩
instance:SzF XX.P 31 1:= ⟨ZIo⟩
instance:SzF XX.P 33 7:= ⟨ZfF⟩
instance:SzF XX.P 34 1:= ⟨ZIn⟩
instance:SzF XX.P 35 1:= ⟨XH⟩
instance:SzF XX.P 36 1:= ⟨ZIm⟩
instance:SzF XX.P 62 1:= ⟨ZIl⟩
instance:SzF XX.P 64 4:= ⟨ZhY⟩
instance:SzF XX.P 66 2:= ⟨ZfE⟩
instance:SzF XX.P 69 1:= ⟨JM⟩
instance:SzF XX.P 71 1:= ⟨Zch⟩
instance:SzF XX.P 74 3:= ⟨Zq6⟩
instance:SzF XX.P 99 2:= ⟨Zaa⟩
instance:SzF XX.P 106 3:= ⟨ZDJ⟩
instance:SzF XX.P 112 1:= ⟨ZDI⟩
instance:SzF XX.P 121 5:= ⟨XI⟩
instance:Un XX.P 24 0 0:= ⟨ZmB⟩
instance:Un XX.P 24 1 1:= ⟨ZET⟩
instance:Un XX.P 33 0 0:= ⟨ZES⟩
instance:Un XX.P 33 1 1:= ⟨ZmA⟩
instance:Un XX.P 33 2 2:= ⟨Ze6⟩
instance:Un XX.P 33 3 3:= ⟨ZER⟩
instance:Un XX.P 33 4 4:= ⟨Zt5⟩
instance:Un XX.P 33 5 5:= ⟨Zt4⟩
instance:Un XX.P 33 6 6:= ⟨ZEQ⟩
instance:Un XX.P 64 0 0:= ⟨ZEP⟩
instance:Un XX.P 64 1 1:= ⟨ZEO⟩
instance:Un XX.P 64 2 2:= ⟨ZEN⟩
instance:Un XX.P 64 3 3:= ⟨ZEM⟩
instance:Un XX.P 66 0 0:= ⟨ZEL⟩
instance:Un XX.P 66 1 1:= ⟨ZEK⟩
instance:Un XX.P 74 0 0:= ⟨ZEJ⟩
instance:Un XX.P 74 1 1:= ⟨ZEI⟩
instance:Un XX.P 74 2 2:= ⟨ZEH⟩
instance:Un XX.P 91 0 0:= ⟨Zmz⟩
instance:Un XX.P 91 1 7:= ⟨Zmy⟩
instance:Un XX.P 91 2 9:= ⟨ZEG⟩
instance:Un XX.P 96 0 0:= ⟨Zt3⟩
instance:Un XX.P 96 1 2:= ⟨ZbL⟩
instance:Un XX.P 96 2 9:= ⟨ZEF⟩
instance:Un XX.P 99 0 0:= ⟨Zt2⟩
instance:Un XX.P 99 1 1:= ⟨Ze5⟩
instance:Un XX.P 106 0 0:= ⟨ZBd⟩
instance:Un XX.P 106 1 2:= ⟨ZBc⟩
instance:Un XX.P 121 0 0:= ⟨ZBb⟩
instance:Un XX.P 121 1 1:= ⟨ZBa⟩
instance:Un XX.P 121 2 2:= ⟨ZpF⟩
instance:Un XX.P 121 3 3:= ⟨ZA9⟩
instance:Un XX.P 121 4 4:= ⟨ZpE⟩
instance:Zg4 XX.P 22 66:= ⟨ZOt⟩
instance:Zg4 XX.P 25 74:= ⟨ZOs⟩
instance:Zg4 XX.P 28 71:= ⟨Zs4⟩
instance:Zg4 XX.P 29 35:= ⟨JB⟩
instance:Zg4 XX.P 30 69:= ⟨Zdx⟩
instance:Zg4 XX.P 31 99:= ⟨Zej⟩
instance:Zg4 XX.P 34 64:= ⟨Zxv⟩
instance:Zg4 XX.P 35 3:= ⟨XK⟩
instance:Zg4 XX.P 60 4:= ⟨ZOq⟩
instance:Zg4 XX.P 69 121:= ⟨QZ⟩
instance:ZM0 XX.P 4:= ⟨ZVs⟩
instance:ZbT XX.P 3 (.int .i64 0):= ⟨KC⟩
instance:ZbT XX.P 4 (.bool false):= ⟨ZNk⟩
instance:ZbT XX.P 33 (.agg #[.slice none 0 0,.slice none 0 0,.slice none 0 0,.slice none 0 0,.slice none 0 0,.slice none 0 0,.int .i64 0]):= ⟨Zw1⟩
instance:ZbT XX.P 35 (.slice none 0 0):= ⟨Zbk⟩
instance:ZbT XX.P 36 (.int .i64 0):= ⟨ZH4⟩
instance:ZbT XX.P 64 (.agg #[.int .i64 0,.int .i64 0,.int .i64 0,.int .i64 0]):= ⟨ZlD⟩
instance:ZbT XX.P 66 (.agg #[.int .i64 0,.int .i64 0]):= ⟨ZH3⟩
instance:ZbT XX.P 67 (.agg #[.int .i64 0,.int .i64 0]):= ⟨ZH2⟩
instance:ZbT XX.P 69 (.slice none 0 0):= ⟨ZqR⟩
instance:ZbT XX.P 71 (.int .i64 0):= ⟨ZqQ⟩
instance:ZbT XX.P 74 (.agg #[.int .i64 0,.int .i64 0,.int .i64 0]):= ⟨ZH1⟩
instance:ZbT XX.P 91 (.agg #[.slice none 0 0,.slice none 0 0,.slice none 0 0,.slice none 0 0,.slice none 0 0,.slice none 0 0,.int .i64 0,.int .i64 0,.slice none 0 0,.slice none 0 0]):= ⟨Zw0⟩
instance:ZbT XX.P 96 (.agg #[.int .i64 0,.slice none 0 0,.slice none 0 0,.slice none 0 0,.slice none 0 0,.slice none 0 0,.slice none 0 0,.slice none 0 0,.int .i64 0,.slice none 0 0]):= ⟨ZwZ⟩
instance:ZbT XX.P 99 (.agg #[.int .i64 0,.slice none 0 0]):= ⟨ZlC⟩
instance:ZbT XX.P 106 (.agg #[.int .i64 0,.slice none 0 0,.slice none 0 0]):= ⟨ZC9⟩
instance:ZbT XX.P 112 (.nilFunc):= ⟨ZC8⟩
instance:ZbT XX.P 121 (.agg #[.int .i64 0,.int .i64 0,.int .i64 0,.int .i64 0,.slice none 0 0]):= ⟨WN⟩
instance:ZbT XX.P 124 (.nilFunc):= ⟨Zc4⟩
end
section
def ZE2 (p0:Zc):Option Bool:=
 some (decide ((p0.Zh.length:Int) <=30))
def Zi1 (p0:Zc) (v23:Int) (Zl4:(Int ->Option Bool)):Int×Int ->(Int×Int ->Option Bool) ->Option Bool:=fun(v34,v36) ZyL=>
 (bif((decide (v36 <= (p0.Zh.length:Int))) && (decide (v34 >=0))) then(bif(v34==v23) then some false else(ZL p0.Zh v34).bind fun x41=>ZyL (x41.Xw,Yd (v36 + 1))) else Zl4 (Yd (v23 + 1)))
def Zgd (F:Nat) (p0:Zc):Int ->(Int ->Option Bool) ->Option Bool:=fun v23 Zl4=>
 (bif decide (v23 < (p0.Zh.length:Int)) then(ZL p0.Zh v23).bind fun x26=>loop F (Zi1 p0 v23 Zl4) (x26.Xw,0) else some true)
def Zi2 (F:Nat) (p0:Zc):Int ->(Int ->Option Bool) ->Option Bool:=fun v9 ZbF=>
 (bif decide (v9 < (p0.Zh.length:Int)) then(ZL p0.Zh v9).bind fun x12=>(bif((((decide (x12.at_ < 0)) || (decide (x12.at_ >=p0.qG))) || (decide (x12.Xw < (-1)))) || (decide (x12.Xw >= (p0.Zh.length:Int)))) then some false else ZbF (Yd (v9 + 1))) else loop F (Zgd F p0) 0)
def ZvU (F:Nat) (p0:Zc):Option Bool:=
 (bif((((decide (p0.qG < 1)) || (decide (p0.qG > 4))) || (decide ((p0.Zh.length:Int) < 1))) || (decide ((p0.Zh.length:Int) > 8))) then some false else loop F (Zi2 F p0) 0)
def Zm4 (p0:(List Int)) (p1:(List Int)):Int ->(Int ->Option Bool) ->Option Bool:=fun v6 ZcC=>
 (bif decide (v6 < (p0.length:Int)) then(ZL p0 v6).bind fun x9=>(ZL p1 v6).bind fun x12=>(bif(x9 !=x12) then some false else ZcC (Yd (v6 + 1))) else some true)
def Zj8 (F:Nat) (p0:(List Int)) (p1:(List Int)):Option Bool:=
 (bif((p0.length:Int) != (p1.length:Int)) then some false else loop F (Zm4 p0 p1) 0)
def ZvS (p0:Zc) (p1:Int):Option Bool:=
 some ((decide (p1 >=0)) && (decide (p1 < (p0.Zh.length:Int))))
def Zm3 (p0:Zc):(List Int)×Int ->((List Int)×Int ->Option (List Int)) ->Option (List Int):=fun(v9,v14) ZyO=>
 (bif decide (v14 >=0) then(app 8 v9 [v14]).bind fun z19=>(ZL p0.Zh v14).bind fun x23=>ZyO (z19,x23.Xw) else some v9)
def ZvR (F:Nat) (p0:Zc) (p1:Int):Option (List Int):=
 (ZL p0.Zh p1).bind fun x3=>loop F (Zm3 p0) ([],x3.Xw)
end
section
theorem ZLX {wm h} {p0:Zc} {Zo Zn} {r} (Yb:wm <=h.size) (ZA:Sl Zj wm h Zo Zn p0.Zh) (hL:ZE2 p0=some r):
 WR XX 14 #[.agg [.int .i64 p0.qG,.slice Zo p0.Zh.length Zn].toArray] wm h (CP (fun(v:Value) (Gb:List (Ast wm))=>v= .bool r/\Gb= []) [] h):=by
 refine bg Tryz.ntmps14 Yb Yn.nil ?_;intro T hT hS;unfold ZE2 at hL;refine r3 ?_;rintro _ h2 ⟨b1,eb1,rfl,hS⟩;refine r13 ?_;exact rt hL hT hS
theorem ZLU {F wm h} {p0:Zc} {Zo Zn} {r} (Yb:wm <=h.size) (ZA:Sl Zj wm h Zo Zn p0.Zh) (hL:ZvU F p0=some r):
 WR XX 17 #[.agg [.int .i64 p0.qG,.slice Zo p0.Zh.length Zn].toArray] wm h (CP (fun(v:Value) (Gb:List (Ast wm))=>v= .bool r/\Gb= []) [] h):=by
 refine bg Tryz.ntmps17 Yb Yn.nil ?_;intro T hT hS;unfold ZvU at hL;refine r3 ?_;rintro _ h2 ⟨b1,eb1,rfl,hS⟩;refine r16 ?_;refine r16 ?_;refine cn hL ?_ ?_
 ·intro hc hL;refine r7 ?_;exact rt hL hT hS
 ·intro hc hL;refine r12 ?_;refine WC.loop (WL.lift hL (fun v9 s=>∃ fr4 h3,s= ⟨fr4,[],h3,none⟩/\Sp wm T h [bx wm b1 [.int .i64 p0.qG,.slice Zo p0.Zh.length Zn]] h3/\fr4.at 1= .pointer (some ⟨b1,0,none⟩)/\fr4.at 3= .int .i64 (p0.Zh.length:Int)/\fr4.at 29= .slice Zo p0.Zh.length Zn/\fr4.at 30= .int .i64 (p0.Zh.length:Int)/\fr4.at 31= .int .i64 v9) ⟨_,_,rfl,hS.only sl,Qm⟩ ?_);clear hL hS;rintro ZbF v9 s Zdf hL ⟨fr4,h3,rfl,hS,e5,e6,e7,e8,e10⟩;dsimp only [Zi2] at hL;refine r6 ?_;refine cn hL ?_ ?_
  ·intro hc hL;refine r6 ?_;obtain⟨x12,Zpa,hL⟩:=bS hL;obtain⟨b13,o14,_,ZtW,Zla,Zk8,Zt0⟩:=Sl.at_ ZA Zpa;refine r1 ?_;refine WO.w gN rfl (QH Zlw ZfE (Yc fh rfl) (At.fz hS.fz Zk8 Zla) (j:=0) rfl rfl (ws:= (cP x12)) rfl) ?_;refine r1 ?_;rintro _ h16 ⟨b15,YaM,rfl,hS⟩;refine r1 ?_;rintro h17 hS;refine r16 ?_;refine Kq ?_;refine cn hL ?_ ?_
   ·intro hc hL;refine Kq ?_;exact rt hL hT hS
   ·intro hc hL;refine r7 ?_;exact Xp.XC (Zdf _ _ hL ⟨_,_,rfl,hS.only sl,Qm⟩)
  ·intro hc hL;refine r15 ?_;refine WC.loop (WL.lift hL (fun v23 s=>∃ ZvF h18,s= ⟨ZvF,[],h18,none⟩/\Sp wm T h [bx wm b1 [.int .i64 p0.qG,.slice Zo p0.Zh.length Zn]] h18/\ZvF.at 1= .pointer (some ⟨b1,0,none⟩)/\ZvF.at 3= .int .i64 (p0.Zh.length:Int)/\ZvF.at 59= .int .i64 (p0.Zh.length:Int)/\ZvF.at 60= .int .i64 v23) ⟨_,_,rfl,hS.only sl,Qm⟩ ?_);clear hL hS;rintro Zl4 v23 s ZEp hL ⟨ZvF,h18,rfl,hS,e20,e21,e22,e24⟩;dsimp only [Zgd] at hL;refine r6 ?_;refine cn hL ?_ ?_
   ·intro hc hL;refine r15 ?_;obtain⟨x26,ZX1,hL⟩:=bS hL;obtain⟨b27,o28,_,Z4k,Z5g,Z4S,Z4B⟩:=Sl.at_ ZA ZX1;refine r12 ?_;refine WC.loop (WL.lift hL (fun p s=>match p with | (v34,v36)=>∃ Zmx h29,s= ⟨Zmx,[],h29,none⟩/\Sp wm T h [bx wm b1 [.int .i64 p0.qG,.slice Zo p0.Zh.length Zn]] h29/\Zmx.at 1= .pointer (some ⟨b1,0,none⟩)/\Zmx.at 3= .int .i64 (p0.Zh.length:Int)/\Zmx.at 6= .int .i64 v23/\Zmx.at 7= .int .i64 v34/\Zmx.at 8= .int .i64 v36/\Zmx.at 59= .int .i64 (p0.Zh.length:Int)/\Zmx.at 60= .int .i64 v23) ⟨_,_,rfl,hS.only sl,Qm⟩ ?_);clear hL hS;rintro ZyL ⟨v34,v36⟩ s ZEm hL ⟨Zmx,h29,rfl,hS,e31,e32,e33,e35,e37,e38,e39⟩;dsimp only [Zi1] at hL;refine r12 ?_;refine cn hL ?_ ?_
    ·intro hc hL;refine r12 ?_;refine cn hL ?_ ?_
     ·intro hc hL;refine r16 ?_;exact rt hL hT hS
     ·intro hc hL;refine r6 ?_;obtain⟨x41,Zza,hL⟩:=bS hL;obtain⟨b42,o43,_,Z4i,Z5c,Z4Q,Z4A⟩:=Sl.at_ ZA Zza;refine r12 ?_;exact Xp.XC (ZEm _ _ hL ⟨_,_,rfl,hS.only sl,Qm⟩)
    ·intro hc hL;refine r10 ?_;exact Xp.XC (ZEp _ _ hL ⟨_,_,rfl,hS.only sl,Qm⟩)
   ·intro hc hL;refine Kq ?_;exact rt hL hT hS
theorem ZLV {F h} {p0:Zc} {Zo Zn} {r} (ZA:Sl Zj h.size h Zo Zn p0.Zh) (hL:ZvU F p0=some r):Pure XX 17 #[.agg [.int .i64 p0.qG,.slice Zo p0.Zh.length Zn].toArray] h (.bool r):=
 WR.Xn rfl (ZLU (Nat.le_refl _) ZA hL)
theorem ZLN {F wm h} {p0 p1:(List Int)} {Zo Zn YD YC} {r} (Yb:wm <=h.size) (ZA:Sl (Zl .i64) wm h Zo Zn p0) (XR:Sl (Zl .i64) wm h YD YC p1) (hL:Zj8 F p0 p1=some r):
 WR XX 22 #[.slice Zo p0.length Zn,.slice YD p1.length YC] wm h (CP (fun(v:Value) (Gb:List (Ast wm))=>v= .bool r/\Gb= []) [] h):=by
 refine bg Tryz.ntmps22 Yb Yn.nil ?_;intro T hT hS;unfold Zj8 at hL;refine r15 ?_;refine cn hL ?_ ?_
 ·intro hc hL;refine r7 ?_;exact rt hL hT hS
 ·intro hc hL;refine Kq ?_;refine WC.loop (WL.lift hL (fun v6 s=>∃ QK h1,s= ⟨QK,[],h1,none⟩/\Sp wm T h [] h1/\QK.at 0= .slice Zo p0.length Zn/\QK.at 1= .slice YD p1.length YC/\QK.at 12= .int .i64 (p0.length:Int)/\QK.at 13= .int .i64 v6) ⟨_,_,rfl,hS.only .n,Qm⟩ ?_);clear hL hS;rintro ZcC v6 s ZdU hL ⟨QK,h1,rfl,hS,e3,e4,e5,e7⟩;dsimp only [Zm4] at hL;refine r6 ?_;refine cn hL ?_ ?_
  ·intro hc hL;refine Kq ?_;refine WC.YJ mixed Kq0 ?_;refine r2 ?_;obtain⟨x9,hx9,hL⟩:=bS hL;obtain⟨b10,o11,_,ZAN,Zpv,Zps,Zt1⟩:=Sl.at_ ZA hx9;refine r4 ?_;obtain⟨x12,Zpa,hL⟩:=bS hL;obtain⟨b13,o14,_,ZtW,Zla,Zk8,Zt0⟩:=Sl.at_ XR Zpa;refine r5 ?_;refine cn hL ?_ ?_
   ·intro hc hL;refine Kq ?_;exact rt hL hT hS
   ·intro hc hL;refine r7 ?_;exact Xp.XC (ZdU _ _ hL ⟨_,_,rfl,hS.only .n,Qm⟩)
  ·intro hc hL;refine Kq ?_;exact rt hL hT hS
theorem Zi0 {F h} {p0 p1:(List Int)} {Zo Zn YD YC} {r} (ZA:Sl (Zl .i64) h.size h Zo Zn p0) (XR:Sl (Zl .i64) h.size h YD YC p1) (hL:Zj8 F p0 p1=some r):Pure XX 22 #[.slice Zo p0.length Zn,.slice YD p1.length YC] h (.bool r):=
 WR.Xn rfl (ZLN (Nat.le_refl _) ZA XR hL)
theorem ZLM {wm h} {p0:Zc} {p1:Int} {Zo Zn} {r} (Yb:wm <=h.size) (ZA:Sl Zj wm h Zo Zn p0.Zh) (hL:ZvS p0 p1=some r):
 WR XX 33 #[.agg [.int .i64 p0.qG,.slice Zo p0.Zh.length Zn].toArray,.int .i64 p1] wm h (CP (fun(v:Value) (Gb:List (Ast wm))=>v= .bool r/\Gb= []) [] h):=by
 refine bg Tryz.ntmps33 Yb Yn.nil ?_;intro T hT hS;unfold ZvS at hL;refine r3 ?_;rintro _ h2 ⟨b1,eb1,rfl,hS⟩;refine r16 ?_;refine r2 ?_;exact rt hL hT hS
theorem ZBK {h} {p0:Zc} {p1:Int} {Zo Zn} {r} (ZA:Sl Zj h.size h Zo Zn p0.Zh) (hL:ZvS p0 p1=some r):Pure XX 33 #[.agg [.int .i64 p0.qG,.slice Zo p0.Zh.length Zn].toArray,.int .i64 p1] h (.bool r):=
 WR.Xn rfl (ZLM (Nat.le_refl _) ZA hL)
theorem ZBI {F wm h} {p0:Zc} {p1:Int} {Zo Zn} {r} (Yb:wm <=h.size) (ZA:Sl Zj wm h Zo Zn p0.Zh) (hL:ZvR F p0 p1=some r):
 WR XX 38 #[.agg [.int .i64 p0.qG,.slice Zo p0.Zh.length Zn].toArray,.int .i64 p1] wm h (CP (fun(v:Value) (Gb:List (Ast wm))=>∃ Q5 Jv Q0,v= .slice Q5 Jv Q0/\Gb= [ow wm (Zl .i64) Q5 Jv Q0 r]) [] h):=by
 refine bg Tryz.ntmps38 Yb Yn.nil ?_;intro T hT hS;unfold ZvR at hL;refine r3 ?_;rintro _ h2 ⟨b1,eb1,rfl,hS⟩;refine r14 ?_;obtain⟨x3,hx3,hL⟩:=bS hL;obtain⟨b4,o5,_,ZEy,ZEz,Z8z,ZKJ⟩:=Sl.at_ ZA hx3;refine r7 ?_;have hS:=hS.nil (e:= (Zl .i64));refine WC.loop (WL.lift hL (fun p s=>match p with | (v9,v14)=>∃ fr7 h6 a10 c11 n12,s= ⟨fr7,[],h6,none⟩/\Sp wm T h [ow wm (Zl .i64) a10 n12 c11 v9,bx wm b1 [.int .i64 p0.qG,.slice Zo p0.Zh.length Zn]] h6/\fr7.at 2= .pointer (some ⟨b1,0,none⟩)/\fr7.at 5= .slice a10 n12 c11/\fr7.at 6= .int .i64 v14) ⟨_,_,none,0,0,rfl,hS.only sl,Qm⟩ ?_);clear hL hS;rintro ZyO ⟨v9,v14⟩ s ZEr hL ⟨fr7,h6,a10,c11,n12,rfl,hS,e8,e13,e15⟩;obtain rfl:=hS.on k0;dsimp only [Zm3] at hL;refine r7 ?_;refine cn hL ?_ ?_
 ·intro hc hL;refine r7 ?_;refine WO.hn gN rfl (Ko (e:= (Zl .i64)) hS XK XM KC rfl rfl rfl (Z0 lk YI) rfl [((),v14)] rfl (xs:= [v14]) rfl (by intro q hq;simp only [List.mem_cons,List.not_mem_nil,or_false] at hq;subst hq;exact trivial) rfl) ?_;rintro _ h18 ⟨b17,YaL,rfl,hS⟩;obtain⟨z19,ZXC,hL⟩:=bS hL;refine WO.hv gN rfl (J6 (e:= (Zl .i64)) hS k1 X7 lk lk (hS.QC k0) (hS.on k0) ZXC) ?_;rintro _ h22 ⟨a20,c21,rfl,hS⟩;refine r8 ?_;obtain⟨x23,ZX2,hL⟩:=bS hL;obtain⟨b24,o25,_,Z4l,Z5h,Z4T,Z4C⟩:=Sl.at_ ZA ZX2;refine r5 ?_;exact Xp.XC (ZEr _ _ hL ⟨_,_,a20,c21,z19.length,rfl,hS.only sl,Qm⟩)
 ·intro hc hL;refine r12 ?_;have hr:=Oi0 hL;subst hr;exact Z8.UM rfl (YA lk Zu) ⟨_,⟨a10,v9.length,c11,rfl,rfl⟩,hT ▸ hS.only sl⟩
end
section
def ZmU (p0:Zc) (p1:Int):Option Bool:=
 some ((decide (p1 >=0)) && (decide (p1 < (p0.Zh.length:Int))))
def ZiR (v13:Int) (ZbE:((List Int)×Int ->Option (List Int))):(List Int) ->Option (List Int):=fun v19=>
 ZbE (v19,Yd (v13 + 1))
def ZmK (p0:Zc) (p1:Int):(List Int)×Int ->((List Int)×Int ->Option (List Int)) ->Option (List Int):=fun(v6,v13) ZbE=>
 (bif decide (v13 < (p0.Zh.length:Int)) then(ZL p0.Zh v13).bind fun x27=>(bif(x27.Xw==p1) then(app 8 v6 [v13]).bind fun z35=>(ZiR v13 ZbE) z35 else(ZiR v13 ZbE) v6) else some v6)
def Zse (F:Nat) (p0:Zc) (p1:Int):Option (List Int):=
 loop F (ZmK p0 p1) ([],0)
end
section
theorem ZLD {wm h} {p0:Zc} {p1:Int} {Zo Zn} {r} (Yb:wm <=h.size) (ZA:Sl Zj wm h Zo Zn p0.Zh) (hL:ZmU p0 p1=some r):
 WR XX 54 #[.agg [.int .i64 p0.qG,.slice Zo p0.Zh.length Zn].toArray,.int .i64 p1] wm h (CP (fun(v:Value) (Gb:List (Ast wm))=>v= .bool r/\Gb= []) [] h):=by
 refine bg Tryz.ntmps54 Yb Yn.nil ?_;intro T hT hS;unfold ZmU at hL;refine r3 ?_;rintro _ h2 ⟨b1,eb1,rfl,hS⟩;refine r16 ?_;refine r2 ?_;exact rt hL hT hS
theorem Zsi {h} {p0:Zc} {p1:Int} {Zo Zn} {r} (ZA:Sl Zj h.size h Zo Zn p0.Zh) (hL:ZmU p0 p1=some r):Pure XX 54 #[.agg [.int .i64 p0.qG,.slice Zo p0.Zh.length Zn].toArray,.int .i64 p1] h (.bool r):=
 WR.Xn rfl (ZLD (Nat.le_refl _) ZA hL)
theorem ZBo {F wm h} {p0:Zc} {p1:Int} {Zo Zn} {r} (Yb:wm <=h.size) (ZA:Sl Zj wm h Zo Zn p0.Zh) (hL:Zse F p0 p1=some r):
 WR XX 83 #[.agg [.int .i64 p0.qG,.slice Zo p0.Zh.length Zn].toArray,.int .i64 p1] wm h (CP (fun(v:Value) (Gb:List (Ast wm))=>∃ Q5 Jv Q0,v= .slice Q5 Jv Q0/\Gb= [ow wm (Zl .i64) Q5 Jv Q0 r]) [] h):=by
 refine bg Tryz.ntmps83 Yb Yn.nil ?_;intro T hT hS;unfold Zse at hL;refine r3 ?_;rintro _ h2 ⟨b1,eb1,rfl,hS⟩;refine r16 ?_;refine r2 ?_;have hS:=hS.nil (e:= (Zl .i64));refine WC.loop (WL.lift hL (fun p s=>match p with | (v6,v13)=>∃ fr4 h3 a7 c8 n9,s= ⟨fr4,[],h3,none⟩/\Sp wm T h [ow wm (Zl .i64) a7 n9 c8 v6] h3/\fr4.at 1= .int .i64 p1/\fr4.at 5= .slice a7 n9 c8/\fr4.at 9= .slice Zo p0.Zh.length Zn/\fr4.at 10= .int .i64 (p0.Zh.length:Int)/\fr4.at 11= .int .i64 v13) ⟨_,_,none,0,0,rfl,hS.only sl,Qm⟩ ?_);clear hL hS;rintro ZbE ⟨v6,v13⟩ s Zmk hL ⟨fr4,h3,a7,c8,n9,rfl,hS,e5,e10,e11,e12,e14⟩;obtain rfl:=hS.on k0;dsimp only [ZmK] at hL;refine r6 ?_;refine cn hL ?_ ?_
 ·intro hc hL;refine r2 ?_;refine WC.ZfI (r:=r) (fun(v19:(List Int)) s=>∃ Ze3 h16 a20 c21 n22,s= ⟨Ze3,[],h16,none⟩/\Sp wm T h [ow wm (Zl .i64) a20 n22 c21 v19] h16/\Ze3.at 1= .int .i64 p1/\Ze3.at 5= .slice a20 n22 c21/\Ze3.at 9= .slice Zo p0.Zh.length Zn/\Ze3.at 10= .int .i64 (p0.Zh.length:Int)/\Ze3.at 11= .int .i64 v13) (ZiR v13 ZbE) ?_ ?_
  ·clear hL hS;rintro v19 s hL ⟨Ze3,h16,a20,c21,n22,rfl,hS,e18,e23,e24,e25,e26⟩;obtain rfl:=hS.on k0;dsimp only [ZiR] at hL;refine r4 ?_;exact Xp.XC (Zmk _ _ hL ⟨_,_,a20,c21,v19.length,rfl,hS.only sl,Qm⟩)
  ·skip;refine r4 ?_;obtain⟨x27,hx27,hL⟩:=bS hL;obtain⟨b28,o29,_,ZSd,ZHz,ZHx,ZHv⟩:=Sl.at_ ZA hx27;refine r1 ?_;refine WO.w gN rfl (QH Zlw ZfE (Yc fh rfl) (At.fz hS.fz ZHx ZHz) (j:=0) rfl rfl (ws:= (cP x27)) rfl) ?_;refine r1 ?_;rintro _ h31 ⟨b30,YaH,rfl,hS⟩;refine r2 ?_;rintro h32 hS;refine r10 ?_;refine cn hL ?_ ?_
   ·intro hc hL;refine r3 ?_;refine WO.hn gN rfl (Ko (e:= (Zl .i64)) hS XK XM KC rfl rfl rfl (Z0 lk YI) rfl [((),v13)] rfl (xs:= [v13]) rfl (by intro q hq;simp only [List.mem_cons,List.not_mem_nil,or_false] at hq;subst hq;exact trivial) rfl) ?_;rintro _ h34 ⟨b33,ZTc,rfl,hS⟩;obtain⟨z35,ZJJ,hL⟩:=bS hL;refine WO.hv gN rfl (J6 (e:= (Zl .i64)) hS k2 X7 lk lk (hS.QC k0) (hS.on k0) ZJJ) ?_;rintro _ h38 ⟨a36,c37,rfl,hS⟩;refine r3 ?_;exact Ju.XC _ hL ⟨_,_,a36,c37,z35.length,rfl,hS.only sl,Qm⟩
   ·intro hc hL;refine r2 ?_;exact Ju.XC _ hL ⟨_,_,a7,c8,v6.length,rfl,hS.only sl,Qm⟩
 ·intro hc hL;refine r12 ?_;have hr:=Oi0 hL;subst hr;exact Z8.UM rfl (YA lk Zu) ⟨_,⟨a7,v6.length,c8,rfl,rfl⟩,hT ▸ hS.only sl⟩
end
end Go.Proofs.YtcnahmgekicbdaaGreat
end
end
