/- Together Part 9 of the proof. -/
import Derived.Test.YtbmbbcaaimehkaaGreatTa8
set_option linter.all false
set_option maxHeartbeats 2000000
section
noncomputable section
namespace Go.YJ
open Go.Lf
variable {X:Ctx} {n wm:Nat} {rd:Option Nat} {ops:Array Oper} {ol:List Oper} {fr:Fr} {ds:List Deferred} {h h0:H} {ty:TypeId} {p:String} {af:Array Edge} {g:Option (Nat×Bool)} {T:Nat ->Prop} {G Gr:List (Ast wm)} {d l df:Nat} {LO:Xe} {ps:Array Tmp} {Yv bd:Code}
theorem ZhE {α β:Type} {body:α ->(α ->Option β) ->Option β} (C:α ->β ->Prop) (hb:∀ next:α ->Option β,(∀ x r,next x=some r ->C x r) ->∀ x r,body x next=some r ->C x r):∀ F x r,loop F body x=some r ->C x r:=by
 intro F
 induction F with
 | zero=>intro x r h;cases h
 | succ F ih=>intro x r h;exact hb _ ih x r h
def dne (c:Code):Xe ->Xe
 | .loop _ _ fr n ps Yv bd df=>.loop .done (some c) fr n ps Yv bd df
 | A=>A
def lst (b:Bool) (c:Code) (A:Xe):Xe:=bif b then dne c A else A
inductive Zth:XX ->Code ->Prop
 | ret:Zth .ret .ret
 | exit (id:Nat):Zth (.exit id) (.exit id)
structure BdS (n lo l:Nat) (fr:Fr) (ps:Array Tmp) (Yv bd:Code) (df:Nat) (R:Bool ->H ->Prop) (e:XX) (s:Fs):Prop where
 out:s.h.at l= .loop .busy none fr n ps Yv bd df∧
  ((e= .normal∧∀ h',(lo <=l ->Up lo (fun i=>i=l) s.h h') ->h'.at l= .loop .ready none fr n ps Yv bd df ->R true h')∨
   (∃ c,Zth e c∧∀ h',(lo <=l ->Up lo (fun i=>i=l) s.h h') ->h'.at l= .loop .done (some c) fr n ps Yv bd df ->R false h'))
structure AsS (X:Ctx) (n wm lo l:Nat) (fr:Fr) (ps:Array Tmp) (Yv bd:Code) (df:Nat) (R:Bool ->H ->Prop) (e:XX) (s:Fs):Prop where
 out:e= .normal∧s.h.at l= .loop .ready none fr n ps Yv bd df∧∀ h1,(lo <=l ->Up lo (fun i=>i=l) s.h h1) ->h1.at l= .loop .busy none fr n ps Yv bd df ->WC X n wm (some l) bd ⟨s.fr,s.ds,h1,s.wr⟩ (BdS n lo l fr ps Yv bd df R)
theorem ZrN.mkS {l:Nat} {args:List Value} {fr fr1:Fr} {ps:Array Tmp} {Yv bd:Code} {df:Nat} {R:Bool ->H ->Prop} (lo:Nat) (hat:h.at l= .loop .ready none fr n ps Yv bd df) (hw:wm <=l) (hl:Nat.beq args.length ps.toList.length=true) (hs:Qe (ps.toList.zip args) n fr=some fr1)
 (k:WC X n wm (some l) Yv ⟨fr1,[],h,none⟩ (AsS X n wm lo l fr ps Yv bd df R)):ZrN X l args.toArray wm h R:=by
 obtain⟨e1,s1,⟨rfl,h1,k1⟩,j1⟩:=k;have o1:(s1.h.at l).own=true:=by rw [h1];rfl
 have s1l:=Xy h1 rfl;obtain⟨e2,s2,⟨h2,k2⟩,j2⟩:=k1 (s1.h.put l (.loop .busy none fr n ps Yv bd df)) (fun hl=>Up.put hl o1) (Yw s1l _);have o2:(s2.h.at l).own=true:=by rw [h2];rfl
 have s2l:=Xy h2 rfl
 have key:∃ b A,R b (s2.h.put l A)∧WA l e2 s2=some (.fin (.ret (.bool b)) (s2.h.put l A)):=by
  rcases k2 with⟨rfl,k2⟩ | ⟨c,hx,k2⟩
  ·refine⟨true,_,k2 _ (fun hl=>Up.put hl o2) (Yw s2l _),?_⟩;unfold WA;rw [h2]
  ·refine⟨false,_,k2 _ (fun hl=>Up.put hl o2) (Yw s2l _),?_⟩;unfold WA;rw [h2];cases hx <;> rfl
 obtain⟨b,A,hR,hev⟩:=key;refine⟨b,s2.h.put l A,hR,?_⟩
 classical
 let ih:QU ->Option YU:=fun j=>if j= .code Yv n wm (some l) ⟨fr1,[],h,none⟩ then some (.code .normal s1) else Zac (.code bd n wm (some l) {s1 with h:=s1.h.put l (.loop .busy none fr n ps Yv bd df)}) (.code e2 s2) j
 have HI:∀ j r,ih j=some r ->YL X j r:=by
  intro j r e;dsimp only [ih] at e;split at e
  ·rename_i hj;cases e;rw [hj];exact j1
  ·exact Ud (X:=X) j2 j r e
 refine Zaf (C:=cfg X fun _=>false) (ih:=ih) HI ?_;unfold ZcK;rw [hat];have hl':Nat.beq args.toArray.toList.length ps.toList.length=true:=hl;dsimp only;rw [Nm0 hw,hl'];simp only [Bool.and_self,Cq1];have hs':Qe (ps.toList.zip args.toArray.toList) n fr=some fr1:=hs;rw [hs'];dsimp only;have i1:ih (.code Yv n wm (some l) {fr:=fr1,ds:= [],h:=h})=some (.code .normal s1):=by dsimp only [ih];rw [if_pos rfl]
 rw [i1];show KJ ih l bd n wm .normal s1=_;unfold KJ;dsimp only;rw [h1];dsimp only
 have i2:ih (.code bd n wm (some l) {s1 with h:=s1.h.put l (.loop .busy none fr n ps Yv bd df)})=some (.code e2 s2):=by
  dsimp only [ih];split
  ·rename_i hj;exfalso;injection hj with _ _ _ _ hs
   have:({s1 with h:=s1.h.put l (.loop .busy none fr n ps Yv bd df)}:Fs).h.at l=h.at l:=by rw [hs]
   dsimp only at this;rw [Yw s1l,hat] at this;cases this
  ·exact Ue _ _
 rw [i2];exact hev
theorem WO.ZOs {Q:XX ->Fs ->Prop} {fo:Operand} {xs:Array Operand} {ts:Array TypeId} {vs:List Value} {n2:Nat} {Qm fr1:Fr} {as2 bd2:Code} (hg:Yk ops ⟨some d,.call {callee:= .value fo,args:=xs,argTypes:=ts},ty,p,af,g⟩ fr) (hd:Nat.blt d n=true) (hf:Yu fr fo=some (.func (.yield l) #[] #[])) (hx:evs (Yu fr) xs.toList=some vs)
 (hS:Sp wm T h0 G h) (pk:Pk G (ob wm l LO) Gr) (hLO:LO= .loop .ready none Qm n2 ps as2 bd2 df) (hl:Nat.beq vs.length ps.toList.length=true) (hs:Qe (ps.toList.zip vs) n2 Qm=some fr1)
 (k:WC X n2 wm (some l) as2 ⟨fr1,[],h,none⟩ (AsS X n2 wm wm l Qm ps as2 bd2 df (fun b h'=>WO X n wm rd ops ol ⟨Tr.set fr d (.bool b),ds,h',none⟩ Q))):
 WO X n wm rd ops (⟨some d,.call {callee:= .value fo,args:=xs,argTypes:=ts},ty,p,af,g⟩::ol) ⟨fr,ds,h,none⟩ Q:=by
 obtain⟨h1,h2,h3⟩:=hS.get pk;have hat:=h1.trans hLO;exact WO.yld hg hd hf hx hat (Nb0 hl) (ZrN.mkS (lo:=wm) hat h2 hl hs k) fun b h' hk=>hk
theorem AsS.sp {Qm:Fr} {R:Bool ->H ->Prop} (hLO:LO= .loop .ready none fr n ps Yv bd df) (hS:Sp wm T h0 G h) (pk:Pk G (ob wm l LO) Gr) (k:∀ h1,Sp wm T h0 (ob wm l (bsy LO)::Gr) h1 ->WC X n wm (some l) bd ⟨Qm,ds,h1,none⟩ (BdS n wm l fr ps Yv bd df R)):AsS X n wm wm l fr ps Yv bd df R .normal ⟨Qm,ds,h,none⟩:=by
 obtain⟨h1,h2,h3⟩:=hS.get pk;refine⟨⟨rfl,h1.trans hLO,fun h' u e=>k h' ?_⟩⟩;exact hS.one pk (u h2) (fun _ q=>q) ⟨by rw [e,hLO];rfl,h2,by rw [hLO];rfl⟩ fun _ q=>.inl q
theorem BdS.sp {Qm:Fr} {R:Bool ->H ->Prop} (hLO:LO= .loop .ready none fr n ps Yv bd df) (hS:Sp wm T h0 G h) (pk:Pk G (ob wm l (bsy LO)) Gr) (k:∀ h1,Sp wm T h0 (ob wm l LO::Gr) h1 ->R true h1):BdS n wm l fr ps Yv bd df R .normal ⟨Qm,ds,h,none⟩:=by
 obtain⟨h1,h2,h3⟩:=hS.get pk;refine⟨⟨h1.trans (by rw [hLO];rfl),.inl ⟨rfl,fun h' u e=>k h' ?_⟩⟩⟩;exact hS.one pk (u h2) (fun _ q=>q) ⟨by rw [e,hLO],h2,by rw [hLO];rfl⟩ fun _ q=>.inl q
theorem BdS.stop {Qm:Fr} {R:Bool ->H ->Prop} {e:XX} {c:Code} (hx:Zth e c) (hLO:LO= .loop .ready none fr n ps Yv bd df) (hS:Sp wm T h0 G h) (pk:Pk G (ob wm l (bsy LO)) Gr) (k:∀ h1,Sp wm T h0 (ob wm l (lst true c LO)::Gr) h1 ->R false h1):BdS n wm l fr ps Yv bd df R e ⟨Qm,ds,h,none⟩:=by
 obtain⟨h1,h2,h3⟩:=hS.get pk;refine⟨⟨h1.trans (by rw [hLO];rfl),.inr ⟨c,hx,fun h' u e=>k h' ?_⟩⟩⟩;exact hS.one pk (u h2) (fun _ q=>q) ⟨by rw [e,hLO];rfl,h2,by rw [hLO];rfl⟩ fun _ q=>.inl q
structure RgS (X:Ctx) (wm l:Nat) (fr:Fr) (n:Nat) (ps:Array Tmp) (Yv bd:Code) (df:Nat) (ds:List Deferred) (Q:XX ->Fs ->Prop) (h:H):Prop where
 low:wm <=l
 k:(h.at l= .loop .ready none fr n ps Yv bd df∧∀ h',Up wm (fun i=>i=l) h h' ->Q .normal ⟨fr,⟨.collected df,#[]⟩::ds,h',none⟩)∨
  (∃ c,h.at l= .loop .done (some c) fr n ps Yv bd df∧∀ h',Up wm (fun i=>i=l) h h' ->WC X n wm none c ⟨fr,⟨.collected df,#[]⟩::ds,h',none⟩ Q)
theorem RgS.sp {Q:XX ->Fs ->Prop} (hLO:LO= .loop .ready none fr n ps Yv bd df) (hS:Sp wm T h0 G h) (pk:Pk G (ob wm l LO) Gr) (k:∀ h',Sp wm T h0 Gr h' ->Q .normal ⟨fr,⟨.collected df,#[]⟩::ds,h',none⟩):RgS X wm l fr n ps Yv bd df ds Q h:=by
 obtain⟨h1,h2,h3⟩:=hS.get pk;refine⟨h2,.inl ⟨h1.trans hLO,fun h' u=>k h' ?_⟩⟩;exact Sp.step (Ga:= [ob wm l LO]) (Gb:= []) (hS.perm pk.perm) u (fun i e=>⟨_,List.mem_singleton.2 rfl,e⟩) Yd.nil fun i ⟨A,m,f⟩=>by simp at m
theorem RgS.stop {Q:XX ->Fs ->Prop} {c:Code} (hLO:LO= .loop .ready none fr n ps Yv bd df) (hS:Sp wm T h0 G h) (pk:Pk G (ob wm l (lst true c LO)) Gr) (k:∀ h',Sp wm T h0 Gr h' ->WC X n wm none c ⟨fr,⟨.collected df,#[]⟩::ds,h',none⟩ Q):RgS X wm l fr n ps Yv bd df ds Q h:=by
 obtain⟨h1,h2,h3⟩:=hS.get pk;refine⟨h2,.inr ⟨c,h1.trans (by rw [hLO];rfl),fun h' u=>k h' ?_⟩⟩;exact Sp.step (Ga:= [ob wm l (lst true c LO)]) (Gb:= []) (hS.perm pk.perm) u (fun i e=>⟨_,List.mem_singleton.2 rfl,e⟩) Yd.nil fun i ⟨A,m,f⟩=>by simp at m
theorem WC.ZEW {Q:XX ->Fs ->Prop} {gg:Operand} {f:FuncId} {first cap:List Value} (hS:Sp wm T h0 G h) (hg:Yu fr gg=some (.func (.func f) first.toArray cap.toArray)) (hf:(X.fns.get f).isSome=true)
 (k:∀ h' l df LO,LO=Xe.loop .ready none fr n ps Yv bd df ->Sp wm T h0 (ob wm l LO::ob wm df .deferred::G) h' ->WR X f (first ++ ([Value.func (.yield l) #[] #[]] ++ cap)).toArray wm h' (fun _ h2=>RgS X wm l fr n ps Yv bd df ds Q h2)):
 WC X n wm none (.rangeFunc gg ps Yv bd) ⟨fr,ds,h,none⟩ Q:=by
 have s1:Sp wm T h0 (ob wm h.size .deferred::G) (h.push .deferred):=Zlu rfl hS
 have s2:Sp wm T h0 (ob wm (h.size + 1) (.loop .ready none fr n ps Yv bd h.size)::ob wm h.size .deferred::G) ((h.push .deferred).push (.loop .ready none fr n ps Yv bd h.size)):=by
  have:=Zlu (A:= .loop .ready none fr n ps Yv bd h.size) rfl s1
  rwa [H.size_push] at this
 obtain⟨fn,hf⟩:=Option.isSome_iff_exists.1 hf;obtain⟨e,h3,⟨v,rfl,hr⟩,hj⟩:=k _ _ _ _ rfl s2
 have hac:WZ (cfg X fun _=>false).X ((h.push .deferred).push (.loop .ready none fr n ps Yv bd h.size)) (.func (.func f) first.toArray cap.toArray) [Value.func (.yield (h.size + 1)) #[] #[]]=some (.enter f (first ++ ([Value.func (.yield (h.size + 1)) #[] #[]] ++ cap)).toArray,.none):=by
  unfold WZ;have:(cfg X fun _=>false).X.fns.get f=some fn:=hf;dsimp only;rw [this];simp only [List.append_assoc]
 rcases hr.k with⟨hat,hk⟩ | ⟨c,hat,hk⟩
 ·refine⟨.normal,_,hk (h3.put (h.size + 1) (.loop .exhausted none fr n ps Yv bd h.size)) (Up.put hr.low (by rw [hat];rfl)),?_⟩;refine Xu.2 (Wo (C:=cfg X fun _=>false) (ih:=Zac (.call f _ wm _) (.fin (.ret v) h3)) (Ud hj) ?_);show Qo (cfg X fun _=>false) _ gg n wm none (h.size + 1) ⟨fr,⟨.collected h.size,#[]⟩::ds,(h.push .deferred).push (.loop .ready none fr n ps Yv bd h.size),none⟩=_;unfold Qo;dsimp only;rw [hg];dsimp only;rw [hac];dsimp only;unfold UE;rw [Ue];dsimp only;rw [hat]
  rfl
 ·obtain⟨e2,s2,hq,hj2⟩:=hk (h3.put (h.size + 1) (.loop .exhausted (some c) fr n ps Yv bd h.size)) (Up.put hr.low (by rw [hat];rfl));refine⟨e2,s2,hq,?_⟩
  classical
  let ih:QU ->Option YU:=fun j=>if j= .code c n wm none ⟨fr,⟨.collected h.size,#[]⟩::ds,h3.put (h.size + 1) (.loop .exhausted (some c) fr n ps Yv bd h.size),none⟩ then some (.code e2 s2) else Zac (.call f (first ++ ([Value.func (.yield (h.size + 1)) #[] #[]] ++ cap)).toArray wm ((h.push .deferred).push (.loop .ready none fr n ps Yv bd h.size))) (.fin (.ret v) h3) j
  have HI:∀ j r,ih j=some r ->YL X j r:=by
   intro j r e;dsimp only [ih] at e;split at e
   ·rename_i hj';cases e;rw [hj'];exact hj2
   ·exact Ud (X:=X) hj j r e
  refine Xu.2 (Wo (C:=cfg X fun _=>false) (ih:=ih) HI ?_);show Qo (cfg X fun _=>false) _ gg n wm none (h.size + 1) ⟨fr,⟨.collected h.size,#[]⟩::ds,(h.push .deferred).push (.loop .ready none fr n ps Yv bd h.size),none⟩=_;unfold Qo;dsimp only;rw [hg];dsimp only;rw [hac];dsimp only;unfold UE
  have i1:ih (.call f (first ++ ([Value.func (.yield (h.size + 1)) #[] #[]] ++ cap)).toArray wm ((h.push .deferred).push (.loop .ready none fr n ps Yv bd h.size)))=some (.fin (.ret v) h3):=by
   dsimp only [ih];split
   ·rename_i hj';cases hj'
   ·exact Ue _ _
  rw [i1];dsimp only;rw [hat];show ih (.code c n wm none _)=_;dsimp only [ih];rw [if_pos rfl]
theorem ZmU {ev:Operand ->Option Value} {d:Option Tmp} {f:FuncId} {xs ys:Array Operand} {vs us:List Value} (hy:evs ev ys.toList=some us) (hx:evs ev xs.toList=some vs):XM X h ev ⟨d,.makeFunc (.func f) ys xs,ty,p,af,g⟩=some (.val (.func (.func f) us.toArray vs.toArray),.none):=by
 show(bif Zg3 (.func f) then none else match evs ev ys.toList,evs ev xs.toList with | some vs,some us=>some (AN.val (.func (.func f) vs.toArray us.toArray),Eff.none) | _,_=>none)=_;rw [hx,hy];rfl
theorem ZvV {κ ν:Type} [DecidableEq κ] {kv:κ ->Value} {vv:ν ->Value} {kt vt:TypeId} {i:Nat} {ll:List (κ×ν)} {t:TypeId} {x y z:Operand} {k:κ} {v:ν} (hS:Sp wm T h0 G h) (pk:Pk G (mp wm kv vv (some i) ll) Gr) (K:Zgf X.P kt kv) (hu:X.P.underlying t=some (.map kt vt)) (hx:Yu fr x=some (.map (some i))) (hy:Yu fr y=some (kv k)) (hz:Yu fr z=some (vv v)):
 HU X wm ⟨none,.insert t x y z,ty,p,af,g⟩ fr h (fun j=>j=i) (fun h'=>Sp wm T h0 (mp wm kv vv (some i) (U6 ll k v)::Gr) h'):=
 ZvT (ty:=ty) (p:=p) (af:=af) (g:=g) hS pk K hu hx hy hz
section
variable {sf:ST} {m:Nat}
theorem WX.Zb0 {Q:Fr ->H ->Prop} {o:Oper} {c:Bool} (_:Zt ops o fr c) (h1:c=true ->WX X n wm rd ops sf m h (o::ol) fr Q) (h2:c=false ->WX X n wm rd ops sf m h (o::ol) fr Q):WX X n wm rd ops sf m h (o::ol) fr Q:=by
 cases c
 ·exact h2 rfl
 ·exact h1 rfl
theorem Sp.djs {T0:Nat ->Prop} {G Ga Gr:List (Ast wm)} {B:Ast wm} (s:Sp wm T0 h0 G h) (p:Sel G (B::Ga) Gr):∀ x,X8 Ga x ->¬ B.fp x:=fun x ⟨A,hA,fa⟩ fb=>
 (List.pairwise_cons.1 (s.Zg5 p).dis).1 A hA x fb fa
inductive Lk (ops:Array Oper) (m:Nat) (R:Nat ->Prop):List (Nat×(Nat ->Prop)) ->Prop
 | n:Lk ops m R []
 | o {q:Nat×(Nat ->Prop)} {r:List (Nat×(Nat ->Prop))} (h:comp (Qb ops.toList 0 []) q.1 m=true):Lk ops m R r ->Lk ops m R (q::r)
 | d {q:Nat×(Nat ->Prop)} {r:List (Nat×(Nat ->Prop))} (h:∀ x,q.2 x ->¬ R x):Lk ops m R r ->Lk ops m R (q::r)
theorem Lk.get {R:Nat ->Prop} {r:List (Nat×(Nat ->Prop))} (h:Lk ops m R r):∀ q ∈ r,Cmp ops q.1 m∨∀ x,q.2 x ->¬ R x:=by
 induction h with
 | n=>intro q hq;simp at hq
 | o h1 _ ih=>intro q hq;rcases List.mem_cons.1 hq with z | z
              ·subst z;exact .inl h1
              ·exact ih q z
 | d h1 _ ih=>intro q hq;rcases List.mem_cons.1 hq with z | z
              ·subst z;exact .inr h1
              ·exact ih q z
theorem WX.wrM {Q:Fr ->H ->Prop} {T0:Nat ->Prop} {G:List (Ast wm)} {op:Op} {v:Value} (R:Nat ->Prop) (hS:Sp wm T0 h0 G h) (hg:Yk ops ⟨some d,op,ty,p,af,g⟩ fr) (hd:Nat.blt d n=true) (ha:∀ g':H,g'.size=h.size ->(∀ x,R x ->g'.at x=h.at x) ->XM X g' (Yu fr) ⟨some d,op,ty,p,af,g⟩=some (.val v,.none))
 (k:∀ h',h'.size=h.size ->Sp wm T0 h0 G h' ->WX X n wm rd ops ⟨(m,fun x=>¬ R x)::sf.s,sf.m,sf.p⟩ (m + 1) h' ol (Tr.set fr d v) Q) (hh:Yg ⟨some d,op,ty,p,af,g⟩=false) (hM:Lk ops m R sf.m):
 WX X n wm rd ops sf m h (⟨some d,op,ty,p,af,g⟩::ol) fr Q:=by
 have hsz:(Qa (Xp h R) h (mask (Xp h R) h)).size=h.size:=by rw [Y6,ZR]
 have hvv:∀ x,¬ R x ->VV h (Qa (Xp h R) h (mask (Xp h R) h)) (Xp h R) x:=fun x hx=>by
  rcases Nat.lt_or_ge x h.size with z | z
  ·exact .inl ⟨z,ZaY.2 ⟨z,hx⟩⟩
  ·exact .inr (by rw [hsz];exact z)
 refine⟨fun hb=>WE.cons (T:=fun _=>False) (xs0:=Xp h R) (h2:=Qa (Xp h R) h (mask (Xp h R) h)) (v:=v) [(m,fun x=>¬ R x)] [] none ?_ (fun q hq=>?_) (fun _ z=>z.elim) (fun _ z=>z.elim) (fun hh q hq=>(hM.get q hq).imp id fun z x hx=>hvv x (z x hx)) (fun x j C z=>by cases z) ((k _ hsz (hS.up (Up.hide wm _ h))).out fun q hq x hx=>by rw [hsz];exact hb q hq x hx)⟩
 ·have:=Zbz (wm:=wm) (rd:=rd) hg (.inl (ha _ (ZR _ _) fun x hx=>Zxw hx)) (h1:=mask (Xp h R) h) rfl;have t0:(fun x:Nat=>Eff.tgt Eff.none=some x)=fun _=>False:=by funext x;simp [Eff.tgt]
  rw [t0] at this;exact⟨fun hw=>⟨_,rfl,this.1,this.2.1 (by rw [ZR];exact hw)⟩,fun _ z=>z.elim,fun d' e=>(by cases e;rwa [Nat.blt_eq] at hd),fun q=>Bool.noConfusion (hh.symm.trans q),fun _ z=>z.elim⟩
 ·rw [List.mem_singleton.1 hq];exact⟨rfl,fun x hx=>hvv x hx⟩
theorem WX.ZbO {Q:Fr ->H ->Prop} {op:Op} {c:Bool} (hg:Zt ops ⟨some d,op,ty,p,af,g⟩ fr c) (hc:c=false) (hd:Nat.blt d n=true) (k:WX X n wm rd ops sf (m + 1) h ol (Tr.set fr d undef) Q) (hM:okM ops sf m ⟨some d,op,ty,p,af,g⟩=true):WX X n wm rd ops sf m h (⟨some d,op,ty,p,af,g⟩::ol) fr Q:=WX.off (hg.off hc) hd k hM
end
theorem ZCA {β:Type} {b:Bool} {x:Option β} {r:β} (h:(bif b then none else x)=some r):b=false∧x=some r:=by
 cases b
 ·exact⟨rfl,h⟩
 ·cases h
theorem Za8 (b:Bool):b=true∨b=false:=by cases b <;> simp
end Go.YJ
end
end
section
end
section
namespace Go.Proofs.YtbmbbcaaimehkaaGreat
structure Zw where
 here:Bool
 Z8:Int
 age:Int
 deriving DecidableEq,Inhabited
structure Zr where
 msg:Int
 place:Int
 from_:Int
 age:Int
 hops:Int
 deriving DecidableEq,Inhabited
structure Ze where
 kind:Int
 Z8:Int
 Yi:Zr
 qV:(List Int)
 Yh:(List Int)
 place:Int
 at_:Int
 age:Int
 deriving DecidableEq,Inhabited
structure Zb where
 Zv:(List Int)
 qK:(List (List Int))
 qQ:(List (List Zw))
 qJ:(List (List Zr))
 qG:(List Ze)
 said:Int
 deriving DecidableEq,Inhabited
structure ZG where
 deed:Int
 place:Int
 at_:Int
 n:Int
 hops:Int
 deriving DecidableEq,Inhabited
structure ZH where
 act:Int
 a:Int
 b:Int
 deriving DecidableEq,Inhabited
structure XG where
 at_:Int
 age:Int
 letter:Int
 is:Bool
 deriving DecidableEq,Inhabited
structure Ym where
 machine:Int
 here:Bool
 age:Int
 deriving DecidableEq,Inhabited
structure ZV where
 Za:Zb
 Y0:(List Ym)
 deriving DecidableEq,Inhabited
structure Z6 where
 Za:Zb
 qX:(List ZG)
 deriving DecidableEq,Inhabited
def UF (x y:Zw):Bool:= [x.here==y.here,x.Z8==y.Z8,x.age==y.age].all id
def JB (x y:Zr):Bool:= [x.msg==y.msg,x.place==y.place,x.from_==y.from_,x.age==y.age,x.hops==y.hops].all id
def ZeB (x y:Ym):Bool:= [x.machine==y.machine,x.here==y.here,x.age==y.age].all id
def ZHy:Option Bool:=some true
def Zq8 (p0:List Int):Option (List Int):=bif Nat.ble p0.length 1000000 then some (p0.mergeSort fun x y=>decide (x <=y)) else none
end Go.Proofs.YtbmbbcaaimehkaaGreat
end
section
set_option maxRecDepth 100000
noncomputable section
namespace Go.Proofs.YtbmbbcaaimehkaaGreat
open Go.YJ Go.Lf
def Zc:JM Zw where
 sz:=3
 pos:=by decide
 KS:=Unit
 dflt:= ()
 sh:=fun _ x=>[.bool x.here,.int .i64 x.Z8,.int .i64 x.age]
 len:=fun _ _=>rfl
 one:=fun _ _=>rfl
 F:=fun _ _ _ _=>True
 mono:=fun _ x=>x
 up:=fun _ x=>x
def Zg:JM Zr where
 sz:=5
 pos:=by decide
 KS:=Unit
 dflt:= ()
 sh:=fun _ x=>[.int .i64 x.msg,.int .i64 x.place,.int .i64 x.from_,.int .i64 x.age,.int .i64 x.hops]
 len:=fun _ _=>rfl
 one:=fun _ _=>rfl
 F:=fun _ _ _ _=>True
 mono:=fun _ x=>x
 up:=fun _ x=>x
def Zd:JM Ze where
 sz:=12
 pos:=by decide
 KS:= (Option Addr×Nat)×(Option Addr×Nat)
 dflt:= ((none,0),(none,0))
 sh:=fun p x=>[.int .i64 x.kind,.int .i64 x.Z8,.int .i64 x.Yi.msg,.int .i64 x.Yi.place,.int .i64 x.Yi.from_,.int .i64 x.Yi.age,.int .i64 x.Yi.hops,.slice p.1.1 x.qV.length p.1.2,.slice p.2.1 x.Yh.length p.2.2,.int .i64 x.place,.int .i64 x.at_,.int .i64 x.age]
 len:=fun _ _=>rfl
 one:=fun _ _=>rfl
 F:=fun wm h p x=>Sl (Zu .i64) wm h p.1.1 p.1.2 x.qV∧Sl (Zu .i64) wm h p.2.1 p.2.2 x.Yh
 mono:=fun f ⟨y0,y1⟩=>⟨y0.mono f,y1.mono f⟩
 up:=fun f ⟨y0,y1⟩=>⟨y0.up f,y1.up f⟩
def Zn1:JM Zb where
 sz:=6
 pos:=by decide
 KS:= (Option Addr×Nat)×(Option Addr×Nat)×(Option Addr×Nat)×(Option Addr×Nat)×(Option Addr×Nat)
 dflt:= ((none,0),(none,0),(none,0),(none,0),(none,0))
 sh:=fun p x=>[.slice p.1.1 x.Zv.length p.1.2,.slice p.2.1.1 x.qK.length p.2.1.2,.slice p.2.2.1.1 x.qQ.length p.2.2.1.2,.slice p.2.2.2.1.1 x.qJ.length p.2.2.2.1.2,.slice p.2.2.2.2.1 x.qG.length p.2.2.2.2.2,.int .i64 x.said]
 len:=fun _ _=>rfl
 one:=fun _ _=>rfl
 F:=fun wm h p x=>Sl (Zu .i64) wm h p.1.1 p.1.2 x.Zv∧Sl (Zz (Zu .i64)) wm h p.2.1.1 p.2.1.2 x.qK∧Sl (Zz Zc) wm h p.2.2.1.1 p.2.2.1.2 x.qQ∧Sl (Zz Zg) wm h p.2.2.2.1.1 p.2.2.2.1.2 x.qJ∧Sl Zd wm h p.2.2.2.2.1 p.2.2.2.2.2 x.qG
 mono:=fun f ⟨y0,y1,y2,y3,y4⟩=>⟨y0.mono f,y1.mono f,y2.mono f,y3.mono f,y4.mono f⟩
 up:=fun f ⟨y0,y1,y2,y3,y4⟩=>⟨y0.up f,y1.up f,y2.up f,y3.up f,y4.up f⟩
def ZP:JM ZG where
 sz:=5
 pos:=by decide
 KS:=Unit
 dflt:= ()
 sh:=fun _ x=>[.int .i64 x.deed,.int .i64 x.place,.int .i64 x.at_,.int .i64 x.n,.int .i64 x.hops]
 len:=fun _ _=>rfl
 one:=fun _ _=>rfl
 F:=fun _ _ _ _=>True
 mono:=fun _ x=>x
 up:=fun _ x=>x
def Kz:JM ZH where
 sz:=3
 pos:=by decide
 KS:=Unit
 dflt:= ()
 sh:=fun _ x=>[.int .i64 x.act,.int .i64 x.a,.int .i64 x.b]
 len:=fun _ _=>rfl
 one:=fun _ _=>rfl
 F:=fun _ _ _ _=>True
 mono:=fun _ x=>x
 up:=fun _ x=>x
def ZbJ:JM XG where
 sz:=4
 pos:=by decide
 KS:=Unit
 dflt:= ()
 sh:=fun _ x=>[.int .i64 x.at_,.int .i64 x.age,.int .i64 x.letter,.bool x.is]
 len:=fun _ _=>rfl
 one:=fun _ _=>rfl
 F:=fun _ _ _ _=>True
 mono:=fun _ x=>x
 up:=fun _ x=>x
def XB:JM Ym where
 sz:=3
 pos:=by decide
 KS:=Unit
 dflt:= ()
 sh:=fun _ x=>[.int .i64 x.machine,.bool x.here,.int .i64 x.age]
 len:=fun _ _=>rfl
 one:=fun _ _=>rfl
 F:=fun _ _ _ _=>True
 mono:=fun _ x=>x
 up:=fun _ x=>x
theorem Zp2:XX.P.underlying 4=some .bool:=Kq0
theorem YE:XX.P.underlying 22=some (.slice 3):=Kq0
theorem Zd2:XX.P.underlying 24=some (.slice 22):=Kq0
theorem UR:XX.P.underlying 25=some (.slice 64):=Kq0
theorem KZ:XX.P.underlying 26=some (.slice 90):=Kq0
theorem JK:XX.P.underlying 27=some (.slice 95):=Kq0
theorem Zns:XX.P.underlying 41=some (.slice 67):=Kq0
theorem ZDe:XX.P.underlying 46=some (.slice 40):=Kq0
theorem Zgi:XX.P.underlying 54=some (.map 3 3):=Kq0
theorem UQ:XX.P.underlying 64=some (.slice 63):=Kq0
theorem Zbf:XX.P.underlying 90=some (.slice 92):=Kq0
theorem WJ:XX.P.underlying 102=some (.slice 104):=Kq0
theorem Zle:XX.P.underlying 110=some (.slice 4):=Kq0
theorem Zht:XX.P.underlying 124=some (.slice 120):=Kq0
theorem Ze4:XX.P.underlying 143=some (.map 93 142):=Kq0
theorem Xv:YM XX.P 3=some false:=Kq0
theorem ZuW:YM XX.P 4=some false:=Kq0
theorem ZgG:YM XX.P 22=some false:=Kq0
theorem ZzQ:YM XX.P 24=some false:=Kq0
theorem Ztf:YM XX.P 25=some false:=Kq0
theorem Zte:YM XX.P 26=some false:=Kq0
theorem ZzP:YM XX.P 27=some false:=Kq0
theorem ZpD:YM XX.P 29=some true:=Kq0
theorem Zbl:YM XX.P 30=some false:=Kq0
theorem ZNw:YM XX.P 38=some false:=Kq0
theorem ZEm:YM XX.P 40=some true:=Kq0
theorem ZEl:YM XX.P 41=some false:=Kq0
theorem Zk0:YM XX.P 63=some true:=Kq0
theorem WG:YM XX.P 64=some false:=Kq0
theorem ZNv:YM XX.P 65=some false:=Kq0
theorem ZEk:YM XX.P 67=some true:=Kq0
theorem Zdf:YM XX.P 90=some false:=Kq0
theorem ZkZ:YM XX.P 92=some true:=Kq0
theorem ZNu:YM XX.P 93=some false:=Kq0
theorem ZaE:YM XX.P 95=some true:=Kq0
theorem Zjq:YM XX.P 104=some true:=Kq0
theorem ZHY:YM XX.P 116=some false:=Kq0
theorem Zm1:YM XX.P 120=some true:=Kq0
theorem ZzR:YM XX.P 124=some false:=Kq0
theorem YF:Yp XX.P 3=some 1:=Kq0
theorem ZnC:Yp XX.P 4=some 1:=Kq0
theorem U1:Yp XX.P 22=some 1:=Kq0
theorem ZES:Yp XX.P 24=some 1:=Kq0
theorem ZER:Yp XX.P 25=some 1:=Kq0
theorem ZEQ:Yp XX.P 26=some 1:=Kq0
theorem Zlk:Yp XX.P 27=some 1:=Kq0
theorem Zdm:Yp XX.P 29=some 6:=Kq0
theorem ZEP:Yp XX.P 30=some 1:=Kq0
theorem Zqa:Yp XX.P 40=some 3:=Kq0
theorem Zlj:Yp XX.P 41=some 1:=Kq0
theorem XA:Yp XX.P 63=some 3:=Kq0
theorem QZ:Yp XX.P 64=some 1:=Kq0
theorem Ze8:Yp XX.P 67=some 5:=Kq0
theorem Jf:Yp XX.P 90=some 1:=Kq0
theorem Uq:Yp XX.P 92=some 5:=Kq0
theorem Y4:Yp XX.P 95=some 12:=Kq0
theorem X6:Yp XX.P 104=some 4:=Kq0
theorem ZAQ:Yp XX.P 116=some 1:=Kq0
theorem Wl:Yp XX.P 120=some 3:=Kq0
theorem ZCl:ZI XX.P 29 0 0:=ZI.of Kq0
theorem ZCk:ZI XX.P 29 1 1:=ZI.of Kq0
theorem ZCj:ZI XX.P 29 2 2:=ZI.of Kq0
theorem ZCi:ZI XX.P 29 3 3:=ZI.of Kq0
theorem Zg8:ZI XX.P 29 4 4:=ZI.of Kq0
theorem ZCh:ZI XX.P 29 5 5:=ZI.of Kq0
theorem ZCg:ZI XX.P 40 0 0:=ZI.of Kq0
theorem ZCf:ZI XX.P 40 1 1:=ZI.of Kq0
theorem ZsU:ZI XX.P 40 2 2:=ZI.of Kq0
theorem ZCe:ZI XX.P 63 0 0:=ZI.of Kq0
theorem ZCd:ZI XX.P 63 1 1:=ZI.of Kq0
theorem ZCc:ZI XX.P 63 2 2:=ZI.of Kq0
theorem ZCb:ZI XX.P 67 0 0:=ZI.of Kq0
theorem ZCa:ZI XX.P 67 1 1:=ZI.of Kq0
theorem ZB9:ZI XX.P 67 2 2:=ZI.of Kq0
theorem ZB8:ZI XX.P 67 3 3:=ZI.of Kq0
theorem ZB7:ZI XX.P 67 4 4:=ZI.of Kq0
theorem ZB6:ZI XX.P 92 0 0:=ZI.of Kq0
theorem ZB5:ZI XX.P 92 1 1:=ZI.of Kq0
theorem ZB4:ZI XX.P 92 2 2:=ZI.of Kq0
theorem ZB3:ZI XX.P 92 3 3:=ZI.of Kq0
theorem ZB2:ZI XX.P 92 4 4:=ZI.of Kq0
theorem ZB1:ZI XX.P 95 0 0:=ZI.of Kq0
theorem ZB0:ZI XX.P 95 1 1:=ZI.of Kq0
theorem ZBZ:ZI XX.P 95 2 2:=ZI.of Kq0
theorem ZBY:ZI XX.P 95 3 7:=ZI.of Kq0
theorem Zl7:ZI XX.P 95 4 8:=ZI.of Kq0
theorem ZBX:ZI XX.P 95 5 9:=ZI.of Kq0
theorem ZsT:ZI XX.P 95 6 10:=ZI.of Kq0
theorem ZsS:ZI XX.P 95 7 11:=ZI.of Kq0
theorem Zet:ZI XX.P 100 0 0:=ZI.of Kq0
theorem Zes:ZI XX.P 100 1 6:=ZI.of Kq0
theorem ZyO:ZI XX.P 104 0 0:=ZI.of Kq0
theorem ZyN:ZI XX.P 104 1 1:=ZI.of Kq0
theorem ZyM:ZI XX.P 104 2 2:=ZI.of Kq0
theorem ZyL:ZI XX.P 104 3 3:=ZI.of Kq0
theorem ZyK:ZI XX.P 120 0 0:=ZI.of Kq0
theorem ZyJ:ZI XX.P 120 1 1:=ZI.of Kq0
theorem ZyI:ZI XX.P 120 2 2:=ZI.of Kq0
theorem ZyH:ZI XX.P 126 0 0:=ZI.of Kq0
theorem ZyG:ZI XX.P 126 1 6:=ZI.of Kq0
theorem WQ:Y5 XX.P 3=some (.int .i64 0):=Kq0
theorem ZC7:Y5 XX.P 4=some (.bool false):=Kq0
theorem Zvj:Y5 XX.P 22=some (.slice none 0 0):=Kq0
theorem ZpS:Y5 XX.P 29=some (.agg #[.slice none 0 0,.slice none 0 0,.slice none 0 0,.slice none 0 0,.slice none 0 0,.int .i64 0]):=Kq0
theorem ZEu:Y5 XX.P 30=some (.int .i64 0):=Kq0
theorem ZEt:Y5 XX.P 40=some (.agg #[.int .i64 0,.int .i64 0,.int .i64 0]):=Kq0
theorem Zho:Y5 XX.P 63=some (.agg #[.bool false,.int .i64 0,.int .i64 0]):=Kq0
theorem Zvi:Y5 XX.P 64=some (.slice none 0 0):=Kq0
theorem Zhn:Y5 XX.P 67=some (.agg #[.int .i64 0,.int .i64 0,.int .i64 0,.int .i64 0,.int .i64 0]):=Kq0
theorem Zvh:Y5 XX.P 90=some (.slice none 0 0):=Kq0
theorem Zhm:Y5 XX.P 92=some (.agg #[.int .i64 0,.int .i64 0,.int .i64 0,.int .i64 0,.int .i64 0]):=Kq0
theorem Zdh:Y5 XX.P 95=some (.agg #[.int .i64 0,.int .i64 0,.int .i64 0,.int .i64 0,.int .i64 0,.int .i64 0,.int .i64 0,.slice none 0 0,.slice none 0 0,.int .i64 0,.int .i64 0,.int .i64 0]):=Kq0
theorem ZrW:Y5 XX.P 100=some (.agg #[.slice none 0 0,.slice none 0 0,.slice none 0 0,.slice none 0 0,.slice none 0 0,.int .i64 0,.slice none 0 0]):=Kq0
theorem Zk3:Y5 XX.P 104=some (.agg #[.int .i64 0,.int .i64 0,.int .i64 0,.bool false]):=Kq0
theorem ZAs:Y5 XX.P 116=some (.nilFunc):=Kq0
theorem Zk2:Y5 XX.P 120=some (.agg #[.int .i64 0,.bool false,.int .i64 0]):=Kq0
theorem ZrV:Y5 XX.P 126=some (.agg #[.slice none 0 0,.slice none 0 0,.slice none 0 0,.slice none 0 0,.slice none 0 0,.int .i64 0,.slice none 0 0]):=Kq0
theorem ZgU:Y5 XX.P 142=some (.nilFunc):=Kq0
theorem Zzx:Wu XX.P 29 [.slice none 0 0,.slice none 0 0,.slice none 0 0,.slice none 0 0,.slice none 0 0,.int .i64 0] [(0,1),(1,1),(2,1),(3,1),(4,1),(5,1)]:= ⟨_,_,ZpS,rfl,Tryz.underlying29,by kernel_rfl⟩
theorem Ztc:Wu XX.P 63 [.bool false,.int .i64 0,.int .i64 0] [(0,1),(1,1),(2,1)]:= ⟨_,_,Zho,rfl,Tryz.underlying63,by kernel_rfl⟩
theorem Zzw:Wu XX.P 67 [.int .i64 0,.int .i64 0,.int .i64 0,.int .i64 0,.int .i64 0] [(0,1),(1,1),(2,1),(3,1),(4,1)]:= ⟨_,_,Zhn,rfl,Tryz.underlying67,by kernel_rfl⟩
theorem ZEh:Wu XX.P 92 [.int .i64 0,.int .i64 0,.int .i64 0,.int .i64 0,.int .i64 0] [(0,1),(1,1),(2,1),(3,1),(4,1)]:= ⟨_,_,Zhm,rfl,Tryz.underlying92,by kernel_rfl⟩
theorem Ztb:Wu XX.P 95 [.int .i64 0,.int .i64 0,.int .i64 0,.int .i64 0,.int .i64 0,.int .i64 0,.int .i64 0,.slice none 0 0,.slice none 0 0,.int .i64 0,.int .i64 0,.int .i64 0] [(0,1),(1,1),(2,5),(7,1),(8,1),(9,1),(10,1),(11,1)]:= ⟨_,_,Zdh,rfl,Tryz.underlying95,by kernel_rfl⟩
theorem ZHT:Wu XX.P 100 [.slice none 0 0,.slice none 0 0,.slice none 0 0,.slice none 0 0,.slice none 0 0,.int .i64 0,.slice none 0 0] [(0,6),(6,1)]:= ⟨_,_,ZrW,rfl,Tryz.underlying100,by kernel_rfl⟩
theorem Zzy:Wu XX.P 104 [.int .i64 0,.int .i64 0,.int .i64 0,.bool false] [(0,1),(1,1),(2,1),(3,1)]:= ⟨_,_,Zk3,rfl,Tryz.underlying104,by kernel_rfl⟩
theorem Zrw:Wu XX.P 120 [.int .i64 0,.bool false,.int .i64 0] [(0,1),(1,1),(2,1)]:= ⟨_,_,Zk2,rfl,Tryz.underlying120,by kernel_rfl⟩
theorem ZHS:Wu XX.P 126 [.slice none 0 0,.slice none 0 0,.slice none 0 0,.slice none 0 0,.slice none 0 0,.int .i64 0,.slice none 0 0] [(0,6),(6,1)]:= ⟨_,_,ZrV,rfl,Tryz.underlying126,by kernel_rfl⟩
theorem JF:ZaI XX.P #[22,22] 1 8:= ⟨3,.int .i64 0,by kernel_rfl⟩
theorem ZzG:ZaI XX.P #[24,24] 1 24:= ⟨22,.slice none 0 0,by kernel_rfl⟩
theorem ZzF:ZaI XX.P #[25,25] 1 24:= ⟨64,.slice none 0 0,by kernel_rfl⟩
theorem ZzE:ZaI XX.P #[26,26] 1 24:= ⟨90,.slice none 0 0,by kernel_rfl⟩
theorem Zcl:ZaI XX.P #[27,27] 12 128:= ⟨95,.agg #[.int .i64 0,.int .i64 0,.int .i64 0,.int .i64 0,.int .i64 0,.int .i64 0,.int .i64 0,.slice none 0 0,.slice none 0 0,.int .i64 0,.int .i64 0,.int .i64 0],by kernel_rfl⟩
theorem Zjp:ZaI XX.P #[41,41] 5 40:= ⟨67,.agg #[.int .i64 0,.int .i64 0,.int .i64 0,.int .i64 0,.int .i64 0],by kernel_rfl⟩
theorem ZzD:ZaI XX.P #[64,64] 3 24:= ⟨63,.agg #[.bool false,.int .i64 0,.int .i64 0],by kernel_rfl⟩
theorem Zjo:ZaI XX.P #[90,90] 5 40:= ⟨92,.agg #[.int .i64 0,.int .i64 0,.int .i64 0,.int .i64 0,.int .i64 0],by kernel_rfl⟩
theorem ZMK (x y:Zw):ZAb XX.P 63 (Zc.sh () x) (Zc.sh () y) (UF x y):=
 ⟨by kernel_rfl,ZfT (d:=9999) (bs:= [x.here==y.here,x.Z8==y.Z8,x.age==y.age]) Tryz.underlying63 Kq0 ⟨⟨by decide,_,_,YQ Kq0 rfl,YQ Kq0 rfl,ZmE Kq0⟩,⟨by decide,_,_,YQ Kq0 rfl,YQ Kq0 rfl,eq_int Kq0⟩,⟨by decide,_,_,YQ Kq0 rfl,YQ Kq0 rfl,eq_int Kq0⟩,trivial⟩⟩
theorem ZEc (x y:Zr):ZAb XX.P 92 (Zg.sh () x) (Zg.sh () y) (JB x y):=
 ⟨by kernel_rfl,ZfT (d:=9999) (bs:= [x.msg==y.msg,x.place==y.place,x.from_==y.from_,x.age==y.age,x.hops==y.hops]) Tryz.underlying92 Kq0 ⟨⟨by decide,_,_,YQ Kq0 rfl,YQ Kq0 rfl,eq_int Kq0⟩,⟨by decide,_,_,YQ Kq0 rfl,YQ Kq0 rfl,eq_int Kq0⟩,⟨by decide,_,_,YQ Kq0 rfl,YQ Kq0 rfl,eq_int Kq0⟩,⟨by decide,_,_,YQ Kq0 rfl,YQ Kq0 rfl,eq_int Kq0⟩,⟨by decide,_,_,YQ Kq0 rfl,YQ Kq0 rfl,eq_int Kq0⟩,trivial⟩⟩
theorem ZHz (x y:Ym):ZAb XX.P 120 (XB.sh () x) (XB.sh () y) (ZeB x y):=
 ⟨by kernel_rfl,ZfT (d:=9999) (bs:= [x.machine==y.machine,x.here==y.here,x.age==y.age]) Tryz.underlying120 Kq0 ⟨⟨by decide,_,_,YQ Kq0 rfl,YQ Kq0 rfl,eq_int Kq0⟩,⟨by decide,_,_,YQ Kq0 rfl,YQ Kq0 rfl,ZmE Kq0⟩,⟨by decide,_,_,YQ Kq0 rfl,YQ Kq0 rfl,eq_int Kq0⟩,trivial⟩⟩
theorem Zop:Zgf XX.P 3 (Value.int .i64):=Zgf.int Kq0
theorem ZkG:Zgf XX.P 93 (Value.int .i64):=Zgf.int Kq0
theorem ZNj:Za7 XX.P 4=some 1:=Kq0
theorem ZCI:Za7 XX.P 104=some 32:=Kq0
theorem ZCH:Za7 XX.P 120=some 24:=Kq0
theorem ZDY:(XX.fns.get 14).isSome=true:=Kq0
theorem ZKU:(XX.fns.get 19).isSome=true:=Kq0
theorem ZKT:(XX.fns.get 20).isSome=true:=Kq0
theorem ZDX:(XX.fns.get 21).isSome=true:=Kq0
theorem ZKS:(XX.fns.get 28).isSome=true:=Kq0
theorem ZKR:(XX.fns.get 32).isSome=true:=Kq0
theorem ZkK:(XX.fns.get 33).isSome=true:=Kq0
theorem ZKQ:(XX.fns.get 35).isSome=true:=Kq0
theorem ZKP:(XX.fns.get 36).isSome=true:=Kq0
theorem ZKO:(XX.fns.get 41).isSome=true:=Kq0
theorem ZKN:(XX.fns.get 47).isSome=true:=Kq0
theorem ZKM:(XX.fns.get 48).isSome=true:=Kq0
theorem ZKL:(XX.fns.get 49).isSome=true:=Kq0
theorem ZKK:(XX.fns.get 50).isSome=true:=Kq0
theorem ZKJ:(XX.fns.get 51).isSome=true:=Kq0
theorem ZDW:(XX.fns.get 52).isSome=true:=Kq0
theorem ZxF:(XX.fns.get 53).isSome=true:=Kq0
theorem ZDV:(XX.fns.get 54).isSome=true:=Kq0
theorem ZKI:(XX.fns.get 55).isSome=true:=Kq0
theorem ZKH:(XX.fns.get 65).isSome=true:=Kq0
theorem Zgw:(XX.fns.get 67).isSome=true:=Kq0
theorem ZKG:(XX.fns.get 68).isSome=true:=Kq0
theorem ZKF:(XX.fns.get 69).isSome=true:=Kq0
theorem ZKE:(XX.fns.get 70).isSome=true:=Kq0
theorem ZKD:(XX.fns.get 71).isSome=true:=Kq0
theorem ZKC:(XX.fns.get 72).isSome=true:=Kq0
theorem ZKB:(XX.fns.get 73).isSome=true:=Kq0
theorem ZDU:(XX.fns.get 74).isSome=true:=Kq0
theorem ZsH:(XX.fns.get 75).isSome=true:=Kq0
theorem ZDT:(XX.fns.get 76).isSome=true:=Kq0
theorem ZxE:(XX.fns.get 77).isSome=true:=Kq0
theorem ZxD:(XX.fns.get 78).isSome=true:=Kq0
theorem ZDS:(XX.fns.get 79).isSome=true:=Kq0
theorem ZsG:(XX.fns.get 80).isSome=true:=Kq0
theorem ZKA:(XX.fns.get 81).isSome=true:=Kq0
theorem ZKz:(XX.fns.get 82).isSome=true:=Kq0
theorem ZKy:(XX.fns.get 83).isSome=true:=Kq0
theorem ZDR:(XX.fns.get 84).isSome=true:=Kq0
theorem ZKx:(XX.fns.get 85).isSome=true:=Kq0
theorem ZKw:(XX.fns.get 86).isSome=true:=Kq0
theorem ZKv:(XX.fns.get 88).isSome=true:=Kq0
theorem ZKu:(XX.fns.get 89).isSome=true:=Kq0
theorem ZKt:(XX.fns.get 90).isSome=true:=Kq0
theorem ZKs:(XX.fns.get 91).isSome=true:=Kq0
theorem ZKr:(XX.fns.get 92).isSome=true:=Kq0
theorem ZxC:(XX.fns.get 93).isSome=true:=Kq0
theorem ZDQ:(XX.fns.get 94).isSome=true:=Kq0
theorem ZxB:(XX.fns.get 95).isSome=true:=Kq0
theorem ZDP:(XX.fns.get 96).isSome=true:=Kq0
theorem ZxA:(XX.fns.get 97).isSome=true:=Kq0
theorem Zif:(XX.fns.get 98).isSome=true:=Kq0
theorem ZKq:(XX.fns.get 99).isSome=true:=Kq0
theorem ZxH:(XX.fns.get 100).isSome=true:=Kq0
theorem ZFH:(XX.fns.get 101).isSome=true:=Kq0
theorem ZFG:(XX.fns.get 102).isSome=true:=Kq0
theorem ZxG:(XX.fns.get 103).isSome=true:=Kq0
theorem ZFF:(XX.fns.get 104).isSome=true:=Kq0
theorem ZFE:(XX.fns.get 105).isSome=true:=Kq0
theorem ZFD:(XX.fns.get 106).isSome=true:=Kq0
theorem ZFB:(XX.fns.get 109).isSome=true:=Kq0
end Go.Proofs.YtbmbbcaaimehkaaGreat
end
end
section
noncomputable section
namespace Go.YJ
open Go.Lf
class Zcr (P:Program) (t:TypeId):Prop where
 out:YM P t=some false
class Zna (P:Program) (t:TypeId):Prop where
 out:YM P t=some true
class SzF (P:Program) (t:TypeId) (n:outParam Nat):Prop where
 out:Yp P t=some n
class Qw (P:Program) (t:TypeId) (f:Nat) (o:outParam Nat):Prop where
 out:ZI P t f o
class Zge (P:Program) (t:TypeId) (e:outParam TypeId):Prop where
 out:P.underlying t=some (.slice e)
class ZIa (P:Program) (t:TypeId):Prop where
 out:P.underlying t=some .bool
class Zbd (P:Program) (t:TypeId) (v:outParam Value):Prop where
 out:Y5 P t=some v
theorem ia {v:Value} (h:Jy v=false):Jy v=false:=h
theorem KX {fr:Fr} {t:Nat} {c:Bool} {v:Value} (h:fr.at t=cond c v undef) (ha:Jy v=false) (hc:c=true):Yu fr (.tmp t)=some v:=YX h ha hc
section
variable {X:Ctx} {h:H} {fr:Fr} {ty:TypeId} {p':String} {af:Array Edge} {g:Option (Nat×Bool)} {d:Option Tmp} {wm:Nat} {T:Nat ->Prop} {h0:H} {G Gr:List (Ast wm)}
theorem ZNo {x:Operand} {t:TypeId} {f off b o:Nat} [hf:Qw X.P t f off] (hx:Yu fr x=some (.pointer (some ⟨b,o,none⟩))):XM X h (Yu fr) ⟨d,.fieldAddr t x f,ty,p',af,g⟩=some (.val (.pointer (some ⟨b,o + off,none⟩)),.none):=J6 hf.out hx
theorem ZRs {x:Operand} {t:TypeId} {b oo:Nat} {vs:List Value} {v:Value} [ht:Zcr X.P t] (hx:Yu fr x=some (.pointer (some ⟨b,oo,none⟩))) (hS:Sp wm T h0 G h) (pp:Pk G (bx wm b vs) Gr) (hv:vs[oo]? =some v):
 XM X h (Yu fr) ⟨d,.load t x,ty,p',af,g⟩=some (.val v,.none):=ZW ht.out hx (hS.atB pp) (Nat.zero_add _).symm hv
theorem ZNn {x:Operand} {t:TypeId} {b oo sz:Nat} {vs ws:List Value} [ht:Zna X.P t] [hs:SzF X.P t sz] (hx:Yu fr x=some (.pointer (some ⟨b,oo,none⟩))) (hS:Sp wm T h0 G h) (pp:Pk G (bx wm b vs) Gr) (hj:Nat.ble (oo + sz) vs.length=true) (hv:(vs.drop oo).take sz=ws):
 XM X h (Yu fr) ⟨d,.load t x,ty,p',af,g⟩=some (.val (.agg ws.toArray),.none):=Xh ht.out hs.out hx (hS.atB pp) (Nat.zero_add _).symm hj hv
theorem ZNp {dd:Tmp} {x:Operand} {t:TypeId} {v:Value} {vs:List Value} (hx:Yu fr x=some v) (hS:Sp wm T h0 G h) (hv:v.cells.toList=vs):
 HN X wm ⟨some dd,.box t x,ty,p',af,g⟩ fr h (fun v h'=>∃ b,h.size=b∧v= .pointer (some ⟨b,0,none⟩)∧Sp wm T h0 (bx wm b vs::G) h'):=ZDj hS hx hv
theorem ZNq {dd:Tmp} {t:TypeId} {v:Value} {vs:List Value} [hz:Zbd X.P t v] (hS:Sp wm T h0 G h) (hv:v.cells.toList=vs):
 HN X wm ⟨some dd,.alloc t,ty,p',af,g⟩ fr h (fun v h'=>∃ b,h.size=b∧v= .pointer (some ⟨b,0,none⟩)∧Sp wm T h0 (bx wm b vs::G) h'):=Zr8 hS hz.out hv
theorem ZRr {x y:Operand} {t:TypeId} {b o sz:Nat} {cs cs' vs:List Value} {v:Value} [hs:SzF X.P t sz] (hx:Yu fr x=some (.pointer (some ⟨b,o,none⟩))) (hS:Sp wm T h0 G h) (pk:Pk G (bx wm b cs) Gr) (hy:Yu fr y=some v)
 (hvs:v.cells.toList=vs) (hn:Nat.beq vs.length sz=true) (hl:Nat.ble (o + sz) cs.length=true) (hc:vs.all Value.oneCell'=true) (hv:splice cs o vs=cs'):
 HU X wm ⟨none,.store t x y,ty,p',af,g⟩ fr h (fun i=>i=b) (fun h'=>Sp wm T h0 (bx wm b cs'::Gr) h'):=ZaQ hS pk hs.out hx hy hvs hn hl hc hv
theorem ZNm {x:Operand} {t e':TypeId} {a:Option Addr} {mm cc dd:Nat} [hu:Zge X.P t e'] (hx:Yu fr x=some (.slice a mm cc)):
 XM X h (Yu fr) ⟨some dd,.call {callee:= .builtin .len,args:=#[x],argTypes:=#[t]},ty,p',af,g⟩=some (.val (.int .i64 (mm:Int)),.none):=ZcP hu.out hx rfl
end
section
variable {X:Ctx} {n wm:Nat} {rd:Option Nat} {ops:Array Oper} {l:List Oper} {fr:Fr} {ds:List Deferred} {h:H} {ty:TypeId} {p:String} {af:Array Edge} {g:Option (Nat×Bool)} {sf:ST} {m:Nat}
theorem WX.w2 {Q:Fr ->H ->Prop} {d:Nat} {op:Op} {v:Value} (hg:Yk ops ⟨some d,op,ty,p,af,g⟩ fr) (hd:Nat.blt d n=true) (hM:okM ops sf m ⟨some d,op,ty,p,af,g⟩=true) (ha:XM X h (Yu fr) ⟨some d,op,ty,p,af,g⟩=some (.val v,.none)) (k:WX X n wm rd ops sf (m + 1) h l (Tr.set fr d v) Q):
 WX X n wm rd ops sf m h (⟨some d,op,ty,p,af,g⟩::l) fr Q:=WX.w hg hd ha k hM
theorem WX.gv2 {Q:Fr ->H ->Prop} {d:Nat} {op:Op} {c:Bool} {v:Value} (hg:Zt ops ⟨some d,op,ty,p,af,g⟩ fr c) (hd:Nat.blt d n=true) (hM:okM ops sf m ⟨some d,op,ty,p,af,g⟩=true) (ha:c=true ->XM X h (Yu fr) ⟨some d,op,ty,p,af,g⟩=some (.val v,.none)) (k:WX X n wm rd ops sf (m + 1) h l (Tr.set fr d (cond c v undef)) Q):
 WX X n wm rd ops sf m h (⟨some d,op,ty,p,af,g⟩::l) fr Q:=WX.gv hg hd ha k hM
end
structure Kp (q:Prop):Prop where
 out:q
section
variable {X:Ctx} {n wm:Nat} {rd:Option Nat} {Q:XX ->Fs ->Prop}
theorem E0 {p:Prop}(h:p:=by(focus (repeat (first | with_reducible exact fh | ((with_reducible apply Y8);exact rfl) | ((with_reducible apply Y3);exact rfl) | ((with_reducible apply YA);exact rfl) | ((with_reducible apply Zy);exact rfl) | with_reducible assumption));first|done|fail)):p:=h
theorem cn {c:Operand} {a b:Code} {t:Bool} {fr:Fr} {ds:List Deferred} {h:H} {α:Type} {x y r:α} (hL:(bif t then x else y)=r) (h1:t=true ->x=r ->WC X n wm rd a ⟨fr,ds,h,none⟩ Q) (h2:t=false ->y=r ->WC X n wm rd b ⟨fr,ds,h,none⟩ Q) (hc:Yu fr c=some (.bool t):=by(first | exact evC rfl | (apply Yo;exact E0;(first | exact ia rfl | assumption)) | (apply KX;exact E0;(first | exact ia rfl | assumption);assumption) | fail)):WC X n wm rd (.cond c a b) ⟨fr,ds,h,none⟩ Q:=
 WC.ZM7 hc (fun e=>h1 e (JV e hL)) (fun e=>h2 e (JW e hL))
theorem rt {fn:Func} {fr:Fr} {h h0:H} {T:Nat ->Prop} {G G':List (Ast wm)} {wr:Option Nat} {t:Tmp} {β:Type} {x r:β} {g:β ->Value} (hL:some x=some r) (hT:T=X8 G) (hS:Sp wm T h0 G' h) (hr:fn.results.toList= [.tmp t]:=by exact rfl) (hv:Yu fr (.tmp t)=some (g x):=by(first | exact evC rfl | (apply Yo;exact E0;(first | exact ia rfl | assumption)) | (apply KX;exact E0;(first | exact ia rfl | assumption);assumption) | fail)):
 Yl X fn (fun e h'=>∃ v,e= .ret v∧CP (fun v Gb=>v=g r∧Gb= []) G h0 v h') .ret ⟨fr,[],h,wr⟩:=by
 cases hL;exact Yl.Qd hr (ZU hv ZB) ⟨_,⟨rfl,rfl⟩,hT ▸ hS.only .n⟩
theorem bg {f:FuncId} {fn:Func} {c:Code} {args:List Value} {n:Nat} {K:Value ->List (Ast wm) ->Prop} {G:List (Ast wm)} {h:H} {fr:Fr} (hnt:fn.ntmps=n) (ZX:wm <=h.size) (hO:Yd G h)
 (k:∀ T,T=X8 (wm:=wm) G ->Sp wm T h G h ->WC X n wm none c ⟨fr,[],h,none⟩ (Yl X fn (fun e h'=>∃ v,e= .ret v∧CP K G h v h'))) (hf:X.fns.get f=some fn:=by kernel_rfl) (hb:fn.body=some c:=by exact rfl) (hn:args.length <=n:=by simp)
 (hfr:X7 args 0 .nil=fr:=by(simp only [Z7,Z9,Nat.reduceAdd];exact rfl)):WR X f args.toArray wm h (CP K G h):=by
 subst hfr;exact WF.begin hf hb hnt hn (k _ rfl (Sp.start ZX hO))
end
theorem lk {p:Prop} (h:p:=by(first | exact evC rfl | (apply Yo;exact E0;(first | exact ia rfl | assumption)) | (apply KX;exact E0;(first | exact ia rfl | assumption);assumption) | fail)):p:=h
theorem lks {p:Prop} (h:p:=by
 repeat (first | exact Zx | (apply Zf;(focus (first | exact evC rfl | (apply Yo;exact E0;(first | exact ia rfl | assumption)) | (apply KX;exact E0;(first | exact ia rfl | assumption);assumption) | fail);done)))
 done):p:=h
theorem YD {p:Prop} (h:p:=by
 repeat (first | with_reducible exact fh | ((with_reducible apply Y8);exact rfl) | ((with_reducible apply Y3);exact rfl) | ((with_reducible apply YA);exact rfl) | ((with_reducible apply Zy);exact rfl) | with_reducible assumption | refine⟨?_,?_⟩)
 done):p:=h
theorem r1 {p q:Prop} (k:q) (h:Kp q ->p:=by
 intro k
 first
 | refine WO.nil ?_
 | refine Zkj.Y2 ?_
 | refine WC.seq ?_
 | refine WC.region ?_
 | ((first | apply WO.w gN rfl | (apply WO.gv;(focus (first | (apply Zt.yes rfl rfl rfl;exact E0) | (apply Zt.no rfl rfl rfl;exact E0) | (apply Zt.ZjD rfl rfl rfl;exact E0) | (apply Zt.no2 rfl rfl rfl;exact E0) | fail);done);rfl;intro hg) | (apply WX.w2 gN;rfl;rfl) | (apply WX.gv2;(focus (first | (apply Zt.yes rfl rfl rfl;exact E0) | (apply Zt.no rfl rfl rfl;exact E0) | (apply Zt.ZjD rfl rfl rfl;exact E0) | (apply Zt.no2 rfl rfl rfl;exact E0) | fail);done);rfl;rfl;intro hg));(focus (first
   | ((with_reducible apply ZCM);(first | exact evC rfl | (apply Yo;exact E0;(first | exact ia rfl | assumption)) | (apply KX;exact E0;(first | exact ia rfl | assumption);assumption) | fail))
   | ((with_reducible apply ZRs);(focus (first | exact evC rfl | (apply Yo;exact E0;(first | exact ia rfl | assumption)) | (apply KX;exact E0;(first | exact ia rfl | assumption);assumption) | fail);done);assumption;(focus (first | exact k0 | exact k1 | exact k2 | exact k3 | exact k4 | exact k5 | exact k6 | exact k7 | (repeat (first | exact k7 | apply Pk.s)));done);rfl)
   | ((with_reducible apply ZNo);(first | exact evC rfl | (apply Yo;exact E0;(first | exact ia rfl | assumption)) | (apply KX;exact E0;(first | exact ia rfl | assumption);assumption) | fail))
   | ((with_reducible apply ZcQ);(first | exact evC rfl | (apply Yo;exact E0;(first | exact ia rfl | assumption)) | (apply KX;exact E0;(first | exact ia rfl | assumption);assumption) | fail))
   | ((with_reducible apply JE);(focus (first | exact evC rfl | (apply Yo;exact E0;(first | exact ia rfl | assumption)) | (apply KX;exact E0;(first | exact ia rfl | assumption);assumption) | fail);done);(focus (first | exact evC rfl | (apply Yo;exact E0;(first | exact ia rfl | assumption)) | (apply KX;exact E0;(first | exact ia rfl | assumption);assumption) | fail);done);(first | with_reducible exact Zu1 | with_reducible exact Zz0 | with_reducible exact ZzW | with_reducible exact ZzV | with_reducible exact ZuY | with_reducible exact ZzY | with_reducible exact ZzZ | with_reducible exact ZzX | with_reducible exact ZuZ | with_reducible exact Zu0 ZIa.out | with_reducible exact Wh ZIa.out))
   | ((with_reducible apply ZNn);(focus (first | exact evC rfl | (apply Yo;exact E0;(first | exact ia rfl | assumption)) | (apply KX;exact E0;(first | exact ia rfl | assumption);assumption) | fail);done);assumption;(focus (first | exact k0 | exact k1 | exact k2 | exact k3 | exact k4 | exact k5 | exact k6 | exact k7 | (repeat (first | exact k7 | apply Pk.s)));done);rfl;(focus simp only [Nat.zero_add,Nat.reduceAdd,List.drop_succ_cons,List.drop_zero,List.take_succ_cons,List.take_zero,List.take_nil];rfl))
   | ((with_reducible apply ZNm);(first | exact evC rfl | (apply Yo;exact E0;(first | exact ia rfl | assumption)) | (apply KX;exact E0;(first | exact ia rfl | assumption);assumption) | fail))
   | ((with_reducible apply Zry);(focus (first | exact evC rfl | (apply Yo;exact E0;(first | exact ia rfl | assumption)) | (apply KX;exact E0;(first | exact ia rfl | assumption);assumption) | fail);done);rfl)
   | ((with_reducible apply Zjk);(first | exact evC rfl | (apply Yo;exact E0;(first | exact ia rfl | assumption)) | (apply KX;exact E0;(first | exact ia rfl | assumption);assumption) | fail))
   | ((with_reducible apply ZdK);(first | exact evC rfl | (apply Yo;exact E0;(first | exact ia rfl | assumption)) | (apply KX;exact E0;(first | exact ia rfl | assumption);assumption) | fail))
   | ((with_reducible apply Zjl);(focus (first | exact evC rfl | (apply Yo;exact E0;(first | exact ia rfl | assumption)) | (apply KX;exact E0;(first | exact ia rfl | assumption);assumption) | fail);done);(focus (apply ZMH;exact E0);done);(first | exact evC rfl | (apply Yo;exact E0;(first | exact ia rfl | assumption)) | (apply KX;exact E0;(first | exact ia rfl | assumption);assumption) | fail))
   | ((with_reducible apply Zpv);(focus (first | exact evC rfl | (apply Yo;exact E0;(first | exact ia rfl | assumption)) | (apply KX;exact E0;(first | exact ia rfl | assumption);assumption) | fail);done);(focus (first | exact evC rfl | (apply Yo;exact E0;(first | exact ia rfl | assumption)) | (apply KX;exact E0;(first | exact ia rfl | assumption);assumption) | fail);done);(apply ZMH;exact E0))
   | fail)))
 | (apply WO.hu gN;(focus (first | (((with_reducible apply ZRr));(focus (first | exact evC rfl | (apply Yo;exact E0;(first | exact ia rfl | assumption)) | (apply KX;exact E0;(first | exact ia rfl | assumption);assumption) | fail);done);assumption;(focus (first | exact k0 | exact k1 | exact k2 | exact k3 | exact k4 | exact k5 | exact k6 | exact k7 | (repeat (first | exact k7 | apply Pk.s)));done);(focus (first | exact evC rfl | (apply Yo;exact E0;(first | exact ia rfl | assumption)) | (apply KX;exact E0;(first | exact ia rfl | assumption);assumption) | fail);done);(focus (first | (simp only [Zf3,ZdH,Zce,Zf1,Zf2,Zf5,Za6,cells_func,Zah,KN,Zcf];exact rfl) | exact rfl));exact rfl;exact rfl;exact rfl;(focus simp only [splice,List.take_succ_cons,List.take_zero,List.drop_succ_cons,List.drop_zero,List.cons_append,List.nil_append,List.append_nil,List.length_cons,List.length_nil,Nat.reduceAdd,Nat.zero_add,List.take_nil,List.drop_nil];exact rfl)) | fail)))
 | (apply WO.hn gN rfl;(focus (first | (((with_reducible apply ZNp));(focus (first | exact evC rfl | (apply Yo;exact E0;(first | exact ia rfl | assumption)) | (apply KX;exact E0;(first | exact ia rfl | assumption);assumption) | fail);done);assumption;(focus (first | (simp only [Zf3,ZdH,Zce,Zf1,Zf2,Zf5,Za6,cells_func,Zah,KN,Zcf];exact rfl) | exact rfl))) | (((with_reducible apply ZNq));assumption;(focus (first | (simp only [Zf3,ZdH,Zce,Zf1,Zf2,Zf5,Za6,cells_func,Zah,KN,Zcf];exact rfl) | exact rfl))) | fail)))
 | refine WC.skip ?_
 | refine WC.ret ?_
 | refine WC.block ?_
 | refine WC.exit ?_
 | refine Zkj.ret ?_
 | refine Zkj.exit ?_
 | refine UN.ret ?_
 | refine UN.Y2 ?_
 | refine UN.here ?_
 | refine Ye.exit ?_
 | refine Ye.ret ?_
 | refine WX.nil ?_
 | fail
 exact k.out):p:=h ⟨k⟩
theorem r2 {p q:Prop} (k:q) (h:Kp q ->p:=by
 intro k
 iterate 2 (refine r1 ?_)
 exact k.out):p:=h ⟨k⟩
theorem r3 {p q:Prop} (k:q) (h:Kp q ->p:=by
 intro k
 iterate 3 (refine r1 ?_)
 exact k.out):p:=h ⟨k⟩
theorem r4 {p q:Prop} (k:q) (h:Kp q ->p:=by
 intro k
 iterate 4 (refine r1 ?_)
 exact k.out):p:=h ⟨k⟩
theorem r6 {p q:Prop} (k:q) (h:Kp q ->p:=by
 intro k
 iterate 6 (refine r1 ?_)
 exact k.out):p:=h ⟨k⟩
theorem r8 {p q:Prop} (k:q) (h:Kp q ->p:=by
 intro k
 iterate 8 (refine r1 ?_)
 exact k.out):p:=h ⟨k⟩
theorem XC {p q:Prop} (k:q) (h:Kp q ->p:=by
 intro k
 iterate 12 (refine r1 ?_)
 exact k.out):p:=h ⟨k⟩
theorem r16 {p q:Prop} (k:q) (h:Kp q ->p:=by
 intro k
 iterate 16 (refine r1 ?_)
 exact k.out):p:=h ⟨k⟩
end Go.YJ
end
end
section
noncomputable section
namespace Go.Proofs.YtbmbbcaaimehkaaGreat
open Go.YJ Go.Lf
abbrev cM (x:Zr):List Value:= [.int .i64 x.msg,.int .i64 x.place,.int .i64 x.from_,.int .i64 x.age,.int .i64 x.hops]
abbrev cS (x:ZH):List Value:= [.int .i64 x.act,.int .i64 x.a,.int .i64 x.b]
abbrev cE (x:Zw):List Value:= [.bool x.here,.int .i64 x.Z8,.int .i64 x.age]
abbrev cL (x:Ze) (a:Option Addr) (c:Nat) (b:Option Addr) (d:Nat):List Value:= [.int .i64 x.kind,.int .i64 x.Z8,.int .i64 x.Yi.msg,.int .i64 x.Yi.place,.int .i64 x.Yi.from_,.int .i64 x.Yi.age,.int .i64 x.Yi.hops,.slice a x.qV.length c,.slice b x.Yh.length d,.int .i64 x.place,.int .i64 x.at_,.int .i64 x.age]
abbrev cV (a0:Option Addr) (n0 c0:Nat) (a1:Option Addr) (n1 c1:Nat) (a2:Option Addr) (n2 c2:Nat) (a3:Option Addr) (n3 c3:Nat) (a4:Option Addr) (n4 c4:Nat) (s:Int):List Value:= [.slice a0 n0 c0,.slice a1 n1 c1,.slice a2 n2 c2,.slice a3 n3 c3,.slice a4 n4 c4,.int .i64 s]
abbrev cG (a0:Option Addr) (n0 c0:Nat) (a1:Option Addr) (n1 c1:Nat) (a2:Option Addr) (n2 c2:Nat) (a3:Option Addr) (n3 c3:Nat) (a4:Option Addr) (n4 c4:Nat) (s:Int) (a5:Option Addr) (n5 c5:Nat):List Value:= [.slice a0 n0 c0,.slice a1 n1 c1,.slice a2 n2 c2,.slice a3 n3 c3,.slice a4 n4 c4,.int .i64 s,.slice a5 n5 c5]
abbrev cW (x:Zb) (a0:Option Addr) (c0:Nat) (a1:Option Addr) (c1:Nat) (a2:Option Addr) (c2:Nat) (a3:Option Addr) (c3:Nat) (a4:Option Addr) (c4:Nat):List Value:= [.slice a0 x.Zv.length c0,.slice a1 x.qK.length c1,.slice a2 x.qQ.length c2,.slice a3 x.qJ.length c3,.slice a4 x.qG.length c4,.int .i64 x.said]
abbrev cH (x:Z6) (a0:Option Addr) (c0:Nat) (a1:Option Addr) (c1:Nat) (a2:Option Addr) (c2:Nat) (a3:Option Addr) (c3:Nat) (a4:Option Addr) (c4:Nat) (a5:Option Addr) (c5:Nat):List Value:= [.slice a0 x.Za.Zv.length c0,.slice a1 x.Za.qK.length c1,.slice a2 x.Za.qQ.length c2,.slice a3 x.Za.qJ.length c3,.slice a4 x.Za.qG.length c4,.int .i64 x.Za.said,.slice a5 x.qX.length c5]
instance:Zcr XX.P 3:= ⟨Xv⟩
instance:Zcr XX.P 4:= ⟨ZuW⟩
instance:Zcr XX.P 22:= ⟨ZgG⟩
instance:Zcr XX.P 24:= ⟨ZzQ⟩
instance:Zcr XX.P 25:= ⟨Ztf⟩
instance:Zcr XX.P 26:= ⟨Zte⟩
instance:Zcr XX.P 27:= ⟨ZzP⟩
instance:Zna XX.P 29:= ⟨ZpD⟩
instance:Zcr XX.P 30:= ⟨Zbl⟩
instance:Zcr XX.P 38:= ⟨ZNw⟩
instance:Zna XX.P 40:= ⟨ZEm⟩
instance:Zcr XX.P 41:= ⟨ZEl⟩
instance:Zna XX.P 63:= ⟨Zk0⟩
instance:Zcr XX.P 64:= ⟨WG⟩
instance:Zcr XX.P 65:= ⟨ZNv⟩
instance:Zna XX.P 67:= ⟨ZEk⟩
instance:Zcr XX.P 90:= ⟨Zdf⟩
instance:Zna XX.P 92:= ⟨ZkZ⟩
instance:Zcr XX.P 93:= ⟨ZNu⟩
instance:Zna XX.P 95:= ⟨ZaE⟩
instance:Zna XX.P 104:= ⟨Zjq⟩
instance:Zcr XX.P 116:= ⟨ZHY⟩
instance:Zna XX.P 120:= ⟨Zm1⟩
instance:Zcr XX.P 124:= ⟨ZzR⟩
instance:SzF XX.P 3 1:= ⟨YF⟩
instance:SzF XX.P 4 1:= ⟨ZnC⟩
instance:SzF XX.P 22 1:= ⟨U1⟩
instance:SzF XX.P 24 1:= ⟨ZES⟩
instance:SzF XX.P 25 1:= ⟨ZER⟩
instance:SzF XX.P 26 1:= ⟨ZEQ⟩
instance:SzF XX.P 27 1:= ⟨Zlk⟩
instance:SzF XX.P 29 6:= ⟨Zdm⟩
instance:SzF XX.P 30 1:= ⟨ZEP⟩
instance:SzF XX.P 40 3:= ⟨Zqa⟩
instance:SzF XX.P 41 1:= ⟨Zlj⟩
instance:SzF XX.P 63 3:= ⟨XA⟩
instance:SzF XX.P 64 1:= ⟨QZ⟩
instance:SzF XX.P 67 5:= ⟨Ze8⟩
instance:SzF XX.P 90 1:= ⟨Jf⟩
instance:SzF XX.P 92 5:= ⟨Uq⟩
instance:SzF XX.P 95 12:= ⟨Y4⟩
instance:SzF XX.P 104 4:= ⟨X6⟩
instance:SzF XX.P 116 1:= ⟨ZAQ⟩
instance:SzF XX.P 120 3:= ⟨Wl⟩
instance:Qw XX.P 29 0 0:= ⟨ZCl⟩
instance:Qw XX.P 29 1 1:= ⟨ZCk⟩
instance:Qw XX.P 29 2 2:= ⟨ZCj⟩
instance:Qw XX.P 29 3 3:= ⟨ZCi⟩
instance:Qw XX.P 29 4 4:= ⟨Zg8⟩
instance:Qw XX.P 29 5 5:= ⟨ZCh⟩
instance:Qw XX.P 40 0 0:= ⟨ZCg⟩
instance:Qw XX.P 40 1 1:= ⟨ZCf⟩
instance:Qw XX.P 40 2 2:= ⟨ZsU⟩
instance:Qw XX.P 63 0 0:= ⟨ZCe⟩
instance:Qw XX.P 63 1 1:= ⟨ZCd⟩
instance:Qw XX.P 63 2 2:= ⟨ZCc⟩
instance:Qw XX.P 67 0 0:= ⟨ZCb⟩
instance:Qw XX.P 67 1 1:= ⟨ZCa⟩
instance:Qw XX.P 67 2 2:= ⟨ZB9⟩
instance:Qw XX.P 67 3 3:= ⟨ZB8⟩
instance:Qw XX.P 67 4 4:= ⟨ZB7⟩
instance:Qw XX.P 92 0 0:= ⟨ZB6⟩
instance:Qw XX.P 92 1 1:= ⟨ZB5⟩
instance:Qw XX.P 92 2 2:= ⟨ZB4⟩
instance:Qw XX.P 92 3 3:= ⟨ZB3⟩
instance:Qw XX.P 92 4 4:= ⟨ZB2⟩
instance:Qw XX.P 95 0 0:= ⟨ZB1⟩
instance:Qw XX.P 95 1 1:= ⟨ZB0⟩
instance:Qw XX.P 95 2 2:= ⟨ZBZ⟩
instance:Qw XX.P 95 3 7:= ⟨ZBY⟩
instance:Qw XX.P 95 4 8:= ⟨Zl7⟩
instance:Qw XX.P 95 5 9:= ⟨ZBX⟩
instance:Qw XX.P 95 6 10:= ⟨ZsT⟩
instance:Qw XX.P 95 7 11:= ⟨ZsS⟩
instance:Qw XX.P 100 0 0:= ⟨Zet⟩
instance:Qw XX.P 100 1 6:= ⟨Zes⟩
instance:Qw XX.P 104 0 0:= ⟨ZyO⟩
instance:Qw XX.P 104 1 1:= ⟨ZyN⟩
instance:Qw XX.P 104 2 2:= ⟨ZyM⟩
instance:Qw XX.P 104 3 3:= ⟨ZyL⟩
instance:Qw XX.P 120 0 0:= ⟨ZyK⟩
instance:Qw XX.P 120 1 1:= ⟨ZyJ⟩
instance:Qw XX.P 120 2 2:= ⟨ZyI⟩
instance:Qw XX.P 126 0 0:= ⟨ZyH⟩
instance:Qw XX.P 126 1 6:= ⟨ZyG⟩
instance:Zge XX.P 22 3:= ⟨YE⟩
instance:Zge XX.P 24 22:= ⟨Zd2⟩
instance:Zge XX.P 25 64:= ⟨UR⟩
instance:Zge XX.P 26 90:= ⟨KZ⟩
instance:Zge XX.P 27 95:= ⟨JK⟩
instance:Zge XX.P 41 67:= ⟨Zns⟩
instance:Zge XX.P 46 40:= ⟨ZDe⟩
instance:Zge XX.P 64 63:= ⟨UQ⟩
instance:Zge XX.P 90 92:= ⟨Zbf⟩
instance:Zge XX.P 102 104:= ⟨WJ⟩
instance:Zge XX.P 110 4:= ⟨Zle⟩
instance:Zge XX.P 124 120:= ⟨Zht⟩
instance:ZIa XX.P 4:= ⟨Zp2⟩
instance:Zbd XX.P 3 (.int .i64 0):= ⟨WQ⟩
instance:Zbd XX.P 4 (.bool false):= ⟨ZC7⟩
instance:Zbd XX.P 22 (.slice none 0 0):= ⟨Zvj⟩
instance:Zbd XX.P 29 (.agg #[.slice none 0 0,.slice none 0 0,.slice none 0 0,.slice none 0 0,.slice none 0 0,.int .i64 0]):= ⟨ZpS⟩
instance:Zbd XX.P 30 (.int .i64 0):= ⟨ZEu⟩
instance:Zbd XX.P 40 (.agg #[.int .i64 0,.int .i64 0,.int .i64 0]):= ⟨ZEt⟩
instance:Zbd XX.P 63 (.agg #[.bool false,.int .i64 0,.int .i64 0]):= ⟨Zho⟩
instance:Zbd XX.P 64 (.slice none 0 0):= ⟨Zvi⟩
instance:Zbd XX.P 67 (.agg #[.int .i64 0,.int .i64 0,.int .i64 0,.int .i64 0,.int .i64 0]):= ⟨Zhn⟩
instance:Zbd XX.P 90 (.slice none 0 0):= ⟨Zvh⟩
instance:Zbd XX.P 92 (.agg #[.int .i64 0,.int .i64 0,.int .i64 0,.int .i64 0,.int .i64 0]):= ⟨Zhm⟩
instance:Zbd XX.P 95 (.agg #[.int .i64 0,.int .i64 0,.int .i64 0,.int .i64 0,.int .i64 0,.int .i64 0,.int .i64 0,.slice none 0 0,.slice none 0 0,.int .i64 0,.int .i64 0,.int .i64 0]):= ⟨Zdh⟩
instance:Zbd XX.P 100 (.agg #[.slice none 0 0,.slice none 0 0,.slice none 0 0,.slice none 0 0,.slice none 0 0,.int .i64 0,.slice none 0 0]):= ⟨ZrW⟩
instance:Zbd XX.P 104 (.agg #[.int .i64 0,.int .i64 0,.int .i64 0,.bool false]):= ⟨Zk3⟩
instance:Zbd XX.P 116 (.nilFunc):= ⟨ZAs⟩
instance:Zbd XX.P 120 (.agg #[.int .i64 0,.bool false,.int .i64 0]):= ⟨Zk2⟩
instance:Zbd XX.P 126 (.agg #[.slice none 0 0,.slice none 0 0,.slice none 0 0,.slice none 0 0,.slice none 0 0,.int .i64 0,.slice none 0 0]):= ⟨ZrV⟩
instance:Zbd XX.P 142 (.nilFunc):= ⟨ZgU⟩
end Go.Proofs.YtbmbbcaaimehkaaGreat
end
end
section
namespace Go.Proofs.YtbmbbcaaimehkaaGreat
open Go.Lf
def ZfO (p0:Zb):Int ->(Int ->Option Bool) ->Option Bool:=fun v46 ZhP=>
 (bif decide (v46 < (p0.qG.length:Int)) then(ZQ p0.qG v46).bind fun x49=>(bif((decide ((x49.qV.length:Int) > 20)) || (decide ((x49.Yh.length:Int) > 20))) then some false else ZhP (Xa (v46 + 1))) else some true)
def ZfP (F:Nat) (p0:Zb):Int ->(Int ->Option Bool) ->Option Bool:=fun v34 ZhR=>
 (bif decide (v34 < (p0.qJ.length:Int)) then(ZQ p0.qJ v34).bind fun x37=>(bif decide ((x37.length:Int) > 100) then some false else ZhR (Xa (v34 + 1))) else loop F (ZfO p0) 0)
def ZfQ (F:Nat) (p0:Zb):Int ->(Int ->Option Bool) ->Option Bool:=fun v21 ZwE=>
 (bif decide (v21 < (p0.qQ.length:Int)) then(ZQ p0.qQ v21).bind fun x24=>(bif decide ((x24.length:Int) > 20) then some false else ZwE (Xa (v21 + 1))) else loop F (ZfP F p0) 0)
def Zi4 (F:Nat) (p0:Zb):Int ->(Int ->Option Bool) ->Option Bool:=fun v8 J3=>
 (bif decide (v8 < (p0.qK.length:Int)) then(ZQ p0.qK v8).bind fun XY=>(bif decide ((XY.length:Int) > 100) then some false else J3 (Xa (v8 + 1))) else loop F (ZfQ F p0) 0)
def Zze (F:Nat) (p0:Zb):Option Bool:=
 (bif(((((decide ((p0.Zv.length:Int) > 20)) || (decide ((p0.qK.length:Int) > 20))) || (decide ((p0.qQ.length:Int) > 20))) || (decide ((p0.qJ.length:Int) > 20))) || (decide ((p0.qG.length:Int) > 200))) then some false else loop F (Zi4 F p0) 0)
end Go.Proofs.YtbmbbcaaimehkaaGreat
end
section
set_option maxRecDepth 20000
noncomputable section
namespace Go.Proofs.YtbmbbcaaimehkaaGreat
open Go.YJ Go.Lf
theorem ZHx {F wm:Nat} {h:H} {p0:Zb} {Zi:Option Addr} {Zh:Nat} {Zq:Option Addr} {Zo:Nat} {Zk:Option Addr} {Zj:Nat} {Zp:Option Addr} {Zn:Nat} {Zm:Option Addr} {Zl:Nat} {r:Bool} (ZX:wm <=h.size) (ZA:Sl (Zu .i64) wm h Zi Zh p0.Zv) (ZN:Sl (Zz (Zu .i64)) wm h Zq Zo p0.qK) (ZL:Sl (Zz Zc) wm h Zk Zj p0.qQ) (ZO:Sl (Zz Zg) wm h Zp Zn p0.qJ) (ZK:Sl Zd wm h Zm Zl p0.qG) (hL:Zze F p0=some r):
 WR XX 19 #[.agg [.slice Zi p0.Zv.length Zh,.slice Zq p0.qK.length Zo,.slice Zk p0.qQ.length Zj,.slice Zp p0.qJ.length Zn,.slice Zm p0.qG.length Zl,.int .i64 p0.said].toArray] wm h (CP (fun(v:Value) (Gb:List (Ast wm))=>v= .bool r∧Gb= []) [] h):=by
 refine bg Tryz.ntmps19 ZX Yd.nil ?_;intro T hT hS;unfold Zze at hL;refine r3 ?_;rintro _ h2 ⟨b1,eb1,rfl,hS⟩;refine r16 ?_;refine r16 ?_;refine r4 ?_;refine cn hL ?_ ?_
 ·intro hc hL;refine r6 ?_;refine r1 ?_;exact rt hL hT hS
 ·intro hc hL;refine XC ?_;refine WC.loop (WL.lift hL (fun(v8:Int) (s:Fs)=>∃ (KU:Fr) (h3:H),s= ⟨KU,[],h3,none⟩∧Sp wm T h [bx wm b1 (cW p0 Zi Zh Zq Zo Zk Zj Zp Zn Zm Zl)] h3∧KU.at 1= .pointer (some ⟨b1,0,none⟩)∧KU.at 40= .slice Zq p0.qK.length Zo∧KU.at 41= .int .i64 (p0.qK.length:Int)∧KU.at 42= .int .i64 v8) ⟨_,_,rfl,hS.only (.c k0 .n),YD⟩ ?_);clear hL hS;rintro J3 v8 s ZlX hL ⟨KU,h3,rfl,hS,e5,e6,e7,e9⟩;dsimp only [Zi4] at hL;refine r6 ?_;refine cn hL ?_ ?_
  ·intro hc hL;refine r6 ?_;obtain⟨XY,ZjS,hL⟩:=bind_some hL;obtain⟨b12,o13,⟨a14,c15⟩,ZLh,ZMn,ZLZ,ZLA⟩:=Sl.at_ ZN ZjS;refine WO.w gN rfl (ZE Zd2 U1 lk lk rfl ZLh ZjS) ?_;have ZSg:Sl (Zu .i64) wm h a14 c15 XY:=ZLA;refine WO.w gN rfl (ZW ZgG (Yo fh rfl) (At.fz hS.fz ZLZ ZMn) (j:=0) rfl (v:= .slice a14 XY.length c15) rfl) ?_;refine r8 ?_;refine r2 ?_;refine cn hL ?_ ?_
   ·intro hc hL;refine r8 ?_;refine r3 ?_;exact rt hL hT hS
   ·intro hc hL;refine r6 ?_;refine r1 ?_;exact Ye.Y2 (ZlX _ _ hL ⟨_,_,rfl,hS.only (.c k0 .n),YD⟩)
  ·intro hc hL;refine XC ?_;refine r3 ?_;refine WC.loop (WL.lift hL (fun(v21:Int) (s:Fs)=>∃ (Zer:Fr) (h16:H),s= ⟨Zer,[],h16,none⟩∧Sp wm T h [bx wm b1 (cW p0 Zi Zh Zq Zo Zk Zj Zp Zn Zm Zl)] h16∧Zer.at 1= .pointer (some ⟨b1,0,none⟩)∧Zer.at 51= .slice Zk p0.qQ.length Zj∧Zer.at 52= .int .i64 (p0.qQ.length:Int)∧Zer.at 53= .int .i64 v21) ⟨_,_,rfl,hS.only (.c k0 .n),YD⟩ ?_);clear hL hS;rintro ZwE v21 s ZBJ hL ⟨Zer,h16,rfl,hS,e18,e19,e20,e22⟩;dsimp only [ZfQ] at hL;refine r6 ?_;refine cn hL ?_ ?_
   ·intro hc hL;refine r6 ?_;obtain⟨x24,hx24,hL⟩:=bind_some hL;obtain⟨b25,o26,⟨a27,c28⟩,ZLf,ZMl,ZLW,ZLx⟩:=Sl.at_ ZL hx24;refine WO.w gN rfl (ZE UR QZ lk lk rfl ZLf hx24) ?_;have ZSe:Sl Zc wm h a27 c28 x24:=ZLx;refine WO.w gN rfl (ZW WG (Yo fh rfl) (At.fz hS.fz ZLW ZMl) (j:=0) rfl (v:= .slice a27 x24.length c28) rfl) ?_;refine r8 ?_;refine r2 ?_;refine cn hL ?_ ?_
    ·intro hc hL;refine r8 ?_;refine r3 ?_;exact rt hL hT hS
    ·intro hc hL;refine r6 ?_;refine r1 ?_;exact Ye.Y2 (ZBJ _ _ hL ⟨_,_,rfl,hS.only (.c k0 .n),YD⟩)
   ·intro hc hL;refine XC ?_;refine r3 ?_;refine WC.loop (WL.lift hL (fun(v34:Int) (s:Fs)=>∃ (KG:Fr) (h29:H),s= ⟨KG,[],h29,none⟩∧Sp wm T h [bx wm b1 (cW p0 Zi Zh Zq Zo Zk Zj Zp Zn Zm Zl)] h29∧KG.at 1= .pointer (some ⟨b1,0,none⟩)∧KG.at 62= .slice Zp p0.qJ.length Zn∧KG.at 63= .int .i64 (p0.qJ.length:Int)∧KG.at 64= .int .i64 v34) ⟨_,_,rfl,hS.only (.c k0 .n),YD⟩ ?_);clear hL hS;rintro ZhR v34 s ZlR hL ⟨KG,h29,rfl,hS,e31,e32,e33,e35⟩;dsimp only [ZfP] at hL;refine r6 ?_;refine cn hL ?_ ?_
    ·intro hc hL;refine r6 ?_;obtain⟨x37,Zfq,hL⟩:=bind_some hL;obtain⟨b38,o39,⟨a40,c41⟩,Zig,Zim,Zik,ZkM⟩:=Sl.at_ ZO Zfq;refine WO.w gN rfl (ZE KZ Jf lk lk rfl Zig Zfq) ?_;have ZoF:Sl Zg wm h a40 c41 x37:=ZkM;refine WO.w gN rfl (ZW Zdf (Yo fh rfl) (At.fz hS.fz Zik Zim) (j:=0) rfl (v:= .slice a40 x37.length c41) rfl) ?_;refine r8 ?_;refine r2 ?_;refine cn hL ?_ ?_
     ·intro hc hL;refine r8 ?_;refine r3 ?_;exact rt hL hT hS
     ·intro hc hL;refine r6 ?_;refine r1 ?_;exact Ye.Y2 (ZlR _ _ hL ⟨_,_,rfl,hS.only (.c k0 .n),YD⟩)
    ·intro hc hL;refine XC ?_;refine r3 ?_;refine WC.loop (WL.lift hL (fun(v46:Int) (s:Fs)=>∃ (ZyE:Fr) (h42:H),s= ⟨ZyE,[],h42,none⟩∧Sp wm T h [] h42∧ZyE.at 73= .slice Zm p0.qG.length Zl∧ZyE.at 74= .int .i64 (p0.qG.length:Int)∧ZyE.at 75= .int .i64 v46) ⟨_,_,rfl,hS.only .n,YD⟩ ?_);clear hL hS;rintro ZhP v46 s ZlP hL ⟨ZyE,h42,rfl,hS,e44,e45,e47⟩;dsimp only [ZfO] at hL;refine r6 ?_;refine cn hL ?_ ?_
     ·intro hc hL;refine r6 ?_;obtain⟨x49,Zou,hL⟩:=bind_some hL;obtain⟨b50,o51,⟨⟨a52,c53⟩,⟨a54,c55⟩⟩,ZoO,ZoU,Zx3,ZsO⟩:=Sl.at_ ZK Zou;refine WO.w gN rfl (ZE JK Y4 lk lk rfl ZoO Zou) ?_;have ZSd:Sl (Zu .i64) wm h a52 c53 x49.qV:=ZsO.1;have ZSc:Sl (Zu .i64) wm h a54 c55 x49.Yh:=ZsO.2;refine WO.w gN rfl (Xh ZaE Y4 (Yo fh rfl) (At.fz hS.fz Zx3 ZoU) (j:=0) rfl rfl (ws:= (cL x49 a52 c53 a54 c55)) rfl) ?_;refine r1 ?_;rintro _ h57 ⟨b56,ZWw,rfl,hS⟩;refine r1 ?_;rintro h58 hS;refine r16 ?_;refine cn hL ?_ ?_
      ·intro hc hL;refine r8 ?_;refine r3 ?_;exact rt hL hT hS
      ·intro hc hL;refine r6 ?_;refine r1 ?_;exact Ye.Y2 (ZlP _ _ hL ⟨_,_,rfl,hS.only .n,YD⟩)
     ·intro hc hL;refine r8 ?_;refine r3 ?_;exact rt hL hT hS
end Go.Proofs.YtbmbbcaaimehkaaGreat
end
end
section
namespace Go.Proofs.YtbmbbcaaimehkaaGreat
open Go.Lf
def Zuw (p0:Int) (p1:Int):Option Bool:=
 some ((decide (p0 >=0)) && (decide (p0 < p1)))
def ZiZ (p0:(List Int)):Int ->(Int ->Option Bool) ->Option Bool:=fun v6 Zc6=>
 (bif decide (v6 < (p0.length:Int)) then(ZQ p0 v6).bind fun x9=>(bif decide (x9 < 0) then some false else Zc6 (Xa (v6 + 1))) else some (decide ((p0.length:Int) <=80)))
def Zuv (F:Nat) (p0:(List Int)):Option Bool:=
 loop F (ZiZ p0) 0
end Go.Proofs.YtbmbbcaaimehkaaGreat
end
section
set_option maxRecDepth 20000
noncomputable section
namespace Go.Proofs.YtbmbbcaaimehkaaGreat
open Go.YJ Go.Lf
theorem ZHs {wm:Nat} {h:H} {p0 p1:Int} {r:Bool} (ZX:wm <=h.size) (hL:Zuw p0 p1=some r):
 WR XX 32 #[.int .i64 p0,.int .i64 p1] wm h (CP (fun(v:Value) (Gb:List (Ast wm))=>v= .bool r∧Gb= []) [] h):=by
 refine bg Tryz.ntmps32 ZX Yd.nil ?_;intro T hT hS;unfold Zuw at hL;refine r16 ?_;refine r2 ?_;exact rt hL hT hS
theorem ZHt {h:H} {p0 p1:Int} {r:Bool} (hL:Zuw p0 p1=some r):Pure XX 32 #[.int .i64 p0,.int .i64 p1] h (.bool r):=
 WR.XO rfl (ZHs (Nat.le_refl _) hL)
theorem ZHp {F wm:Nat} {h:H} {p0:(List Int)} {Zi:Option Addr} {Zh:Nat} {r:Bool} (ZX:wm <=h.size) (ZA:Sl (Zu .i64) wm h Zi Zh p0) (hL:Zuv F p0=some r):
 WR XX 41 #[.slice Zi p0.length Zh] wm h (CP (fun(v:Value) (Gb:List (Ast wm))=>v= .bool r∧Gb= []) [] h):=by
 refine bg Tryz.ntmps41 ZX Yd.nil ?_;intro T hT hS;unfold Zuv at hL;refine XC ?_;refine r2 ?_;refine WC.loop (WL.lift hL (fun(v6:Int) (s:Fs)=>∃ (Qm:Fr) (h1:H),s= ⟨Qm,[],h1,none⟩∧Sp wm T h [] h1∧Qm.at 0= .slice Zi p0.length Zh∧Qm.at 5= .slice Zi p0.length Zh∧Qm.at 6= .int .i64 (p0.length:Int)∧Qm.at 7= .int .i64 v6) ⟨_,_,rfl,hS.only .n,YD⟩ ?_);clear hL hS;rintro Zc6 v6 s Zh9 hL ⟨Qm,h1,rfl,hS,e3,e4,e5,e7⟩;dsimp only [ZiZ] at hL;refine r6 ?_;refine cn hL ?_ ?_
 ·intro hc hL;refine r6 ?_;obtain⟨x9,hx9,hL⟩:=bind_some hL;obtain⟨b10,o11,_,Zii,Zio,ZoT,ZsQ⟩:=Sl.at_ ZA hx9;refine WO.w gN rfl (ZE YE YF lk lk rfl Zii hx9) ?_;refine WO.w gN rfl (ZW Xv (Yo fh rfl) (At.fz hS.fz ZoT Zio) (j:=0) rfl (v:= .int .i64 x9) rfl) ?_;refine r8 ?_;refine r1 ?_;refine cn hL ?_ ?_
  ·intro hc hL;refine r8 ?_;refine r3 ?_;exact rt hL hT hS
  ·intro hc hL;refine r6 ?_;refine r1 ?_;exact Ye.Y2 (Zh9 _ _ hL ⟨_,_,rfl,hS.only .n,YD⟩)
 ·intro hc hL;refine XC ?_;refine r2 ?_;exact rt hL hT hS
end Go.Proofs.YtbmbbcaaimehkaaGreat
end
end
section
namespace Go.Proofs.YtbmbbcaaimehkaaGreat
open Go.Lf
def Zmv:Unit ->Option Bool:=fun _=>
 some false
def ZiY (p0:Zb) (p1:ZH):Unit ->Option Bool:=fun _=>
 some ((decide (p1.a >=0)) && (decide (p1.a < (p0.Zv.length:Int))))
def Zuu (p0:Zb) (p1:ZH):Option Bool:=
 (bif(p1.act==1) then(bif((decide (p1.a >=0)) && (decide (p1.a < (p0.qQ.length:Int)))) then some ((decide (p1.b >=0)) && (decide (p1.b < (p0.Zv.length:Int)))) else some false) else(bif(p1.act==2) then(bif((decide (p1.a >=0)) && (decide (p1.a < (p0.Zv.length:Int)))) then some ((decide (p1.b >=0)) && (decide (p1.b < (p0.qQ.length:Int)))) else some false) else(bif(p1.act==3) then(bif(!((decide (p1.b >=0)) && (decide (p1.b < (p0.Zv.length:Int))))) then some false else(ZiY p0 p1) ()) else(bif(p1.act==4) then(ZiY p0 p1) () else(bif(p1.act==5) then some ((decide (p1.a >=0)) && (decide (p1.a < (p0.qG.length:Int)))) else(Zmv) ())))))
def ZiT (v16:Int) (U5:(Int×Int×Int×Int×Int×Bool ->Option (XG×Bool))):Int×Int×Int×Int×Bool ->Option (XG×Bool):=fun(v29,v33,v34,v35,v36)=>
 U5 (v29,Xa (v16 + 1),v33,v34,v35,v36)
def ZiS (v94:Int) (ZcB:(Int×Int×Int×Int×Int×Bool ->Option (XG×Bool))):Int×Int×Int×Int×Bool ->Option (XG×Bool):=fun(ZAI,Ztt,v117,ZgI,ZAH)=>
 ZcB (ZAI,Xa (v94 + 1),Ztt,v117,ZgI,ZAH)
def Zmo (p1:Int) (v63:Int) (Zlx:(Int×Int×Int×Int×Int×Bool ->Option (XG×Bool))) (x70:Ze):Int×Int×Int×Int×Int×Bool ->(Int×Int×Int×Int×Int×Bool ->Option (XG×Bool)) ->Option (XG×Bool):=fun(v85,v94,v96,v97,v98,v99) ZcB=>
 (bif decide (v94 < (x70.qV.length:Int)) then(ZQ x70.qV v94).bind fun ZEG=>(bif((ZEG==p1) && (decide (v94 < (x70.Yh.length:Int)))) then(ZQ x70.Yh v94).bind fun ZjF=>(ZiS v94 ZcB) (Xa (v85 + 1),x70.Z8,ZjF,v63,false) else(ZiS v94 ZcB) (v85,v96,v97,v98,v99)) else Zlx (v85,Xa (v63 + 1),v96,v97,v98,v99))
def ZiU (F:Nat) (p0:Zb) (p1:Int):Int×Int×Int×Int×Int×Bool ->(Int×Int×Int×Int×Int×Bool ->Option (XG×Bool)) ->Option (XG×Bool):=fun(v59,v63,v65,v66,v67,v68) Zlx=>
 (bif decide (v63 < (p0.qG.length:Int)) then(ZQ p0.qG v63).bind fun x70=>loop F (Zmo p1 v63 Zlx x70) (v59,0,v65,v66,v67,v68) else some ((XG.mk v65 v66 v67 v68),(v59==1)))
def Zmp (F:Nat) (p0:Zb) (p1:Int):Int×Int×Int×Int×Int×Bool ->(Int×Int×Int×Int×Int×Bool ->Option (XG×Bool)) ->Option (XG×Bool):=fun(v13,v16,v18,v19,v20,v21) U5=>
 (bif decide (v16 < (p0.qQ.length:Int)) then(ZQ p0.qQ v16).bind fun x37=>(ZQ x37 p1).bind fun x42=>(bif x42.here then(ZQ p0.qQ v16).bind fun U0=>(ZQ U0 p1).bind fun x50=>(ZiT v16 U5) (Xa (v13 + 1),v16,x50.age,(-1),true) else(ZiT v16 U5) (v13,v18,v19,v20,v21)) else loop F (ZiU F p0 p1) (v13,0,v18,v19,v20,v21))
def Zre (F:Nat) (p0:Zb) (p1:Int):Option (XG×Bool):=
 loop F (Zmp F p0 p1) (0,0,0,0,0,false)
def Zmn (p0:Zb) (p1:Int) (p2:XG) (p3:Int) (p4:Int):Option Bool:=
 (bif((((decide (p3 < 0)) || (decide (p3 >= (p0.qQ.length:Int)))) || (decide (p4 < 0))) || (decide (p4 > p2.age))) then some false else(bif(p4==p2.age) then some (p2.at_==p3) else(ZQ p0.qQ p3).bind fun x5=>(ZQ x5 p1).bind fun x10=>some (decide (x10.age > p4))))
def Zo5 (p0:Zb) (p1:(List XG)) (p2:Zr) (p3:Int) (p4:Bool):Option Bool:=
 (bif((((((((decide (p2.place < 0)) || (decide (p2.place >= (p0.Zv.length:Int)))) || (decide (p2.from_ < 0))) || (decide (p2.from_ >= (p0.qQ.length:Int)))) || (decide (p2.age < 0))) || (decide (p2.age > 30))) || (decide (p2.hops < 1))) || (decide (p2.hops > (Xa (p2.age + 1))))) then some false else(ZQ p1 p2.place).bind fun x5=>(bif p4 then some (((!x5.is) && (x5.at_==p3)) && (x5.age==p2.age)) else(Zmn p0 p2.place x5 p3 p2.age).bind fun XY=>some XY))
end Go.Proofs.YtbmbbcaaimehkaaGreat
end
section
set_option maxRecDepth 20000
noncomputable section
namespace Go.Proofs.YtbmbbcaaimehkaaGreat
open Go.YJ Go.Lf
theorem ZHn {wm:Nat} {h:H} {p0:Zb} {p1:ZH} {Zi:Option Addr} {Zh:Nat} {Zq:Option Addr} {Zo:Nat} {Zk:Option Addr} {Zj:Nat} {Zp:Option Addr} {Zn:Nat} {Zm:Option Addr} {Zl:Nat} {r:Bool} (ZX:wm <=h.size) (ZA:Sl (Zu .i64) wm h Zi Zh p0.Zv) (ZN:Sl (Zz (Zu .i64)) wm h Zq Zo p0.qK) (ZL:Sl (Zz Zc) wm h Zk Zj p0.qQ) (ZO:Sl (Zz Zg) wm h Zp Zn p0.qJ) (ZK:Sl Zd wm h Zm Zl p0.qG) (hL:Zuu p0 p1=some r):
 WR XX 47 #[.agg [.slice Zi p0.Zv.length Zh,.slice Zq p0.qK.length Zo,.slice Zk p0.qQ.length Zj,.slice Zp p0.qJ.length Zn,.slice Zm p0.qG.length Zl,.int .i64 p0.said].toArray,.agg [.int .i64 p1.act,.int .i64 p1.a,.int .i64 p1.b].toArray] wm h (CP (fun(v:Value) (Gb:List (Ast wm))=>v= .bool r∧Gb= []) [] h):=by
 refine bg Tryz.ntmps47 ZX Yd.nil ?_;intro T hT hS;unfold Zuu at hL;refine r3 ?_;rintro _ h2 ⟨b1,eb1,rfl,hS⟩;refine r1 ?_;rintro _ h4 ⟨b3,eb3,rfl,hS⟩;refine r4 ?_;refine r1 ?_;refine WO.w gN rfl (Zba (Zf lk Zx)) ?_;refine r4 ?_;refine r1 ?_;refine WO.w gN rfl (Zba (Zf lk Zx)) ?_;refine r3 ?_;refine WC.Zbn (r:=r) (fun(_:Unit) (s:Fs)=>∃ (fr6:Fr) (h5:H),s= ⟨fr6,[],h5,none⟩∧Sp wm T h [] h5) (Zmv) ?_ ?_
 ·clear hL hS;rintro _ s hL ⟨fr6,h5,rfl,hS⟩;dsimp only [Zmv] at hL;refine r6 ?_;exact rt hL hT hS
 ·skip;refine r8 ?_;refine r1 ?_;refine WC.Zbn (r:=r) (fun(_:Unit) (s:Fs)=>∃ (fr8:Fr) (h7:H),s= ⟨fr8,[],h7,none⟩∧Sp wm T h [bx wm b3 (cS p1),bx wm b1 (cW p0 Zi Zh Zq Zo Zk Zj Zp Zn Zm Zl)] h7∧fr8.at 3= .pointer (some ⟨b3,0,none⟩)∧fr8.at 5= .func (.func 75) #[] [.pointer (some ⟨b1,0,none⟩)].toArray) (ZiY p0 p1) ?_ ?_
  ·clear hL hS;rintro _ s hL ⟨fr8,h7,rfl,hS,e9,e10⟩;dsimp only [ZiY] at hL;refine r6 ?_;refine WO.inl gN rfl (Xi.clo (first:= []) (cap:= [.pointer (some ⟨b1,0,none⟩)]) lk ZsH lks rfl) (WF.begin (args:= [_,_]) (fn:=Tryz.f75) Kq0 (by exact rfl) Tryz.ntmps75 (by simp) ?_);simp only [Z7,Z9,Nat.reduceAdd];refine r16 ?_;refine r4 ?_;refine Yl.Qd rfl (ZU lk ZB) ?_;refine r8 ?_;refine YO.ret ?_;exact rt hL hT hS
  ·skip;refine XC ?_;refine r3 ?_;refine cn hL ?_ ?_
   ·intro hc hL;refine r8 ?_;refine r3 ?_;refine WO.inl gN rfl (Xi.clo (first:= []) (cap:= [.pointer (some ⟨b1,0,none⟩)]) lk ZDT lks rfl) (WF.begin (args:= [_,_]) (fn:=Tryz.f76) Kq0 (by exact rfl) Tryz.ntmps76 (by simp) ?_);simp only [Z7,Z9,Nat.reduceAdd];refine r16 ?_;refine r4 ?_;refine Yl.Qd rfl (ZU lk ZB) ?_;refine r4 ?_;refine WO.Zb0 (Zt.yes rfl rfl rfl (YA rfl (Zy rfl fh))) (fun ZlZ=>?_) (fun ZlZ=>?_)
    ·replace hL:=JV ZlZ hL;refine WO.inl (Zt.on (Zt.yes rfl rfl rfl (YA rfl (Zy rfl fh))) ZlZ) rfl (Xi.clo (first:= []) (cap:= [.pointer (some ⟨b1,0,none⟩)]) (YX (YA rfl fh) rfl ZlZ) ZsH (Zf (YX fh rfl ZlZ) Zx) rfl) (WF.begin (args:= [_,_]) (fn:=Tryz.f75) Kq0 (by exact rfl) Tryz.ntmps75 (by simp) ?_);simp only [Z7,Z9,Nat.reduceAdd];refine r16 ?_;refine r4 ?_;refine Yl.Qd rfl (ZU lk ZB) ?_;refine WO.w gN rfl (ZdI lk ZlZ lk) ?_;refine r8 ?_;refine r2 ?_;refine YO.ret ?_;refine r3 ?_;refine YO.ret ?_;exact rt hL hT hS
    ·replace hL:=JW ZlZ hL;refine WO.ZbO (Zt.yes rfl rfl rfl (YA rfl (Zy rfl fh))) ZlZ rfl ?_;refine WO.w gN rfl (ZdJ lk ZlZ lk) ?_;refine r8 ?_;refine r2 ?_;refine YO.ret ?_;refine r3 ?_;refine YO.ret ?_;exact rt hL hT hS
   ·intro hc hL;refine r8 ?_;refine r1 ?_;refine cn hL ?_ ?_
    ·intro hc hL;refine r3 ?_;refine UN.other rfl ?_;refine r8 ?_;refine r1 ?_;refine WO.inl gN rfl (Xi.clo (first:= []) (cap:= [.pointer (some ⟨b1,0,none⟩)]) lk ZsH lks rfl) (WF.begin (args:= [_,_]) (fn:=Tryz.f75) Kq0 (by exact rfl) Tryz.ntmps75 (by simp) ?_);simp only [Z7,Z9,Nat.reduceAdd];refine r16 ?_;refine r4 ?_;refine Yl.Qd rfl (ZU lk ZB) ?_;refine r4 ?_;refine WO.Zb0 (Zt.yes rfl rfl rfl (YA rfl (Zy rfl fh))) (fun ZlY=>?_) (fun ZlY=>?_)
     ·replace hL:=JV ZlY hL;refine WO.inl (Zt.on (Zt.yes rfl rfl rfl (YA rfl (Zy rfl fh))) ZlY) rfl (Xi.clo (first:= []) (cap:= [.pointer (some ⟨b1,0,none⟩)]) (YX (YA rfl fh) rfl ZlY) ZDT (Zf (YX fh rfl ZlY) Zx) rfl) (WF.begin (args:= [_,_]) (fn:=Tryz.f76) Kq0 (by exact rfl) Tryz.ntmps76 (by simp) ?_);simp only [Z7,Z9,Nat.reduceAdd];refine r16 ?_;refine r4 ?_;refine Yl.Qd rfl (ZU lk ZB) ?_;refine WO.w gN rfl (ZdI lk ZlY lk) ?_;refine r8 ?_;refine YO.ret ?_;refine r3 ?_;refine YO.ret ?_;exact rt hL hT hS
     ·replace hL:=JW ZlY hL;refine WO.ZbO (Zt.yes rfl rfl rfl (YA rfl (Zy rfl fh))) ZlY rfl ?_;refine WO.w gN rfl (ZdJ lk ZlY lk) ?_;refine r8 ?_;refine YO.ret ?_;refine r3 ?_;refine YO.ret ?_;exact rt hL hT hS
    ·intro hc hL;refine r8 ?_;refine r1 ?_;refine cn hL ?_ ?_
     ·intro hc hL;refine r3 ?_;refine UN.other rfl ?_;refine r1 ?_;refine UN.other rfl ?_;refine r8 ?_;refine WO.inl gN rfl (Xi.clo (first:= []) (cap:= [.pointer (some ⟨b1,0,none⟩)]) lk ZsH lks rfl) (WF.begin (args:= [_,_]) (fn:=Tryz.f75) Kq0 (by exact rfl) Tryz.ntmps75 (by simp) ?_);simp only [Z7,Z9,Nat.reduceAdd];refine r16 ?_;refine r4 ?_;refine Yl.Qd rfl (ZU lk ZB) ?_;refine r3 ?_;refine cn hL ?_ ?_
      ·intro hc hL;refine r6 ?_;refine r1 ?_;refine YO.ret ?_;refine r3 ?_;refine YO.ret ?_;exact rt hL hT hS
      ·intro hc hL;refine r2 ?_;exact YO.Y2 _ hL ⟨_,_,rfl,hS.only (.c k0 (.c k0 .n)),YD⟩
     ·intro hc hL;refine r8 ?_;refine r1 ?_;refine cn hL ?_ ?_
      ·intro hc hL;refine r3 ?_;refine UN.other rfl ?_;refine r1 ?_;refine UN.other rfl ?_;refine r1 ?_;refine UN.other rfl ?_;refine r2 ?_;exact YO.Y2 _ hL ⟨_,_,rfl,hS.only (.c k0 (.c k0 .n)),YD⟩
      ·intro hc hL;refine r8 ?_;refine cn hL ?_ ?_
       ·intro hc hL;refine r2 ?_;refine UN.other rfl ?_;refine r1 ?_;refine UN.other rfl ?_;refine r1 ?_;refine UN.other rfl ?_;refine r1 ?_;refine UN.other rfl ?_;refine YO.exit ?_;refine r16 ?_;refine r6 ?_;refine YO.ret ?_;exact rt hL hT hS
       ·intro hc hL;refine r3 ?_;refine UN.other rfl ?_;refine r1 ?_;refine UN.other rfl ?_;refine r1 ?_;refine UN.other rfl ?_;refine r1 ?_;refine UN.other rfl ?_;refine YO.exit ?_;refine UN.other rfl ?_;refine r2 ?_;exact YO.Y2 _ hL ⟨_,_,rfl,hS.only .n⟩
theorem ZHo {h:H} {p0:Zb} {p1:ZH} {Zi:Option Addr} {Zh:Nat} {Zq:Option Addr} {Zo:Nat} {Zk:Option Addr} {Zj:Nat} {Zp:Option Addr} {Zn:Nat} {Zm:Option Addr} {Zl:Nat} {r:Bool} (ZA:Sl (Zu .i64) h.size h Zi Zh p0.Zv) (ZN:Sl (Zz (Zu .i64)) h.size h Zq Zo p0.qK) (ZL:Sl (Zz Zc) h.size h Zk Zj p0.qQ) (ZO:Sl (Zz Zg) h.size h Zp Zn p0.qJ) (ZK:Sl Zd h.size h Zm Zl p0.qG) (hL:Zuu p0 p1=some r):Pure XX 47 #[.agg [.slice Zi p0.Zv.length Zh,.slice Zq p0.qK.length Zo,.slice Zk p0.qQ.length Zj,.slice Zp p0.qJ.length Zn,.slice Zm p0.qG.length Zl,.int .i64 p0.said].toArray,.agg [.int .i64 p1.act,.int .i64 p1.a,.int .i64 p1.b].toArray] h (.bool r):=
 WR.XO rfl (ZHn (Nat.le_refl _) ZA ZN ZL ZO ZK hL)
theorem Zy6 {F wm:Nat} {h:H} {p0:Zb} {p1:Int} {Zi:Option Addr} {Zh:Nat} {Zq:Option Addr} {Zo:Nat} {Zk:Option Addr} {Zj:Nat} {Zp:Option Addr} {Zn:Nat} {Zm:Option Addr} {Zl:Nat} {r:(XG×Bool)} (ZX:wm <=h.size) (ZA:Sl (Zu .i64) wm h Zi Zh p0.Zv) (ZN:Sl (Zz (Zu .i64)) wm h Zq Zo p0.qK) (ZL:Sl (Zz Zc) wm h Zk Zj p0.qQ) (ZO:Sl (Zz Zg) wm h Zp Zn p0.qJ) (ZK:Sl Zd wm h Zm Zl p0.qG) (hL:Zre F p0 p1=some r):
 WR XX 52 #[.agg [.slice Zi p0.Zv.length Zh,.slice Zq p0.qK.length Zo,.slice Zk p0.qQ.length Zj,.slice Zp p0.qJ.length Zn,.slice Zm p0.qG.length Zl,.int .i64 p0.said].toArray,.int .i64 p1] wm h (CP (fun(v:Value) (Gb:List (Ast wm))=>v= .tuple [.agg [.int .i64 r.1.at_,.int .i64 r.1.age,.int .i64 r.1.letter,.bool r.1.is].toArray,.bool r.2].toArray∧Gb= []) [] h):=by
 refine bg Tryz.ntmps52 ZX Yd.nil ?_;intro T hT hS;unfold Zre at hL;refine r3 ?_;rintro _ h2 ⟨b1,eb1,rfl,hS⟩;refine r1 ?_;rintro _ h4 ⟨b3,eb3,rfl,hS⟩;refine r6 ?_;rintro _ h6 ⟨b5,eb5,rfl,hS⟩;refine r16 ?_;refine r1 ?_;refine WC.loop (WL.lift hL (fun(p:Int×Int×Int×Int×Int×Bool) (s:Fs)=>match p with | (v13,v16,v18,v19,v20,v21)=>∃ (fr8:Fr) (h7:H),s= ⟨fr8,[],h7,none⟩∧Sp wm T h [bx wm b1 (cW p0 Zi Zh Zq Zo Zk Zj Zp Zn Zm Zl),bx wm b3 [.int .i64 0,.int .i64 0,.int .i64 0,.bool false],bx wm b5 [.int .i64 v18,.int .i64 v19,.int .i64 v20,.bool v21]] h7∧fr8.at 1= .int .i64 p1∧fr8.at 2= .pointer (some ⟨b1,0,none⟩)∧fr8.at 4= .pointer (some ⟨b3,0,none⟩)∧fr8.at 6= .pointer (some ⟨b5,0,none⟩)∧fr8.at 7= .int .i64 v13∧fr8.at 15= .int .i64 (p0.qQ.length:Int)∧fr8.at 16= .int .i64 v16) ⟨_,_,rfl,hS.only (.c k2 (.c k1 (.c k0 .n))),YD⟩ ?_);clear hL hS;rintro U5 ⟨v13,v16,v18,v19,v20,v21⟩ s ZlT hL ⟨fr8,h7,rfl,hS,e9,e10,e11,e12,e14,e15,e17⟩;dsimp only [Zmp] at hL;refine r6 ?_;refine cn hL ?_ ?_
 ·intro hc hL;refine r2 ?_;refine WC.Zbn (r:=r) (fun(p:Int×Int×Int×Int×Bool) (s:Fs)=>match p with | (v29,v33,v34,v35,v36)=>∃ (UL:Fr) (h23:H),s= ⟨UL,[],h23,none⟩∧Sp wm T h [bx wm b1 (cW p0 Zi Zh Zq Zo Zk Zj Zp Zn Zm Zl),bx wm b3 [.int .i64 0,.int .i64 0,.int .i64 0,.bool false],bx wm b5 [.int .i64 v33,.int .i64 v34,.int .i64 v35,.bool v36]] h23∧UL.at 1= .int .i64 p1∧UL.at 2= .pointer (some ⟨b1,0,none⟩)∧UL.at 4= .pointer (some ⟨b3,0,none⟩)∧UL.at 6= .pointer (some ⟨b5,0,none⟩)∧UL.at 7= .int .i64 v29∧UL.at 15= .int .i64 (p0.qQ.length:Int)∧UL.at 16= .int .i64 v16) (ZiT v16 U5) ?_ ?_
  ·clear hL hS;rintro⟨v29,v33,v34,v35,v36⟩ s hL ⟨UL,h23,rfl,hS,e25,e26,e27,e28,e30,e31,e32⟩;dsimp only [ZiT] at hL;refine r4 ?_;exact Ye.Y2 (ZlT _ _ hL ⟨_,_,rfl,hS.only (.c k0 (.c k0 (.c k0 .n))),YD⟩)
  ·skip;refine XC ?_;obtain⟨x37,Zfq,hL⟩:=bind_some hL;obtain⟨b38,o39,⟨a40,c41⟩,Zig,Zim,Zik,ZkM⟩:=Sl.at_ ZL Zfq;refine WO.w gN rfl (ZE UR QZ lk lk rfl Zig Zfq) ?_;have ZoF:Sl Zc wm h a40 c41 x37:=ZkM;refine WO.w gN rfl (ZW WG (Yo fh rfl) (At.fz hS.fz Zik Zim) (j:=0) rfl (v:= .slice a40 x37.length c41) rfl) ?_;refine r1 ?_;obtain⟨x42,Zqw,hL⟩:=bind_some hL;obtain⟨b43,o44,_,ZxP,Zym,Zx4,ZLu⟩:=Sl.at_ ZoF Zqw;refine WO.w gN rfl (ZE UQ XA lk lk rfl ZxP Zqw) ?_;refine r1 ?_;refine WO.w gN rfl (ZW ZuW (Yo fh rfl) (At.fz hS.fz Zx4 Zym) (j:=0) rfl (v:= .bool x42.here) rfl) ?_;refine r2 ?_;refine cn hL ?_ ?_
   ·intro hc hL;refine r6 ?_;obtain⟨U0,Zov,hL⟩:=bind_some hL;obtain⟨b46,o47,⟨a48,c49⟩,ZoP,ZoV,ZoS,ZoR⟩:=Sl.at_ ZL Zov;refine WO.w gN rfl (ZE UR QZ lk lk rfl ZoP Zov) ?_;have ZoE:Sl Zc wm h a48 c49 U0:=ZoR;refine WO.w gN rfl (ZW WG (Yo fh rfl) (At.fz hS.fz ZoS ZoV) (j:=0) rfl (v:= .slice a48 U0.length c49) rfl) ?_;refine r1 ?_;obtain⟨x50,ZJz,hL⟩:=bind_some hL;obtain⟨b51,o52,_,ZK8,ZMd,ZLP,ZSA⟩:=Sl.at_ ZoE ZJz;refine WO.w gN rfl (ZE UQ XA lk lk rfl ZK8 ZJz) ?_;refine r1 ?_;refine WO.w gN rfl (ZW Xv (Yo fh rfl) (At.fz hS.fz ZLP ZMd) (j:=2) rfl (v:= .int .i64 x50.age) rfl) ?_;refine WO.w gN rfl (X4 Zzy (ZC lk (ZC lk (ZC lk (ZC lk Yf)))) rfl (cs':= [.int .i64 v16,.int .i64 x50.age,.int .i64 (-1),.bool true]) rfl) ?_;refine r1 ?_;rintro h53 hS;refine r8 ?_;exact YO.Y2 _ hL ⟨_,_,rfl,hS.only (.c k1 (.c k1 (.c k0 .n))),YD⟩
   ·intro hc hL;refine r2 ?_;exact YO.Y2 _ hL ⟨_,_,rfl,hS.only (.c k0 (.c k0 (.c k0 .n))),YD⟩
 ·intro hc hL;refine XC ?_;refine r3 ?_;refine WC.loop (WL.lift hL (fun(p:Int×Int×Int×Int×Int×Bool) (s:Fs)=>match p with | (v59,v63,v65,v66,v67,v68)=>∃ (ZcV:Fr) (h54:H),s= ⟨ZcV,[],h54,none⟩∧Sp wm T h [bx wm b3 [.int .i64 0,.int .i64 0,.int .i64 0,.bool false],bx wm b5 [.int .i64 v65,.int .i64 v66,.int .i64 v67,.bool v68]] h54∧ZcV.at 1= .int .i64 p1∧ZcV.at 4= .pointer (some ⟨b3,0,none⟩)∧ZcV.at 6= .pointer (some ⟨b5,0,none⟩)∧ZcV.at 7= .int .i64 v59∧ZcV.at 43= .slice Zm p0.qG.length Zl∧ZcV.at 44= .int .i64 (p0.qG.length:Int)∧ZcV.at 45= .int .i64 v63) ⟨_,_,rfl,hS.only (.c k1 (.c k1 .n)),YD⟩ ?_);clear hL hS;rintro Zlx ⟨v59,v63,v65,v66,v67,v68⟩ s ZBu hL ⟨ZcV,h54,rfl,hS,e56,e57,e58,e60,e61,e62,e64⟩;dsimp only [ZiU] at hL;refine r6 ?_;refine cn hL ?_ ?_
  ·intro hc hL;refine r6 ?_;refine r1 ?_;obtain⟨x70,Zw0,hL⟩:=bind_some hL;obtain⟨b71,o72,⟨⟨a73,c74⟩,⟨a75,c76⟩⟩,ZxJ,Zyd,ZD5,ZxY⟩:=Sl.at_ ZK Zw0;refine WO.w gN rfl (ZE JK Y4 lk lk rfl ZxJ Zw0) ?_;have ZJ0:Sl (Zu .i64) wm h a73 c74 x70.qV:=ZxY.1;have ZJZ:Sl (Zu .i64) wm h a75 c76 x70.Yh:=ZxY.2;refine WO.w gN rfl (Xh ZaE Y4 (Yo fh rfl) (At.fz hS.fz ZD5 Zyd) (j:=0) rfl rfl (ws:= (cL x70 a73 c74 a75 c76)) rfl) ?_;refine r1 ?_;rintro _ h78 ⟨b77,ZWn,rfl,hS⟩;refine r2 ?_;rintro h79 hS;refine r8 ?_;refine r3 ?_;refine WC.loop (WL.lift hL (fun(p:Int×Int×Int×Int×Int×Bool) (s:Fs)=>match p with | (v85,v94,v96,v97,v98,v99)=>∃ (KW:Fr) (h80:H),s= ⟨KW,[],h80,none⟩∧Sp wm T h [bx wm b3 [.int .i64 0,.int .i64 0,.int .i64 0,.bool false],bx wm b5 [.int .i64 v96,.int .i64 v97,.int .i64 v98,.bool v99],bx wm b77 (cL x70 a73 c74 a75 c76)] h80∧KW.at 1= .int .i64 p1∧KW.at 4= .pointer (some ⟨b3,0,none⟩)∧KW.at 6= .pointer (some ⟨b5,0,none⟩)∧KW.at 7= .int .i64 v85∧KW.at 9= .int .i64 v63∧KW.at 10= .pointer (some ⟨b77,0,none⟩)∧KW.at 43= .slice Zm p0.qG.length Zl∧KW.at 44= .int .i64 (p0.qG.length:Int)∧KW.at 45= .int .i64 v63∧KW.at 51= .slice a73 x70.qV.length c74∧KW.at 52= .int .i64 (x70.qV.length:Int)∧KW.at 53= .int .i64 v94) ⟨_,_,rfl,hS.only (.c k1 (.c k1 (.c k0 .n))),YD⟩ ?_);clear hL hS;rintro ZcB ⟨v85,v94,v96,v97,v98,v99⟩ s Zxv hL ⟨KW,h80,rfl,hS,e82,e83,e84,e86,e87,e88,e89,e90,e91,e92,e93,e95⟩;dsimp only [Zmo] at hL;refine r6 ?_;refine cn hL ?_ ?_
   ·intro hc hL;refine r2 ?_;refine WC.Zbn (r:=r) (fun(p:Int×Int×Int×Int×Bool) (s:Fs)=>match p with | (ZAI,Ztt,v117,ZgI,ZAH)=>∃ (K7:Fr) (Zuf:H),s= ⟨K7,[],Zuf,none⟩∧Sp wm T h [bx wm b3 [.int .i64 0,.int .i64 0,.int .i64 0,.bool false],bx wm b5 [.int .i64 Ztt,.int .i64 v117,.int .i64 ZgI,.bool ZAH],bx wm b77 (cL x70 a73 c74 a75 c76)] Zuf∧K7.at 1= .int .i64 p1∧K7.at 4= .pointer (some ⟨b3,0,none⟩)∧K7.at 6= .pointer (some ⟨b5,0,none⟩)∧K7.at 7= .int .i64 ZAI∧K7.at 9= .int .i64 v63∧K7.at 10= .pointer (some ⟨b77,0,none⟩)∧K7.at 43= .slice Zm p0.qG.length Zl∧K7.at 44= .int .i64 (p0.qG.length:Int)∧K7.at 45= .int .i64 v63∧K7.at 51= .slice a73 x70.qV.length c74∧K7.at 52= .int .i64 (x70.qV.length:Int)∧K7.at 53= .int .i64 v94) (ZiS v94 ZcB) ?_ ?_
    ·clear hL hS;rintro⟨ZAI,Ztt,v117,ZgI,ZAH⟩ s hL ⟨K7,Zuf,rfl,hS,ZHD,ZRe,ZHC,ZRd,e108,e109,ZHB,ZRc,ZMU,ZMT,ZCu,e115⟩;dsimp only [ZiS] at hL;refine r4 ?_;exact Ye.Y2 (Zxv _ _ hL ⟨_,_,rfl,hS.only (.c k0 (.c k0 (.c k0 .n))),YD⟩)
    ·skip;refine r4 ?_;obtain⟨ZEG,ZDH,hL⟩:=bind_some hL;obtain⟨ZYm,ZUw,_,ZFZ,ZGF,ZGg,ZQo⟩:=Sl.at_ ZJ0 ZDH;refine WO.w gN rfl (ZE YE YF lk lk rfl ZFZ ZDH) ?_;refine WO.w gN rfl (ZW Xv (Yo fh rfl) (At.fz hS.fz ZGg ZGF) (j:=0) rfl (v:= .int .i64 ZEG) rfl) ?_;refine r16 ?_;refine r2 ?_;refine cn hL ?_ ?_
     ·intro hc hL;refine r1 ?_;refine WC.Xx mixed Kq0 ?_;refine r4 ?_;refine r1 ?_;obtain⟨ZjF,ZoB,hL⟩:=bind_some hL;obtain⟨ZmS,ZO6,_,ZqK,ZqP,ZqN,ZF5⟩:=Sl.at_ ZJZ ZoB;refine WX.w gN rfl (ZE YE YF lk lk rfl ZqK ZoB) ?_ rfl;refine WX.w gN rfl (ZW Xv (Yo fh rfl) (At.fz hS.fz ZqN ZqP) (j:=0) rfl (v:= .int .i64 ZjF) rfl) ?_ rfl;refine r1 ?_;refine WX.w gN rfl (X4 Zzy (ZC lk (ZC lk (ZC lk (ZC lk Yf)))) rfl (cs':= [.int .i64 x70.Z8,.int .i64 ZjF,.int .i64 v63,.bool false]) rfl) ?_ rfl;refine WX.hu gN (ZaQ hS k1 X6 lk lk (vs:= [.int .i64 x70.Z8,.int .i64 ZjF,.int .i64 v63,.bool false]) rfl rfl rfl rfl (cs':= [.int .i64 x70.Z8,.int .i64 ZjF,.int .i64 v63,.bool false]) rfl) ?_ rfl rfl [] Kq0 YV.e;rintro ZMC hS;refine r8 ?_;exact YO.Y2 _ hL ⟨_,_,rfl,hS.only (.c k1 (.c k0 (.c k0 .n))),YD⟩
     ·intro hc hL;refine r2 ?_;exact YO.Y2 _ hL ⟨_,_,rfl,hS.only (.c k0 (.c k0 (.c k0 .n))),YD⟩
   ·intro hc hL;refine r8 ?_;refine r2 ?_;exact Ye.Y2 (ZBu _ _ hL ⟨_,_,rfl,hS.only (.c k0 (.c k0 .n)),YD⟩)
  ·intro hc hL;refine r8 ?_;refine r3 ?_;rintro h127 hS;refine r4 ?_;have hr:=Oi0 hL;subst hr;exact Yl.gen (vs:= [.agg [.int .i64 v65,.int .i64 v66,.int .i64 v67,.bool v68].toArray,.bool (v59==1)]) rfl (Xd (Y3 rfl (Zy rfl e57)) (Kn Zjq X6 (hS.atB k0) (j:=0) rfl rfl (ws:= [.int .i64 v65,.int .i64 v66,.int .i64 v67,.bool v68]) rfl) (ZU lk ZB)) rfl ⟨_,⟨rfl,rfl⟩,hT ▸ hS.only .n⟩
theorem ZHh {wm:Nat} {h:H} {p0:Zb} {p1:Int} {p2:XG} {p3 p4:Int} {Zi:Option Addr} {Zh:Nat} {Zq:Option Addr} {Zo:Nat} {Zk:Option Addr} {Zj:Nat} {Zp:Option Addr} {Zn:Nat} {Zm:Option Addr} {Zl:Nat} {r:Bool} (ZX:wm <=h.size) (ZA:Sl (Zu .i64) wm h Zi Zh p0.Zv) (ZN:Sl (Zz (Zu .i64)) wm h Zq Zo p0.qK) (ZL:Sl (Zz Zc) wm h Zk Zj p0.qQ) (ZO:Sl (Zz Zg) wm h Zp Zn p0.qJ) (ZK:Sl Zd wm h Zm Zl p0.qG) (hL:Zmn p0 p1 p2 p3 p4=some r):
 WR XX 53 #[.agg [.slice Zi p0.Zv.length Zh,.slice Zq p0.qK.length Zo,.slice Zk p0.qQ.length Zj,.slice Zp p0.qJ.length Zn,.slice Zm p0.qG.length Zl,.int .i64 p0.said].toArray,.int .i64 p1,.agg [.int .i64 p2.at_,.int .i64 p2.age,.int .i64 p2.letter,.bool p2.is].toArray,.int .i64 p3,.int .i64 p4] wm h (CP (fun(v:Value) (Gb:List (Ast wm))=>v= .bool r∧Gb= []) [] h):=by
 refine bg Tryz.ntmps53 ZX Yd.nil ?_;intro T hT hS;unfold Zmn at hL;refine r3 ?_;rintro _ h2 ⟨b1,eb1,rfl,hS⟩;refine r1 ?_;rintro _ h4 ⟨b3,eb3,rfl,hS⟩;refine r16 ?_;refine r8 ?_;refine r3 ?_;refine cn hL ?_ ?_
 ·intro hc hL;refine r6 ?_;refine r1 ?_;exact rt hL hT hS
 ·intro hc hL;refine r8 ?_;refine r3 ?_;refine cn hL ?_ ?_
  ·intro hc hL;refine r8 ?_;refine r3 ?_;exact rt hL hT hS
  ·intro hc hL;refine r6 ?_;refine r1 ?_;obtain⟨x5,hx5,hL⟩:=bind_some hL;obtain⟨b6,o7,⟨a8,c9⟩,ZFI,ZGl,ZF9,ZLn⟩:=Sl.at_ ZL hx5;refine WO.w gN rfl (ZE UR QZ lk lk rfl ZFI hx5) ?_;have ZPH:Sl Zc wm h a8 c9 x5:=ZLn;refine WO.w gN rfl (ZW WG (Yo fh rfl) (At.fz hS.fz ZF9 ZGl) (j:=0) rfl (v:= .slice a8 x5.length c9) rfl) ?_;refine r1 ?_;obtain⟨x10,ZBf,hL⟩:=bind_some hL;obtain⟨b11,o12,_,ZLi,ZMo,ZL0,ZSH⟩:=Sl.at_ ZPH ZBf;refine WO.w gN rfl (ZE UQ XA lk lk rfl ZLi ZBf) ?_;refine r1 ?_;refine WO.w gN rfl (ZW Xv (Yo fh rfl) (At.fz hS.fz ZL0 ZMo) (j:=2) rfl (v:= .int .i64 x10.age) rfl) ?_;refine r6 ?_;exact rt hL hT hS
theorem Zrd {h:H} {p0:Zb} {p1:Int} {p2:XG} {p3 p4:Int} {Zi:Option Addr} {Zh:Nat} {Zq:Option Addr} {Zo:Nat} {Zk:Option Addr} {Zj:Nat} {Zp:Option Addr} {Zn:Nat} {Zm:Option Addr} {Zl:Nat} {r:Bool} (ZA:Sl (Zu .i64) h.size h Zi Zh p0.Zv) (ZN:Sl (Zz (Zu .i64)) h.size h Zq Zo p0.qK) (ZL:Sl (Zz Zc) h.size h Zk Zj p0.qQ) (ZO:Sl (Zz Zg) h.size h Zp Zn p0.qJ) (ZK:Sl Zd h.size h Zm Zl p0.qG) (hL:Zmn p0 p1 p2 p3 p4=some r):Pure XX 53 #[.agg [.slice Zi p0.Zv.length Zh,.slice Zq p0.qK.length Zo,.slice Zk p0.qQ.length Zj,.slice Zp p0.qJ.length Zn,.slice Zm p0.qG.length Zl,.int .i64 p0.said].toArray,.int .i64 p1,.agg [.int .i64 p2.at_,.int .i64 p2.age,.int .i64 p2.letter,.bool p2.is].toArray,.int .i64 p3,.int .i64 p4] h (.bool r):=
 WR.XO rfl (ZHh (Nat.le_refl _) ZA ZN ZL ZO ZK hL)
theorem ZHg {wm:Nat} {h:H} {p0:Zb} {p1:(List XG)} {p2:Zr} {p3:Int} {p4:Bool} {Zi:Option Addr} {Zh:Nat} {Zq:Option Addr} {Zo:Nat} {Zk:Option Addr} {Zj:Nat} {Zp:Option Addr} {Zn:Nat} {Zm:Option Addr} {Zl:Nat} {QJ:Option Addr} {QI:Nat} {r:Bool} (ZX:wm <=h.size) (ZA:Sl (Zu .i64) wm h Zi Zh p0.Zv) (ZN:Sl (Zz (Zu .i64)) wm h Zq Zo p0.qK) (ZL:Sl (Zz Zc) wm h Zk Zj p0.qQ) (ZO:Sl (Zz Zg) wm h Zp Zn p0.qJ) (ZK:Sl Zd wm h Zm Zl p0.qG) (Zad:Sl ZbJ wm h QJ QI p1) (hL:Zo5 p0 p1 p2 p3 p4=some r):
 WR XX 54 #[.agg [.slice Zi p0.Zv.length Zh,.slice Zq p0.qK.length Zo,.slice Zk p0.qQ.length Zj,.slice Zp p0.qJ.length Zn,.slice Zm p0.qG.length Zl,.int .i64 p0.said].toArray,.slice QJ p1.length QI,.agg [.int .i64 p2.msg,.int .i64 p2.place,.int .i64 p2.from_,.int .i64 p2.age,.int .i64 p2.hops].toArray,.int .i64 p3,.bool p4] wm h (CP (fun(v:Value) (Gb:List (Ast wm))=>v= .bool r∧Gb= []) [] h):=by
 refine bg Tryz.ntmps54 ZX Yd.nil ?_;intro T hT hS;unfold Zo5 at hL;refine r3 ?_;rintro _ h2 ⟨b1,eb1,rfl,hS⟩;refine r1 ?_;rintro _ h4 ⟨b3,eb3,rfl,hS⟩;refine r16 ?_;refine r16 ?_;refine r16 ?_;refine r6 ?_;refine r1 ?_;refine cn hL ?_ ?_
 ·intro hc hL;refine r6 ?_;refine r1 ?_;exact rt hL hT hS
 ·intro hc hL;refine r6 ?_;refine r1 ?_;obtain⟨x5,hx5,hL⟩:=bind_some hL;obtain⟨b6,o7,_,ZFI,ZGl,ZF9,ZLn⟩:=Sl.at_ Zad hx5;refine WO.w gN rfl (ZE WJ X6 lk lk rfl ZFI hx5) ?_;refine WO.w gN rfl (Xh Zjq X6 (Yo fh rfl) (At.fz hS.fz ZF9 ZGl) (j:=0) rfl rfl (ws:= [.int .i64 x5.at_,.int .i64 x5.age,.int .i64 x5.letter,.bool x5.is]) rfl) ?_;refine r1 ?_;rintro _ h9 ⟨b8,eb8,rfl,hS⟩;refine r1 ?_;rintro h10 hS;refine r8 ?_;refine cn hL ?_ ?_
  ·intro hc hL;refine r16 ?_;refine r6 ?_;refine r1 ?_;exact rt hL hT hS
  ·intro hc hL;refine r8 ?_;refine r3 ?_;obtain⟨XY,ZjS,hL⟩:=bind_some hL;refine WO.cp gN rfl (Xi.fn ZxF (Zf lk (Zf lk (Zf lk (Zf lk (Zf lk Zx)))))) (Zrd (hS.YZ ZA) (hS.YZ ZN) (hS.YZ ZL) (hS.YZ ZO) (hS.YZ ZK) ZjS) ?_;refine r4 ?_;exact rt hL hT hS
theorem Zy5 {h:H} {p0:Zb} {p1:(List XG)} {p2:Zr} {p3:Int} {p4:Bool} {Zi:Option Addr} {Zh:Nat} {Zq:Option Addr} {Zo:Nat} {Zk:Option Addr} {Zj:Nat} {Zp:Option Addr} {Zn:Nat} {Zm:Option Addr} {Zl:Nat} {QJ:Option Addr} {QI:Nat} {r:Bool} (ZA:Sl (Zu .i64) h.size h Zi Zh p0.Zv) (ZN:Sl (Zz (Zu .i64)) h.size h Zq Zo p0.qK) (ZL:Sl (Zz Zc) h.size h Zk Zj p0.qQ) (ZO:Sl (Zz Zg) h.size h Zp Zn p0.qJ) (ZK:Sl Zd h.size h Zm Zl p0.qG) (Zad:Sl ZbJ h.size h QJ QI p1) (hL:Zo5 p0 p1 p2 p3 p4=some r):Pure XX 54 #[.agg [.slice Zi p0.Zv.length Zh,.slice Zq p0.qK.length Zo,.slice Zk p0.qQ.length Zj,.slice Zp p0.qJ.length Zn,.slice Zm p0.qG.length Zl,.int .i64 p0.said].toArray,.slice QJ p1.length QI,.agg [.int .i64 p2.msg,.int .i64 p2.place,.int .i64 p2.from_,.int .i64 p2.age,.int .i64 p2.hops].toArray,.int .i64 p3,.bool p4] h (.bool r):=
 WR.XO rfl (ZHg (Nat.le_refl _) ZA ZN ZL ZO ZK Zad hL)
end Go.Proofs.YtbmbbcaaimehkaaGreat
end
end
section
namespace Go.Proofs.YtbmbbcaaimehkaaGreat
open Go.Lf
def Zml (v35:Int) (ZlB:((List Int)×Int ->Option (List Int))) (x38:(List Zr)):(List Int)×Int ->((List Int)×Int ->Option (List Int)) ->Option (List Int):=fun(v46,v56) Zwz=>
 (bif decide (v56 < (x38.length:Int)) then(ZQ x38 v56).bind fun x59=>(app 8 v46 [x59.msg]).bind fun z67=>Zwz (z67,Xa (v56 + 1)) else ZlB (v46,Xa (v35 + 1)))
def ZiP (v80:Int) (Zfi:((List Int)×Int ->Option (List Int))):(List Int) ->Option (List Int):=fun v85=>
 Zfi (v85,Xa (v80 + 1))
def ZiQ (p0:Zb):(List Int)×Int ->((List Int)×Int ->Option (List Int)) ->Option (List Int):=fun(v73,v80) Zfi=>
 (bif decide (v80 < (p0.qG.length:Int)) then(ZQ p0.qG v80).bind fun x93=>(bif(x93.kind==1) then(app 8 v73 [x93.Yi.msg]).bind fun z105=>(ZiP v80 Zfi) z105 else(ZiP v80 Zfi) v73) else some v73)
def ZiR (F:Nat) (p0:Zb):(List Int)×Int ->((List Int)×Int ->Option (List Int)) ->Option (List Int):=fun(v28,v35) ZlB=>
 (bif decide (v35 < (p0.qJ.length:Int)) then(ZQ p0.qJ v35).bind fun x38=>loop F (Zml v35 ZlB x38) (v28,0) else loop F (ZiQ p0) (v28,0))
def Zmm (F:Nat) (p0:Zb):(List Int)×Int ->((List Int)×Int ->Option (List Int)) ->Option (List Int):=fun(v6,v13) ZhS=>
 (bif decide (v13 < (p0.qK.length:Int)) then(ZQ p0.qK v13).bind fun x16=>(app 8 v6 x16).bind fun z21=>ZhS (z21,Xa (v13 + 1)) else loop F (ZiR F p0) (v6,0))
def Zy4 (F:Nat) (p0:Zb):Option (List Int):=
 loop F (Zmm F p0) ([],0)
end Go.Proofs.YtbmbbcaaimehkaaGreat
end
section
set_option maxRecDepth 20000
set_option maxHeartbeats 4000000
noncomputable section
namespace Go.Proofs.YtbmbbcaaimehkaaGreat
open Go.YJ Go.Lf
theorem ZHf {F wm:Nat} {h:H} {p0:Zb} {Zi:Option Addr} {Zh:Nat} {Zq:Option Addr} {Zo:Nat} {Zk:Option Addr} {Zj:Nat} {Zp:Option Addr} {Zn:Nat} {Zm:Option Addr} {Zl:Nat} {r:(List Int)} (ZX:wm <=h.size) (ZA:Sl (Zu .i64) wm h Zi Zh p0.Zv) (ZN:Sl (Zz (Zu .i64)) wm h Zq Zo p0.qK) (ZL:Sl (Zz Zc) wm h Zk Zj p0.qQ) (ZO:Sl (Zz Zg) wm h Zp Zn p0.qJ) (ZK:Sl Zd wm h Zm Zl p0.qG) (hL:Zy4 F p0=some r):
 WR XX 55 #[.agg [.slice Zi p0.Zv.length Zh,.slice Zq p0.qK.length Zo,.slice Zk p0.qQ.length Zj,.slice Zp p0.qJ.length Zn,.slice Zm p0.qG.length Zl,.int .i64 p0.said].toArray] wm h (CP (fun(v:Value) (Gb:List (Ast wm))=>∃ (Qi:Option Addr) (Qg:Nat) (Qh:Nat),v= .slice Qi Qg Qh∧Gb= [ow wm (Zu .i64) Qi Qg Qh r]) [] h):=by
 refine bg Tryz.ntmps55 ZX Yd.nil ?_;intro T hT hS;unfold Zy4 at hL;refine r3 ?_;rintro _ h2 ⟨b1,eb1,rfl,hS⟩;refine r16 ?_;refine r2 ?_;have hS:=hS.nil (e:= (Zu .i64));refine WC.loop (WL.lift hL (fun(p:(List Int)×Int) (s:Fs)=>match p with | (v6,v13)=>∃ (KU:Fr) (h3:H) (a7:Option Addr) (c8:Nat) (n9:Nat),s= ⟨KU,[],h3,none⟩∧Sp wm T h [ow wm (Zu .i64) a7 n9 c8 v6,bx wm b1 (cW p0 Zi Zh Zq Zo Zk Zj Zp Zn Zm Zl)] h3∧KU.at 1= .pointer (some ⟨b1,0,none⟩)∧KU.at 3= .slice a7 n9 c8∧KU.at 13= .slice Zq p0.qK.length Zo∧KU.at 14= .int .i64 (p0.qK.length:Int)∧KU.at 15= .int .i64 v13) ⟨_,_,none,0,0,rfl,hS.only (.c k0 (.c k0 .n)),YD⟩ ?_);clear hL hS;rintro ZhS ⟨v6,v13⟩ s ZlU hL ⟨KU,h3,a7,c8,n9,rfl,hS,e5,e10,e11,e12,e14⟩;obtain rfl:=hS.on k0;dsimp only [Zmm] at hL;refine r6 ?_;refine cn hL ?_ ?_
 ·intro hc hL;refine r6 ?_;obtain⟨x16,hx16,hL⟩:=bind_some hL;obtain⟨b17,o18,⟨a19,c20⟩,ZxU,Zyq,Zx7,ZsP⟩:=Sl.at_ ZN hx16;refine WO.w gN rfl (ZE Zd2 U1 lk lk rfl ZxU hx16) ?_;have ZsA:Sl (Zu .i64) wm h a19 c20 x16:=ZsP;refine WO.w gN rfl (ZW ZgG (Yo fh rfl) (At.fz hS.fz Zx7 Zyq) (j:=0) rfl (v:= .slice a19 x16.length c20) rfl) ?_;refine r6 ?_;obtain⟨z21,ZPm,hL⟩:=bind_some hL;refine WO.hv gN rfl (Ky (e:= (Zu .i64)) hS k0 JF lk lk (Sl.src (hS.sl ZsA)) rfl ZPm) ?_;rintro _ h24 ⟨a22,c23,rfl,hS⟩;refine r8 ?_;exact Ye.Y2 (ZlU _ _ hL ⟨_,_,a22,c23,z21.length,rfl,hS.only (.c k0 (.c k0 .n)),YD⟩)
 ·intro hc hL;refine XC ?_;refine r3 ?_;refine WC.loop (WL.lift hL (fun(p:(List Int)×Int) (s:Fs)=>match p with | (v28,v35)=>∃ (Zq2:Fr) (h25:H) (a29:Option Addr) (c30:Nat) (n31:Nat),s= ⟨Zq2,[],h25,none⟩∧Sp wm T h [ow wm (Zu .i64) a29 n31 c30 v28,bx wm b1 (cW p0 Zi Zh Zq Zo Zk Zj Zp Zn Zm Zl)] h25∧Zq2.at 1= .pointer (some ⟨b1,0,none⟩)∧Zq2.at 3= .slice a29 n31 c30∧Zq2.at 24= .slice Zp p0.qJ.length Zn∧Zq2.at 25= .int .i64 (p0.qJ.length:Int)∧Zq2.at 26= .int .i64 v35) ⟨_,_,a7,c8,v6.length,rfl,hS.only (.c k0 (.c k0 .n)),YD⟩ ?_);clear hL hS;rintro ZlB ⟨v28,v35⟩ s ZBF hL ⟨Zq2,h25,a29,c30,n31,rfl,hS,e27,e32,e33,e34,e36⟩;obtain rfl:=hS.on k0;dsimp only [ZiR] at hL;refine r6 ?_;refine cn hL ?_ ?_
  ·intro hc hL;refine r6 ?_;obtain⟨x38,hx38,hL⟩:=bind_some hL;obtain⟨b39,o40,⟨a41,c42⟩,ZLc,ZMh,ZLT,ZLw⟩:=Sl.at_ ZO hx38;refine WO.w gN rfl (ZE KZ Jf lk lk rfl ZLc hx38) ?_;have ZJ6:Sl Zg wm h a41 c42 x38:=ZLw;refine WO.w gN rfl (ZW Zdf (Yo fh rfl) (At.fz hS.fz ZLT ZMh) (j:=0) rfl (v:= .slice a41 x38.length c42) rfl) ?_;refine r8 ?_;refine r3 ?_;refine WC.loop (WL.lift hL (fun(p:(List Int)×Int) (s:Fs)=>match p with | (v46,v56)=>∃ (ZjY:Fr) (h43:H) (a47:Option Addr) (c48:Nat) (n49:Nat),s= ⟨ZjY,[],h43,none⟩∧Sp wm T h [ow wm (Zu .i64) a47 n49 c48 v46,bx wm b1 (cW p0 Zi Zh Zq Zo Zk Zj Zp Zn Zm Zl)] h43∧ZjY.at 1= .pointer (some ⟨b1,0,none⟩)∧ZjY.at 3= .slice a47 n49 c48∧ZjY.at 24= .slice Zp p0.qJ.length Zn∧ZjY.at 25= .int .i64 (p0.qJ.length:Int)∧ZjY.at 26= .int .i64 v35∧ZjY.at 30= .slice a41 x38.length c42∧ZjY.at 31= .int .i64 (x38.length:Int)∧ZjY.at 32= .int .i64 v56) ⟨_,_,a29,c30,v28.length,rfl,hS.only (.c k0 (.c k0 .n)),YD⟩ ?_);clear hL hS;rintro Zwz ⟨v46,v56⟩ s ZBz hL ⟨ZjY,h43,a47,c48,n49,rfl,hS,e45,e50,e51,e52,e53,e54,e55,e57⟩;obtain rfl:=hS.on k0;dsimp only [Zml] at hL;refine r6 ?_;refine cn hL ?_ ?_
   ·intro hc hL;refine r6 ?_;obtain⟨x59,ZJy,hL⟩:=bind_some hL;obtain⟨b60,o61,_,ZK6,ZMb,ZLI,ZSy⟩:=Sl.at_ ZJ6 ZJy;refine WO.w gN rfl (ZE Zbf Uq lk lk rfl ZK6 ZJy) ?_;refine WO.w gN rfl (Xh ZkZ Uq (Yo fh rfl) (At.fz hS.fz ZLI ZMb) (j:=0) rfl rfl (ws:= (cM x59)) rfl) ?_;refine r1 ?_;rintro _ h63 ⟨b62,ZWt,rfl,hS⟩;refine r1 ?_;rintro h64 hS;refine r6 ?_;refine WO.hn gN rfl (Zar (e:= (Zu .i64)) hS YE YF WQ rfl rfl rfl (ZC lk Yf) rfl [((),x59.msg)] rfl (xs:= [x59.msg]) rfl (by intro q hq;simp only [List.mem_cons,List.not_mem_nil,or_false] at hq;subst hq;exact trivial) rfl) ?_;rintro _ h66 ⟨b65,ZWr,rfl,hS⟩;obtain⟨z67,ZPg,hL⟩:=bind_some hL;refine WO.hv gN rfl (Ky (e:= (Zu .i64)) hS k2 JF lk lk (hS.QH k0) (hS.on k0) ZPg) ?_;rintro _ h70 ⟨a68,c69,rfl,hS⟩;refine r8 ?_;exact Ye.Y2 (ZBz _ _ hL ⟨_,_,a68,c69,z67.length,rfl,hS.only (.c k0 (.c k2 .n)),YD⟩)
   ·intro hc hL;refine r8 ?_;refine r2 ?_;exact Ye.Y2 (ZBF _ _ hL ⟨_,_,a47,c48,v46.length,rfl,hS.only (.c k0 (.c k0 .n)),YD⟩)
  ·intro hc hL;refine XC ?_;refine r3 ?_;refine WC.loop (WL.lift hL (fun(p:(List Int)×Int) (s:Fs)=>match p with | (v73,v80)=>∃ (Zuk:Fr) (h71:H) (a74:Option Addr) (c75:Nat) (n76:Nat),s= ⟨Zuk,[],h71,none⟩∧Sp wm T h [ow wm (Zu .i64) a74 n76 c75 v73] h71∧Zuk.at 3= .slice a74 n76 c75∧Zuk.at 44= .slice Zm p0.qG.length Zl∧Zuk.at 45= .int .i64 (p0.qG.length:Int)∧Zuk.at 46= .int .i64 v80) ⟨_,_,a29,c30,v28.length,rfl,hS.only (.c k0 .n),YD⟩ ?_);clear hL hS;rintro Zfi ⟨v73,v80⟩ s ZBq hL ⟨Zuk,h71,a74,c75,n76,rfl,hS,e77,e78,e79,e81⟩;obtain rfl:=hS.on k0;dsimp only [ZiQ] at hL;refine r6 ?_;refine cn hL ?_ ?_
   ·intro hc hL;refine r2 ?_;refine WC.Zbn (r:=r) (fun(v85:(List Int)) (s:Fs)=>∃ (Zuj:Fr) (h83:H) (a86:Option Addr) (c87:Nat) (n88:Nat),s= ⟨Zuj,[],h83,none⟩∧Sp wm T h [ow wm (Zu .i64) a86 n88 c87 v85] h83∧Zuj.at 3= .slice a86 n88 c87∧Zuj.at 44= .slice Zm p0.qG.length Zl∧Zuj.at 45= .int .i64 (p0.qG.length:Int)∧Zuj.at 46= .int .i64 v80) (ZiP v80 Zfi) ?_ ?_
    ·clear hL hS;rintro v85 s hL ⟨Zuj,h83,a86,c87,n88,rfl,hS,e89,e90,e91,e92⟩;obtain rfl:=hS.on k0;dsimp only [ZiP] at hL;refine r4 ?_;exact Ye.Y2 (ZBq _ _ hL ⟨_,_,a86,c87,v85.length,rfl,hS.only (.c k0 .n),YD⟩)
    ·skip;refine r3 ?_;obtain⟨x93,hx93,hL⟩:=bind_some hL;obtain⟨b94,o95,⟨⟨a96,c97⟩,⟨a98,c99⟩⟩,ZxI,Zyb,Zx2,ZoQ⟩:=Sl.at_ ZK hx93;refine WO.w gN rfl (ZE JK Y4 lk lk rfl ZxI hx93) ?_;have ZJW:Sl (Zu .i64) wm h a96 c97 x93.qV:=ZoQ.1;have ZJV:Sl (Zu .i64) wm h a98 c99 x93.Yh:=ZoQ.2;refine WO.w gN rfl (Xh ZaE Y4 (Yo fh rfl) (At.fz hS.fz Zx2 Zyb) (j:=0) rfl rfl (ws:= (cL x93 a96 c97 a98 c99)) rfl) ?_;refine r1 ?_;rintro _ Zuf ⟨Zcg,ZEe,rfl,hS⟩;refine r1 ?_;rintro ZQO hS;refine r8 ?_;refine r1 ?_;refine cn hL ?_ ?_
     ·intro hc hL;refine r4 ?_;refine r1 ?_;refine WO.hn gN rfl (Zar (e:= (Zu .i64)) hS YE YF WQ rfl rfl rfl (ZC lk Yf) rfl [((),x93.Yi.msg)] rfl (xs:= [x93.Yi.msg]) rfl (by intro q hq;simp only [List.mem_cons,List.not_mem_nil,or_false] at hq;subst hq;exact trivial) rfl) ?_;rintro _ ZMD ⟨ZRy,ZMS,rfl,hS⟩;obtain⟨z105,ZwY,hL⟩:=bind_some hL;refine WO.hv gN rfl (Ky (e:= (Zu .i64)) hS k2 JF lk lk (hS.QH k0) (hS.on k0) ZwY) ?_;rintro _ ZQN ⟨ZH3,c107,rfl,hS⟩;refine r3 ?_;exact YO.Y2 _ hL ⟨_,_,ZH3,c107,z105.length,rfl,hS.only (.c k0 .n),YD⟩
     ·intro hc hL;refine r2 ?_;exact YO.Y2 _ hL ⟨_,_,a74,c75,v73.length,rfl,hS.only (.c k1 .n),YD⟩
   ·intro hc hL;refine XC ?_;have hr:=Oi0 hL;subst hr;exact Yl.Qd rfl (ZU lk ZB) ⟨_,⟨a74,v73.length,c75,rfl,rfl⟩,hT ▸ hS.only (.c k0 .n)⟩
end Go.Proofs.YtbmbbcaaimehkaaGreat
end
end
