/- Hops Part 9 of the proof. -/
import Derived.Test.YtbmbbcaaimehkaaGreatHa8
set_option linter.all false
set_option maxHeartbeats 2000000
section
noncomputable section
namespace Go.YG
open Go.Lf
variable {X:Ctx} {n wm:Nat} {rd:Option Nat} {ops:Array Oper} {l:List Oper} {fr:Fr} {ds:List Deferred} {h h1 h2 h0:H} {T:Nat ->Prop} {G Gr Ga Gb:List (Ast wm)}
inductive FzS (wm:Nat):H ->H ->Prop
 | refl (h:H):FzS wm h h
 | step {h h':H} {i:Nat} {cs:List Value} {z:Nat} (hw:wm <=i) (hr:h.at i= .row cs true z) (k:FzS wm (h.put i (.row cs false 0)) h'):FzS wm h h'
theorem FzS.trans {h h1 h2:H} (a:FzS wm h h1) (b:FzS wm h1 h2):FzS wm h h2:=by
 induction a with
 | refl _=>exact b
 | step hw hr _ ih=>exact .step hw hr (ih b)
theorem WO.fzS {Q:XX ->Fs ->Prop} {h h':H} (a:FzS wm h h') (k:WO X n wm rd ops l ⟨fr,ds,h',none⟩ Q):WO X n wm rd ops l ⟨fr,ds,h,none⟩ Q:=by
 induction a with
 | refl _=>exact k
 | step hw hr _ ih=>exact WO.ZcX hw hr (ih k)
theorem Qv.fzs {α:Type} {e:JQ α} {a:Option Addr} {c:Nat} {xs:List α} (so:Qv e wm wm h a c xs):∃ h',FzS wm h h'∧Up wm (Xq a) h h'∧Sl e wm h' a c xs:=by
 rcases so.mem with⟨rfl,rfl,rfl⟩ | ⟨i,o,cs,rfl,h1,h2,h3,h4,h5⟩
 ·exact⟨h,.refl h,⟨Nat.le_refl _,fun _ _ _=>rfl,fun i hb=>by obtain⟨o,hb⟩:=hb;cases hb⟩,Sl.nil⟩
 ·have hown:(h.at i).own=true:=by rw [h2];rfl
  have hu:Up wm (Xq (some ⟨i,o,none⟩)) h (h.put i (.row cs false 0)):=
   ⟨Nat.le_refl _,fun j _ hn=>XU (fun q=>hn ⟨o,by rw [q]⟩) _,fun j hb=>by obtain⟨o',hb⟩:=hb;cases hb;exact⟨h1,hown⟩⟩
  exact⟨_,.step h1 h2 (.refl _),hu,⟨so.max,so.cap,so.nl,.inr ⟨i,o,cs,false,0,rfl,Yn (Xy h2 rfl) _,.inr rfl,h5.mono (hu.fz (Nat.le_refl _))⟩⟩⟩
theorem Zpj {α:Type} {e:JQ α} (ps:Nat ->Option Addr×Nat×Nat):∀ (xs:List (List α)) (k:Nat) (h:H) (Gr:List (Ast wm)),Sp wm T h0 (YS (fun k x=>(Z5 e).Yy wm (ps k) x) k xs ++ Gr) h ->
 ∃ h',FzS wm h h'∧Fz wm h h'∧Sp wm T h0 Gr h'∧∀ j x,xs[j]? =some x ->(ps (k + j)).2.1=x.length∧Sl e wm h' (ps (k + j)).1 (ps (k + j)).2.2 x
 | [],k,h,Gr,hS=>⟨h,.refl h,Fz.refl _ _,hS,fun j x hj=>by simp at hj⟩
 | x::xs,k,h,Gr,hS=>by
   have hS:Sp wm T h0 (ow wm e (ps k).1 (ps k).2.1 (ps k).2.2 x::(YS (fun k x=>(Z5 e).Yy wm (ps k) x) (k + 1) xs ++ Gr)) h:=hS;have hg:=hS.get k0;obtain⟨h1,f1,u1,s1⟩:=hg.2.fzs;have hS1:= (Zzf hS k0 u1 s1).2.drop k0;obtain⟨h2,f2,z2,hS2,hall⟩:=Zpj ps xs (k + 1) h1 Gr hS1;refine⟨h2,f1.trans f2,(u1.fz (Nat.le_refl _)).trans z2,hS2,fun j y hj=>?_⟩;cases j with
   | zero=>simp at hj;subst hj;exact⟨hg.1,s1.mono z2⟩
   | succ j=>
     have:=hall j y (by simpa using hj);have e1:k + 1 + j=k + (j + 1):=by omega
     rwa [e1] at this
theorem ZHG {α:Type} {e:JQ α} {a:Option Addr} {nn c:Nat} {ps:Nat ->Option Addr×Nat×Nat} {xs:List (List α)} (hS:Sp wm T h0 G h) (pk:Pk G (Xb wm (Z5 e) a nn c ps xs) Gr):∃ h',FzS wm h h'∧nn=xs.length∧Sp wm T h0 (Ye wm (ZE (ZE e)) (a,c) xs::Gr) h':=by
 obtain⟨g1,g2,g3,g4⟩:=hS.get pk
 let O:Ast wm:=ow wm (Zui (Z5 e).sz (Z5 e).pos) a ((Z5 e).rows ps xs).length c ((Z5 e).rows ps xs)
 have hS1:Sp wm T h0 ((Z5 e).parts wm ps xs ++ (O::Gr)) h:=by
  have h1:Sp wm T h0 ((O::(Z5 e).parts wm ps xs) ++ Gr) h:=by
   refine Sp.say (Ga:= [Xb wm (Z5 e) a nn c ps xs]) (Gr:=Gr) (hS.perm pk.perm) (Yd.cons ⟨rfl,g2⟩ g3 fun i f=>g4 i f) fun i f=>?_
   rcases Qa.cons.1 f with f | f
   ·exact⟨_,List.mem_singleton.2 rfl,.inl f⟩
   ·exact⟨_,List.mem_singleton.2 rfl,.inr f⟩
  exact h1.perm (by
   rw [List.cons_append];exact(List.perm_middle).symm)
 obtain⟨h1,f1,z1,hS2,hall⟩:=Zpj ps xs 0 h (O::Gr) hS1;obtain⟨h2,f2,u2,s2⟩:= (hS2.get k0).2.fzs;refine⟨h2,f1.trans f2,g1,hS2.one k0 u2 (fun _ q=>q) ?_ fun _ z=>z.elim⟩;show Sl (ZE e) wm h2 a c xs;have hlen:((Z5 e).rows ps xs).length=xs.length:=Um _ _ _;refine⟨by rw [← hlen];exact s2.max,by rw [← hlen];exact s2.cap,s2.nl,?_⟩;rcases s2.mem with q | ⟨i,o,cs,own,z,q1,q2,q3,q4⟩
 ·left;apply List.eq_nil_of_length_eq_zero;rw [← hlen,q];rfl
 ·refine .inr ⟨i,o,cs,own,z,q1,q2,q3,⟨by have:=q4.len;rw [hlen] at this;exact this,fun k x hk=>?_⟩⟩;obtain⟨n1,n2⟩:=hall k x hk;rw [Nat.zero_add] at n1 n2
  have hrow:((Z5 e).rows ps xs)[k]? =some ((Z5 e).raw (ps k) x):=by
   unfold Ne.rows;rw [Ja,hk,Nat.zero_add];rfl
  obtain⟨_,w1,_⟩:=q4.get k _ hrow;refine⟨((ps k).1,(ps k).2.2),?_,n2.mono (u2.fz (Nat.le_refl _))⟩;have w2:(cs.drop (o + k * 1)).take 1= [Value.slice (ps k).1 (ps k).2.1 (ps k).2.2]:=w1;rw [n1] at w2;exact w2
theorem WO.ZHF {Q:XX ->Fs ->Prop} {α:Type} {e:JQ α} {a:Option Addr} {nn c:Nat} {ps:Nat ->Option Addr×Nat×Nat} {xs:List (List α)} (hS:Sp wm T h0 G h) (pk:Pk G (Xb wm (Z5 e) a nn c ps xs) Gr) (k:∀ h',nn=xs.length∧Sp wm T h0 (Ye wm (ZE (ZE e)) (a,c) xs::Gr) h' ->WO X n wm rd ops l ⟨fr,ds,h',none⟩ Q):WO X n wm rd ops l ⟨fr,ds,h,none⟩ Q:=
 let⟨h',f,hh⟩:=ZHG hS pk;WO.fzS f (k h' hh)
end Go.YG
end
end
section
namespace Go.Lf
end Go.Lf
end
section
noncomputable section
namespace Go.YG
open Go.Lf
variable {X:Ctx} {n wm:Nat} {rd:Option Nat} {ops:Array Oper} {l:List Oper} {rest:Code}
section
variable {wm:Nat} {G Gr:List (Ast wm)} {h h0:H} {T0:Nat ->Prop} {fr:Fr} {ds:List Deferred} {κ ν:Type} {kv:κ ->Value} {vv:ν ->Value} {ll:List (κ×ν)} {d:Nat}
end
end Go.YG
end
end
section
noncomputable section
namespace Go.YG
open Go.Lf
variable {P:Program}
end Go.YG
end
end
section
noncomputable section
namespace Go.YG
open Go.Lf
variable {X:Ctx} {n wm:Nat} {rd:Option Nat} {ops:Array Oper} {ol:List Oper} {fr:Fr} {ds:List Deferred} {h h0:H} {ty:TypeId} {p:String} {af:Array Edge} {g:Option (Nat×Bool)} {T:Nat ->Prop} {G Gr:List (Ast wm)} {d l df:Nat} {LO:Xh} {ps:Array Tmp} {Yy bd:Code}
theorem Zh7 {α β:Type} {body:α ->(α ->Option β) ->Option β} (C:α ->β ->Prop) (hb:∀ next:α ->Option β,(∀ x r,next x=some r ->C x r) ->∀ x r,body x next=some r ->C x r):∀ F x r,loop F body x=some r ->C x r:=by
 intro F
 induction F with
 | zero=>intro x r h;cases h
 | succ F ih=>intro x r h;exact hb _ ih x r h
def dne (c:Code):Xh ->Xh
 | .loop _ _ fr n ps Yy bd df=>.loop .done (some c) fr n ps Yy bd df
 | A=>A
def lst (b:Bool) (c:Code) (A:Xh):Xh:=bif b then dne c A else A
inductive ZtO:XX ->Code ->Prop
 | ret:ZtO .ret .ret
 | exit (id:Nat):ZtO (.exit id) (.exit id)
structure BdS (n lo l:Nat) (fr:Fr) (ps:Array Tmp) (Yy bd:Code) (df:Nat) (R:Bool ->H ->Prop) (e:XX) (s:Fs):Prop where
 out:s.h.at l= .loop .busy none fr n ps Yy bd df∧
  ((e= .normal∧∀ h',(lo <=l ->Up lo (fun i=>i=l) s.h h') ->h'.at l= .loop .ready none fr n ps Yy bd df ->R true h')∨
   (∃ c,ZtO e c∧∀ h',(lo <=l ->Up lo (fun i=>i=l) s.h h') ->h'.at l= .loop .done (some c) fr n ps Yy bd df ->R false h'))
structure AsS (X:Ctx) (n wm lo l:Nat) (fr:Fr) (ps:Array Tmp) (Yy bd:Code) (df:Nat) (R:Bool ->H ->Prop) (e:XX) (s:Fs):Prop where
 out:e= .normal∧s.h.at l= .loop .ready none fr n ps Yy bd df∧∀ h1,(lo <=l ->Up lo (fun i=>i=l) s.h h1) ->h1.at l= .loop .busy none fr n ps Yy bd df ->WC X n wm (some l) bd ⟨s.fr,s.ds,h1,s.wr⟩ (BdS n lo l fr ps Yy bd df R)
theorem Zsd.mkS {l:Nat} {args:List Value} {fr fr1:Fr} {ps:Array Tmp} {Yy bd:Code} {df:Nat} {R:Bool ->H ->Prop} (lo:Nat) (hat:h.at l= .loop .ready none fr n ps Yy bd df) (hw:wm <=l) (hl:Nat.beq args.length ps.toList.length=true) (hs:Qh (ps.toList.zip args) n fr=some fr1)
 (k:WC X n wm (some l) Yy ⟨fr1,[],h,none⟩ (AsS X n wm lo l fr ps Yy bd df R)):Zsd X l args.toArray wm h R:=by
 obtain⟨e1,s1,⟨rfl,h1,k1⟩,j1⟩:=k;have o1:(s1.h.at l).own=true:=by rw [h1];rfl
 have s1l:=Xy h1 rfl;obtain⟨e2,s2,⟨h2,k2⟩,j2⟩:=k1 (s1.h.put l (.loop .busy none fr n ps Yy bd df)) (fun hl=>Up.put hl o1) (Yn s1l _);have o2:(s2.h.at l).own=true:=by rw [h2];rfl
 have s2l:=Xy h2 rfl
 have key:∃ b A,R b (s2.h.put l A)∧WJ l e2 s2=some (.fin (.ret (.bool b)) (s2.h.put l A)):=by
  rcases k2 with⟨rfl,k2⟩ | ⟨c,hx,k2⟩
  ·refine⟨true,_,k2 _ (fun hl=>Up.put hl o2) (Yn s2l _),?_⟩;unfold WJ;rw [h2]
  ·refine⟨false,_,k2 _ (fun hl=>Up.put hl o2) (Yn s2l _),?_⟩;unfold WJ;rw [h2];cases hx <;> rfl
 obtain⟨b,A,hR,hev⟩:=key;refine⟨b,s2.h.put l A,hR,?_⟩
 classical
 let ih:Q5 ->Option YV:=fun j=>if j= .code Yy n wm (some l) ⟨fr1,[],h,none⟩ then some (.code .normal s1) else Zal (.code bd n wm (some l) {s1 with h:=s1.h.put l (.loop .busy none fr n ps Yy bd df)}) (.code e2 s2) j
 have HI:∀ j r,ih j=some r ->YK X j r:=by
  intro j r e;dsimp only [ih] at e;split at e
  ·rename_i hj;cases e;rw [hj];exact j1
  ·exact Un (X:=X) j2 j r e
 refine Zap (C:=cfg X fun _=>false) (ih:=ih) HI ?_;unfold Zc0;rw [hat];have hl':Nat.beq args.toArray.toList.length ps.toList.length=true:=hl;dsimp only;rw [Nm0 hw,hl'];simp only [Bool.and_self,Cq1];have hs':Qh (ps.toList.zip args.toArray.toList) n fr=some fr1:=hs;rw [hs'];dsimp only;have i1:ih (.code Yy n wm (some l) {fr:=fr1,ds:= [],h:=h})=some (.code .normal s1):=by dsimp only [ih];rw [if_pos rfl]
 rw [i1];show KT ih l bd n wm .normal s1=_;unfold KT;dsimp only;rw [h1];dsimp only
 have i2:ih (.code bd n wm (some l) {s1 with h:=s1.h.put l (.loop .busy none fr n ps Yy bd df)})=some (.code e2 s2):=by
  dsimp only [ih];split
  ·rename_i hj;exfalso;injection hj with _ _ _ _ hs
   have:({s1 with h:=s1.h.put l (.loop .busy none fr n ps Yy bd df)}:Fs).h.at l=h.at l:=by rw [hs]
   dsimp only at this;rw [Yn s1l,hat] at this;cases this
  ·exact Uo _ _
 rw [i2];exact hev
theorem WO.ZPs {Q:XX ->Fs ->Prop} {fo:Operand} {xs:Array Operand} {ts:Array TypeId} {vs:List Value} {n2:Nat} {Qp fr1:Fr} {as2 bd2:Code} (hg:Ym ops ⟨some d,.call {callee:= .value fo,args:=xs,argTypes:=ts},ty,p,af,g⟩ fr) (hd:Nat.blt d n=true) (hf:Yl fr fo=some (.func (.yield l) #[] #[])) (hx:evs (Yl fr) xs.toList=some vs)
 (hS:Sp wm T h0 G h) (pk:Pk G (ob wm l LO) Gr) (hLO:LO= .loop .ready none Qp n2 ps as2 bd2 df) (hl:Nat.beq vs.length ps.toList.length=true) (hs:Qh (ps.toList.zip vs) n2 Qp=some fr1)
 (k:WC X n2 wm (some l) as2 ⟨fr1,[],h,none⟩ (AsS X n2 wm wm l Qp ps as2 bd2 df (fun b h'=>WO X n wm rd ops ol ⟨Tr.set fr d (.bool b),ds,h',none⟩ Q))):
 WO X n wm rd ops (⟨some d,.call {callee:= .value fo,args:=xs,argTypes:=ts},ty,p,af,g⟩::ol) ⟨fr,ds,h,none⟩ Q:=by
 obtain⟨h1,h2,h3⟩:=hS.get pk;have hat:=h1.trans hLO;exact WO.yld hg hd hf hx hat (Nb0 hl) (Zsd.mkS (lo:=wm) hat h2 hl hs k) fun b h' hk=>hk
theorem AsS.sp {Qp:Fr} {R:Bool ->H ->Prop} (hLO:LO= .loop .ready none fr n ps Yy bd df) (hS:Sp wm T h0 G h) (pk:Pk G (ob wm l LO) Gr) (k:∀ h1,Sp wm T h0 (ob wm l (bsy LO)::Gr) h1 ->WC X n wm (some l) bd ⟨Qp,ds,h1,none⟩ (BdS n wm l fr ps Yy bd df R)):AsS X n wm wm l fr ps Yy bd df R .normal ⟨Qp,ds,h,none⟩:=by
 obtain⟨h1,h2,h3⟩:=hS.get pk;refine⟨⟨rfl,h1.trans hLO,fun h' u e=>k h' ?_⟩⟩;exact hS.one pk (u h2) (fun _ q=>q) ⟨by rw [e,hLO];rfl,h2,by rw [hLO];rfl⟩ fun _ q=>.inl q
theorem BdS.sp {Qp:Fr} {R:Bool ->H ->Prop} (hLO:LO= .loop .ready none fr n ps Yy bd df) (hS:Sp wm T h0 G h) (pk:Pk G (ob wm l (bsy LO)) Gr) (k:∀ h1,Sp wm T h0 (ob wm l LO::Gr) h1 ->R true h1):BdS n wm l fr ps Yy bd df R .normal ⟨Qp,ds,h,none⟩:=by
 obtain⟨h1,h2,h3⟩:=hS.get pk;refine⟨⟨h1.trans (by rw [hLO];rfl),.inl ⟨rfl,fun h' u e=>k h' ?_⟩⟩⟩;exact hS.one pk (u h2) (fun _ q=>q) ⟨by rw [e,hLO],h2,by rw [hLO];rfl⟩ fun _ q=>.inl q
theorem BdS.stop {Qp:Fr} {R:Bool ->H ->Prop} {e:XX} {c:Code} (hx:ZtO e c) (hLO:LO= .loop .ready none fr n ps Yy bd df) (hS:Sp wm T h0 G h) (pk:Pk G (ob wm l (bsy LO)) Gr) (k:∀ h1,Sp wm T h0 (ob wm l (lst true c LO)::Gr) h1 ->R false h1):BdS n wm l fr ps Yy bd df R e ⟨Qp,ds,h,none⟩:=by
 obtain⟨h1,h2,h3⟩:=hS.get pk;refine⟨⟨h1.trans (by rw [hLO];rfl),.inr ⟨c,hx,fun h' u e=>k h' ?_⟩⟩⟩;exact hS.one pk (u h2) (fun _ q=>q) ⟨by rw [e,hLO];rfl,h2,by rw [hLO];rfl⟩ fun _ q=>.inl q
structure RgS (X:Ctx) (wm l:Nat) (fr:Fr) (n:Nat) (ps:Array Tmp) (Yy bd:Code) (df:Nat) (ds:List Deferred) (Q:XX ->Fs ->Prop) (h:H):Prop where
 low:wm <=l
 k:(h.at l= .loop .ready none fr n ps Yy bd df∧∀ h',Up wm (fun i=>i=l) h h' ->Q .normal ⟨fr,⟨.collected df,#[]⟩::ds,h',none⟩)∨
  (∃ c,h.at l= .loop .done (some c) fr n ps Yy bd df∧∀ h',Up wm (fun i=>i=l) h h' ->WC X n wm none c ⟨fr,⟨.collected df,#[]⟩::ds,h',none⟩ Q)
theorem RgS.sp {Q:XX ->Fs ->Prop} (hLO:LO= .loop .ready none fr n ps Yy bd df) (hS:Sp wm T h0 G h) (pk:Pk G (ob wm l LO) Gr) (k:∀ h',Sp wm T h0 Gr h' ->Q .normal ⟨fr,⟨.collected df,#[]⟩::ds,h',none⟩):RgS X wm l fr n ps Yy bd df ds Q h:=by
 obtain⟨h1,h2,h3⟩:=hS.get pk;refine⟨h2,.inl ⟨h1.trans hLO,fun h' u=>k h' ?_⟩⟩;exact Sp.step (Ga:= [ob wm l LO]) (Gb:= []) (hS.perm pk.perm) u (fun i e=>⟨_,List.mem_singleton.2 rfl,e⟩) Yd.nil fun i ⟨A,m,f⟩=>by simp at m
theorem RgS.stop {Q:XX ->Fs ->Prop} {c:Code} (hLO:LO= .loop .ready none fr n ps Yy bd df) (hS:Sp wm T h0 G h) (pk:Pk G (ob wm l (lst true c LO)) Gr) (k:∀ h',Sp wm T h0 Gr h' ->WC X n wm none c ⟨fr,⟨.collected df,#[]⟩::ds,h',none⟩ Q):RgS X wm l fr n ps Yy bd df ds Q h:=by
 obtain⟨h1,h2,h3⟩:=hS.get pk;refine⟨h2,.inr ⟨c,h1.trans (by rw [hLO];rfl),fun h' u=>k h' ?_⟩⟩;exact Sp.step (Ga:= [ob wm l (lst true c LO)]) (Gb:= []) (hS.perm pk.perm) u (fun i e=>⟨_,List.mem_singleton.2 rfl,e⟩) Yd.nil fun i ⟨A,m,f⟩=>by simp at m
theorem WC.ZFB {Q:XX ->Fs ->Prop} {gg:Operand} {f:FuncId} {first cap:List Value} (hS:Sp wm T h0 G h) (hg:Yl fr gg=some (.func (.func f) first.toArray cap.toArray)) (hf:(X.fns.get f).isSome=true)
 (k:∀ h' l df LO,LO=Xh.loop .ready none fr n ps Yy bd df ->Sp wm T h0 (ob wm l LO::ob wm df .deferred::G) h' ->WR X f (first ++ ([Value.func (.yield l) #[] #[]] ++ cap)).toArray wm h' (fun _ h2=>RgS X wm l fr n ps Yy bd df ds Q h2)):
 WC X n wm none (.rangeFunc gg ps Yy bd) ⟨fr,ds,h,none⟩ Q:=by
 have s1:Sp wm T h0 (ob wm h.size .deferred::G) (h.push .deferred):=ZlZ rfl hS
 have s2:Sp wm T h0 (ob wm (h.size + 1) (.loop .ready none fr n ps Yy bd h.size)::ob wm h.size .deferred::G) ((h.push .deferred).push (.loop .ready none fr n ps Yy bd h.size)):=by
  have:=ZlZ (A:= .loop .ready none fr n ps Yy bd h.size) rfl s1
  rwa [H.size_push] at this
 obtain⟨fn,hf⟩:=Option.isSome_iff_exists.1 hf;obtain⟨e,h3,⟨v,rfl,hr⟩,hj⟩:=k _ _ _ _ rfl s2
 have hac:Kc (cfg X fun _=>false).X ((h.push .deferred).push (.loop .ready none fr n ps Yy bd h.size)) (.func (.func f) first.toArray cap.toArray) [Value.func (.yield (h.size + 1)) #[] #[]]=some (.enter f (first ++ ([Value.func (.yield (h.size + 1)) #[] #[]] ++ cap)).toArray,.none):=by
  unfold Kc;have:(cfg X fun _=>false).X.fns.get f=some fn:=hf;dsimp only;rw [this];simp only [List.append_assoc]
 rcases hr.k with⟨hat,hk⟩ | ⟨c,hat,hk⟩
 ·refine⟨.normal,_,hk (h3.put (h.size + 1) (.loop .exhausted none fr n ps Yy bd h.size)) (Up.put hr.low (by rw [hat];rfl)),?_⟩;refine Xx.2 (Wt (C:=cfg X fun _=>false) (ih:=Zal (.call f _ wm _) (.fin (.ret v) h3)) (Un hj) ?_);show Qr (cfg X fun _=>false) _ gg n wm none (h.size + 1) ⟨fr,⟨.collected h.size,#[]⟩::ds,(h.push .deferred).push (.loop .ready none fr n ps Yy bd h.size),none⟩=_;unfold Qr;dsimp only;rw [hg];dsimp only;rw [hac];dsimp only;unfold UM;rw [Uo];dsimp only;rw [hat]
  rfl
 ·obtain⟨e2,s2,hq,hj2⟩:=hk (h3.put (h.size + 1) (.loop .exhausted (some c) fr n ps Yy bd h.size)) (Up.put hr.low (by rw [hat];rfl));refine⟨e2,s2,hq,?_⟩
  classical
  let ih:Q5 ->Option YV:=fun j=>if j= .code c n wm none ⟨fr,⟨.collected h.size,#[]⟩::ds,h3.put (h.size + 1) (.loop .exhausted (some c) fr n ps Yy bd h.size),none⟩ then some (.code e2 s2) else Zal (.call f (first ++ ([Value.func (.yield (h.size + 1)) #[] #[]] ++ cap)).toArray wm ((h.push .deferred).push (.loop .ready none fr n ps Yy bd h.size))) (.fin (.ret v) h3) j
  have HI:∀ j r,ih j=some r ->YK X j r:=by
   intro j r e;dsimp only [ih] at e;split at e
   ·rename_i hj';cases e;rw [hj'];exact hj2
   ·exact Un (X:=X) hj j r e
  refine Xx.2 (Wt (C:=cfg X fun _=>false) (ih:=ih) HI ?_);show Qr (cfg X fun _=>false) _ gg n wm none (h.size + 1) ⟨fr,⟨.collected h.size,#[]⟩::ds,(h.push .deferred).push (.loop .ready none fr n ps Yy bd h.size),none⟩=_;unfold Qr;dsimp only;rw [hg];dsimp only;rw [hac];dsimp only;unfold UM
  have i1:ih (.call f (first ++ ([Value.func (.yield (h.size + 1)) #[] #[]] ++ cap)).toArray wm ((h.push .deferred).push (.loop .ready none fr n ps Yy bd h.size)))=some (.fin (.ret v) h3):=by
   dsimp only [ih];split
   ·rename_i hj';cases hj'
   ·exact Uo _ _
  rw [i1];dsimp only;rw [hat];show ih (.code c n wm none _)=_;dsimp only [ih];rw [if_pos rfl]
theorem Znp {ev:Operand ->Option Value} {d:Option Tmp} {f:FuncId} {xs ys:Array Operand} {vs us:List Value} (hy:evs ev ys.toList=some us) (hx:evs ev xs.toList=some vs):XC X h ev ⟨d,.makeFunc (.func f) ys xs,ty,p,af,g⟩=some (.val (.func (.func f) us.toArray vs.toArray),.none):=by
 show(bif Zhw (.func f) then none else match evs ev ys.toList,evs ev xs.toList with | some vs,some us=>some (AN.val (.func (.func f) vs.toArray us.toArray),Eff.none) | _,_=>none)=_;rw [hx,hy];rfl
theorem Zww {κ ν:Type} [DecidableEq κ] {kv:κ ->Value} {vv:ν ->Value} {kt vt:TypeId} {i:Nat} {ll:List (κ×ν)} {t:TypeId} {x y z:Operand} {k:κ} {v:ν} (hS:Sp wm T h0 G h) (pk:Pk G (mp wm kv vv (some i) ll) Gr) (K:ZcE X.P kt kv) (hu:X.P.underlying t=some (.map kt vt)) (hx:Yl fr x=some (.map (some i))) (hy:Yl fr y=some (kv k)) (hz:Yl fr z=some (vv v)):
 HU X wm ⟨none,.insert t x y z,ty,p,af,g⟩ fr h (fun j=>j=i) (fun h'=>Sp wm T h0 (mp wm kv vv (some i) (Uw ll k v)::Gr) h'):=
 ZJG (ty:=ty) (p:=p) (af:=af) (g:=g) hS pk K hu hx hy hz
theorem Sl.ZDX {α:Type} {e:JQ α} {a:Option Addr} {c:Nat} {xs:List α} {k:Int} {x:α} {b o:Nat} (s:Sl e wm h a c xs) (ha:a=some ⟨b,o,none⟩) (hk:ZQ xs k=some x):Stb wm h b:=by
 obtain⟨i,o',q,h1,_,h2,_⟩:=s.at_ hk;rw [h1] at ha;cases ha;exact h2
section
variable {sf:ST} {m:Nat}
theorem WX.Zch {Q:Fr ->H ->Prop} {o:Oper} {c:Bool} (_:Zt ops o fr c) (h1:c=true ->WX X n wm rd ops sf m h (o::ol) fr Q) (h2:c=false ->WX X n wm rd ops sf m h (o::ol) fr Q):WX X n wm rd ops sf m h (o::ol) fr Q:=by
 cases c
 ·exact h2 rfl
 ·exact h1 rfl
theorem Sp.djs {T0:Nat ->Prop} {G Ga Gr:List (Ast wm)} {B:Ast wm} (s:Sp wm T0 h0 G h) (p:Sel G (B::Ga) Gr):∀ x,Qa Ga x ->¬ B.fp x:=fun x ⟨A,hA,fa⟩ fb=>
 (List.pairwise_cons.1 (s.Zhy p).dis).1 A hA x fb fa
inductive Lk (ops:Array Oper) (m:Nat) (R:Nat ->Prop):List (Nat×(Nat ->Prop)) ->Prop
 | n:Lk ops m R []
 | o {q:Nat×(Nat ->Prop)} {r:List (Nat×(Nat ->Prop))} (h:comp (Qe ops.toList 0 []) q.1 m=true):Lk ops m R r ->Lk ops m R (q::r)
 | d {q:Nat×(Nat ->Prop)} {r:List (Nat×(Nat ->Prop))} (h:∀ x,q.2 x ->¬ R x):Lk ops m R r ->Lk ops m R (q::r)
theorem Lk.get {R:Nat ->Prop} {r:List (Nat×(Nat ->Prop))} (h:Lk ops m R r):∀ q ∈ r,Cmp ops q.1 m∨∀ x,q.2 x ->¬ R x:=by
 induction h with
 | n=>intro q hq;simp at hq
 | o h1 _ ih=>intro q hq;rcases List.mem_cons.1 hq with z | z
              ·subst z;exact .inl h1
              ·exact ih q z
 | d h1 _ ih=>intro q hq;rcases List.mem_cons.1 hq with z | z
              ·subst z;exact .inr h1
              ·exact ih q z
theorem WX.wrM {Q:Fr ->H ->Prop} {T0:Nat ->Prop} {G:List (Ast wm)} {op:Op} {v:Value} (R:Nat ->Prop) (hS:Sp wm T0 h0 G h) (hg:Ym ops ⟨some d,op,ty,p,af,g⟩ fr) (hd:Nat.blt d n=true) (ha:∀ g':H,g'.size=h.size ->(∀ x,R x ->g'.at x=h.at x) ->XC X g' (Yl fr) ⟨some d,op,ty,p,af,g⟩=some (.val v,.none))
 (k:∀ h',h'.size=h.size ->Sp wm T0 h0 G h' ->WX X n wm rd ops ⟨(m,fun x=>¬ R x)::sf.s,sf.m,sf.p⟩ (m + 1) h' ol (Tr.set fr d v) Q) (hh:Yi ⟨some d,op,ty,p,af,g⟩=false) (hM:Lk ops m R sf.m):
 WX X n wm rd ops sf m h (⟨some d,op,ty,p,af,g⟩::ol) fr Q:=by
 have hsz:(Qd (Xp h R) h (mask (Xp h R) h)).size=h.size:=by rw [Y8,ZR]
 have hvv:∀ x,¬ R x ->VV h (Qd (Xp h R) h (mask (Xp h R) h)) (Xp h R) x:=fun x hx=>by
  rcases Nat.lt_or_ge x h.size with z | z
  ·exact .inl ⟨z,Zbc.2 ⟨z,hx⟩⟩
  ·exact .inr (by rw [hsz];exact z)
 refine⟨fun hb=>WE.cons (T:=fun _=>False) (xs0:=Xp h R) (h2:=Qd (Xp h R) h (mask (Xp h R) h)) (v:=v) [(m,fun x=>¬ R x)] [] none ?_ (fun q hq=>?_) (fun _ z=>z.elim) (fun _ z=>z.elim) (fun hh q hq=>(hM.get q hq).imp id fun z x hx=>hvv x (z x hx)) (fun x j C z=>by cases z) ((k _ hsz (hS.up (Up.hide wm _ h))).out fun q hq x hx=>by rw [hsz];exact hb q hq x hx)⟩
 ·have:=ZbP (wm:=wm) (rd:=rd) hg (.inl (ha _ (ZR _ _) fun x hx=>Zx9 hx)) (h1:=mask (Xp h R) h) rfl;have t0:(fun x:Nat=>Eff.tgt Eff.none=some x)=fun _=>False:=by funext x;simp [Eff.tgt]
  rw [t0] at this;exact⟨fun hw=>⟨_,rfl,this.1,this.2.1 (by rw [ZR];exact hw)⟩,fun _ z=>z.elim,fun d' e=>(by cases e;rwa [Nat.blt_eq] at hd),fun q=>Bool.noConfusion (hh.symm.trans q),fun _ z=>z.elim⟩
 ·rw [List.mem_singleton.1 hq];exact⟨rfl,fun x hx=>hvv x hx⟩
theorem WX.Zb4 {Q:Fr ->H ->Prop} {op:Op} {c:Bool} (hg:Zt ops ⟨some d,op,ty,p,af,g⟩ fr c) (hc:c=false) (hd:Nat.blt d n=true) (k:WX X n wm rd ops sf (m + 1) h ol (Tr.set fr d undef) Q) (hM:okM ops sf m ⟨some d,op,ty,p,af,g⟩=true):WX X n wm rd ops sf m h (⟨some d,op,ty,p,af,g⟩::ol) fr Q:=WX.off (hg.off hc) hd k hM
end
theorem ZDc {β:Type} {b:Bool} {x:Option β} {r:β} (h:(bif b then none else x)=some r):b=false∧x=some r:=by
 cases b
 ·exact⟨rfl,h⟩
 ·cases h
theorem Zbl (b:Bool):b=true∨b=false:=by cases b <;> simp
end Go.YG
end
end
section
end
section
namespace Go.Proofs.YtbmbbcaaimehkaaGreat
structure Zw where
 here:Bool
 Z9:Int
 age:Int
 deriving DecidableEq,Inhabited
structure Zr where
 msg:Int
 place:Int
 from_:Int
 age:Int
 hops:Int
 deriving DecidableEq,Inhabited
structure Ze where
 kind:Int
 Z9:Int
 Yb:Zr
 qV:(List Int)
 Yk:(List Int)
 place:Int
 at_:Int
 age:Int
 deriving DecidableEq,Inhabited
structure Zb where
 Zv:(List Int)
 qK:(List (List Int))
 qQ:(List (List Zw))
 qJ:(List (List Zr))
 qG:(List Ze)
 said:Int
 deriving DecidableEq,Inhabited
structure ZI where
 deed:Int
 place:Int
 at_:Int
 n:Int
 hops:Int
 deriving DecidableEq,Inhabited
structure Zx where
 act:Int
 a:Int
 b:Int
 deriving DecidableEq,Inhabited
structure XF where
 at_:Int
 age:Int
 letter:Int
 is:Bool
 deriving DecidableEq,Inhabited
structure Yr where
 machine:Int
 here:Bool
 age:Int
 deriving DecidableEq,Inhabited
structure ZV where
 Za:Zb
 Y2:(List Yr)
 deriving DecidableEq,Inhabited
structure Z6 where
 Za:Zb
 qX:(List ZI)
 deriving DecidableEq,Inhabited
def UN (x y:Zw):Bool:= [x.here==y.here,x.Z9==y.Z9,x.age==y.age].all id
def JI (x y:Zr):Bool:= [x.msg==y.msg,x.place==y.place,x.from_==y.from_,x.age==y.age,x.hops==y.hops].all id
def Ze0 (x y:Yr):Bool:= [x.machine==y.machine,x.here==y.here,x.age==y.age].all id
def ZIs:Option Bool:=some true
def Zrz (p0:List Int):Option (List Int):=bif Nat.ble p0.length 1000000 then some (p0.mergeSort fun x y=>decide (x <=y)) else none
end Go.Proofs.YtbmbbcaaimehkaaGreat
end
section
set_option maxRecDepth 100000
noncomputable section
namespace Go.Proofs.YtbmbbcaaimehkaaGreat
open Go.YG Go.Lf
def Zc:JQ Zw where
 sz:=3
 pos:=by decide
 K3:=Unit
 dflt:= ()
 sh:=fun _ x=>[.bool x.here,.int .i64 x.Z9,.int .i64 x.age]
 len:=fun _ _=>rfl
 one:=fun _ _=>rfl
 F:=fun _ _ _ _=>True
 mono:=fun _ x=>x
 up:=fun _ x=>x
def Zg:JQ Zr where
 sz:=5
 pos:=by decide
 K3:=Unit
 dflt:= ()
 sh:=fun _ x=>[.int .i64 x.msg,.int .i64 x.place,.int .i64 x.from_,.int .i64 x.age,.int .i64 x.hops]
 len:=fun _ _=>rfl
 one:=fun _ _=>rfl
 F:=fun _ _ _ _=>True
 mono:=fun _ x=>x
 up:=fun _ x=>x
def Zd:JQ Ze where
 sz:=12
 pos:=by decide
 K3:= (Option Addr×Nat)×(Option Addr×Nat)
 dflt:= ((none,0),(none,0))
 sh:=fun p x=>[.int .i64 x.kind,.int .i64 x.Z9,.int .i64 x.Yb.msg,.int .i64 x.Yb.place,.int .i64 x.Yb.from_,.int .i64 x.Yb.age,.int .i64 x.Yb.hops,.slice p.1.1 x.qV.length p.1.2,.slice p.2.1 x.Yk.length p.2.2,.int .i64 x.place,.int .i64 x.at_,.int .i64 x.age]
 len:=fun _ _=>rfl
 one:=fun _ _=>rfl
 F:=fun wm h p x=>Sl (Zu .i64) wm h p.1.1 p.1.2 x.qV∧Sl (Zu .i64) wm h p.2.1 p.2.2 x.Yk
 mono:=fun f ⟨y0,y1⟩=>⟨y0.mono f,y1.mono f⟩
 up:=fun f ⟨y0,y1⟩=>⟨y0.up f,y1.up f⟩
def Zot:JQ Zb where
 sz:=6
 pos:=by decide
 K3:= (Option Addr×Nat)×(Option Addr×Nat)×(Option Addr×Nat)×(Option Addr×Nat)×(Option Addr×Nat)
 dflt:= ((none,0),(none,0),(none,0),(none,0),(none,0))
 sh:=fun p x=>[.slice p.1.1 x.Zv.length p.1.2,.slice p.2.1.1 x.qK.length p.2.1.2,.slice p.2.2.1.1 x.qQ.length p.2.2.1.2,.slice p.2.2.2.1.1 x.qJ.length p.2.2.2.1.2,.slice p.2.2.2.2.1 x.qG.length p.2.2.2.2.2,.int .i64 x.said]
 len:=fun _ _=>rfl
 one:=fun _ _=>rfl
 F:=fun wm h p x=>Sl (Zu .i64) wm h p.1.1 p.1.2 x.Zv∧Sl (ZE (Zu .i64)) wm h p.2.1.1 p.2.1.2 x.qK∧Sl (ZE Zc) wm h p.2.2.1.1 p.2.2.1.2 x.qQ∧Sl (ZE Zg) wm h p.2.2.2.1.1 p.2.2.2.1.2 x.qJ∧Sl Zd wm h p.2.2.2.2.1 p.2.2.2.2.2 x.qG
 mono:=fun f ⟨y0,y1,y2,y3,y4⟩=>⟨y0.mono f,y1.mono f,y2.mono f,y3.mono f,y4.mono f⟩
 up:=fun f ⟨y0,y1,y2,y3,y4⟩=>⟨y0.up f,y1.up f,y2.up f,y3.up f,y4.up f⟩
def ZP:JQ ZI where
 sz:=5
 pos:=by decide
 K3:=Unit
 dflt:= ()
 sh:=fun _ x=>[.int .i64 x.deed,.int .i64 x.place,.int .i64 x.at_,.int .i64 x.n,.int .i64 x.hops]
 len:=fun _ _=>rfl
 one:=fun _ _=>rfl
 F:=fun _ _ _ _=>True
 mono:=fun _ x=>x
 up:=fun _ x=>x
def KH:JQ Zx where
 sz:=3
 pos:=by decide
 K3:=Unit
 dflt:= ()
 sh:=fun _ x=>[.int .i64 x.act,.int .i64 x.a,.int .i64 x.b]
 len:=fun _ _=>rfl
 one:=fun _ _=>rfl
 F:=fun _ _ _ _=>True
 mono:=fun _ x=>x
 up:=fun _ x=>x
def ZbY:JQ XF where
 sz:=4
 pos:=by decide
 K3:=Unit
 dflt:= ()
 sh:=fun _ x=>[.int .i64 x.at_,.int .i64 x.age,.int .i64 x.letter,.bool x.is]
 len:=fun _ _=>rfl
 one:=fun _ _=>rfl
 F:=fun _ _ _ _=>True
 mono:=fun _ x=>x
 up:=fun _ x=>x
def XA:JQ Yr where
 sz:=3
 pos:=by decide
 K3:=Unit
 dflt:= ()
 sh:=fun _ x=>[.int .i64 x.machine,.bool x.here,.int .i64 x.age]
 len:=fun _ _=>rfl
 one:=fun _ _=>rfl
 F:=fun _ _ _ _=>True
 mono:=fun _ x=>x
 up:=fun _ x=>x
theorem Zwa:XX.P.underlying 4=some .bool:=Kq0
theorem YI:XX.P.underlying 22=some (.slice 3):=Kq0
theorem Zen:XX.P.underlying 24=some (.slice 22):=Kq0
theorem Uj:XX.P.underlying 25=some (.slice 64):=Kq0
theorem K9:XX.P.underlying 26=some (.slice 90):=Kq0
theorem JR:XX.P.underlying 27=some (.slice 95):=Kq0
theorem ZnW:XX.P.underlying 41=some (.slice 67):=Kq0
theorem ZDV:XX.P.underlying 46=some (.slice 40):=Kq0
theorem ZDU:XX.P.underlying 54=some (.map 3 3):=Kq0
theorem ZDT:XX.P.underlying 61=some (.map 3 4):=Kq0
theorem Ui:XX.P.underlying 64=some (.slice 63):=Kq0
theorem Zbt:XX.P.underlying 90=some (.slice 92):=Kq0
theorem WS:XX.P.underlying 102=some (.slice 104):=Kq0
theorem ZlJ:XX.P.underlying 110=some (.slice 4):=Kq0
theorem ZhW:XX.P.underlying 124=some (.slice 120):=Kq0
theorem Zfv:XX.P.underlying 143=some (.map 93 142):=Kq0
theorem Xr:YL XX.P 3=some false:=Kq0
theorem Zr6:YL XX.P 4=some false:=Kq0
theorem Zg6:YL XX.P 22=some false:=Kq0
theorem ZAx:YL XX.P 24=some false:=Kq0
theorem Zp0:YL XX.P 25=some false:=Kq0
theorem ZtN:YL XX.P 26=some false:=Kq0
theorem ZAw:YL XX.P 27=some false:=Kq0
theorem ZpZ:YL XX.P 29=some true:=Kq0
theorem Zbz:YL XX.P 30=some false:=Kq0
theorem ZOu:YL XX.P 38=some false:=Kq0
theorem ZE6:YL XX.P 40=some true:=Kq0
theorem ZE5:YL XX.P 41=some false:=Kq0
theorem Zlv:YL XX.P 63=some true:=Kq0
theorem UQ:YL XX.P 64=some false:=Kq0
theorem ZOt:YL XX.P 65=some false:=Kq0
theorem ZE4:YL XX.P 67=some true:=Kq0
theorem Zdw:YL XX.P 90=some false:=Kq0
theorem Zlu:YL XX.P 92=some true:=Kq0
theorem ZOs:YL XX.P 93=some false:=Kq0
theorem ZaT:YL XX.P 95=some true:=Kq0
theorem ZjU:YL XX.P 104=some true:=Kq0
theorem ZIS:YL XX.P 116=some false:=Kq0
theorem Znw:YL XX.P 120=some true:=Kq0
theorem ZAy:YL XX.P 124=some false:=Kq0
theorem YJ:Yu XX.P 3=some 1:=Kq0
theorem Zn5:Yu XX.P 4=some 1:=Kq0
theorem U7:Yu XX.P 22=some 1:=Kq0
theorem ZFx:Yu XX.P 24=some 1:=Kq0
theorem ZFw:Yu XX.P 25=some 1:=Kq0
theorem ZFv:Yu XX.P 26=some 1:=Kq0
theorem ZlP:Yu XX.P 27=some 1:=Kq0
theorem ZdD:Yu XX.P 29=some 6:=Kq0
theorem ZFu:Yu XX.P 30=some 1:=Kq0
theorem Zqy:Yu XX.P 40=some 3:=Kq0
theorem ZlO:Yu XX.P 41=some 1:=Kq0
theorem Xt:Yu XX.P 63=some 3:=Kq0
theorem QG:Yu XX.P 64=some 1:=Kq0
theorem Zfy:Yu XX.P 67=some 5:=Kq0
theorem Jl:Yu XX.P 90=some 1:=Kq0
theorem Uz:Yu XX.P 92=some 5:=Kq0
theorem Y6:Yu XX.P 95=some 12:=Kq0
theorem X8:Yu XX.P 104=some 4:=Kq0
theorem ZBx:Yu XX.P 116=some 1:=Kq0
theorem Wp:Yu XX.P 120=some 3:=Kq0
theorem ZCU:ZJ XX.P 29 0 0:=ZJ.of Kq0
theorem ZCT:ZJ XX.P 29 1 1:=ZJ.of Kq0
theorem ZCS:ZJ XX.P 29 2 2:=ZJ.of Kq0
theorem ZCR:ZJ XX.P 29 3 3:=ZJ.of Kq0
theorem ZhA:ZJ XX.P 29 4 4:=ZJ.of Kq0
theorem ZCQ:ZJ XX.P 29 5 5:=ZJ.of Kq0
theorem ZCP:ZJ XX.P 40 0 0:=ZJ.of Kq0
theorem ZCO:ZJ XX.P 40 1 1:=ZJ.of Kq0
theorem Ztq:ZJ XX.P 40 2 2:=ZJ.of Kq0
theorem ZCN:ZJ XX.P 63 0 0:=ZJ.of Kq0
theorem ZCM:ZJ XX.P 63 1 1:=ZJ.of Kq0
theorem ZCL:ZJ XX.P 63 2 2:=ZJ.of Kq0
theorem ZCK:ZJ XX.P 67 0 0:=ZJ.of Kq0
theorem ZCJ:ZJ XX.P 67 1 1:=ZJ.of Kq0
theorem ZCI:ZJ XX.P 67 2 2:=ZJ.of Kq0
theorem ZCH:ZJ XX.P 67 3 3:=ZJ.of Kq0
theorem ZCG:ZJ XX.P 67 4 4:=ZJ.of Kq0
theorem ZCF:ZJ XX.P 92 0 0:=ZJ.of Kq0
theorem ZCE:ZJ XX.P 92 1 1:=ZJ.of Kq0
theorem ZCD:ZJ XX.P 92 2 2:=ZJ.of Kq0
theorem ZCC:ZJ XX.P 92 3 3:=ZJ.of Kq0
theorem ZCB:ZJ XX.P 92 4 4:=ZJ.of Kq0
theorem ZCA:ZJ XX.P 95 0 0:=ZJ.of Kq0
theorem ZCz:ZJ XX.P 95 1 1:=ZJ.of Kq0
theorem ZCy:ZJ XX.P 95 2 2:=ZJ.of Kq0
theorem ZCx:ZJ XX.P 95 3 7:=ZJ.of Kq0
theorem ZmE:ZJ XX.P 95 4 8:=ZJ.of Kq0
theorem ZCw:ZJ XX.P 95 5 9:=ZJ.of Kq0
theorem Ztp:ZJ XX.P 95 6 10:=ZJ.of Kq0
theorem Zto:ZJ XX.P 95 7 11:=ZJ.of Kq0
theorem ZeT:ZJ XX.P 100 0 0:=ZJ.of Kq0
theorem ZeS:ZJ XX.P 100 1 6:=ZJ.of Kq0
theorem Zzq:ZJ XX.P 104 0 0:=ZJ.of Kq0
theorem Zzp:ZJ XX.P 104 1 1:=ZJ.of Kq0
theorem Zzo:ZJ XX.P 104 2 2:=ZJ.of Kq0
theorem Zzn:ZJ XX.P 104 3 3:=ZJ.of Kq0
theorem Zzm:ZJ XX.P 120 0 0:=ZJ.of Kq0
theorem Zzl:ZJ XX.P 120 1 1:=ZJ.of Kq0
theorem Zzk:ZJ XX.P 120 2 2:=ZJ.of Kq0
theorem Zzj:ZJ XX.P 126 0 0:=ZJ.of Kq0
theorem Zzi:ZJ XX.P 126 1 6:=ZJ.of Kq0
theorem Zbs:YU XX.P 3=some (.int .i64 0):=Kq0
theorem Zsm:YU XX.P 4=some (.bool false):=Kq0
theorem ZvU:YU XX.P 22=some (.slice none 0 0):=Kq0
theorem Zqi:YU XX.P 29=some (.agg #[.slice none 0 0,.slice none 0 0,.slice none 0 0,.slice none 0 0,.slice none 0 0,.int .i64 0]):=Kq0
theorem ZFd:YU XX.P 30=some (.int .i64 0):=Kq0
theorem ZvT:YU XX.P 40=some (.agg #[.int .i64 0,.int .i64 0,.int .i64 0]):=Kq0
theorem ZhP:YU XX.P 63=some (.agg #[.bool false,.int .i64 0,.int .i64 0]):=Kq0
theorem ZvS:YU XX.P 64=some (.slice none 0 0):=Kq0
theorem ZhO:YU XX.P 67=some (.agg #[.int .i64 0,.int .i64 0,.int .i64 0,.int .i64 0,.int .i64 0]):=Kq0
theorem ZvR:YU XX.P 90=some (.slice none 0 0):=Kq0
theorem ZhN:YU XX.P 92=some (.agg #[.int .i64 0,.int .i64 0,.int .i64 0,.int .i64 0,.int .i64 0]):=Kq0
theorem Zdy:YU XX.P 95=some (.agg #[.int .i64 0,.int .i64 0,.int .i64 0,.int .i64 0,.int .i64 0,.int .i64 0,.int .i64 0,.slice none 0 0,.slice none 0 0,.int .i64 0,.int .i64 0,.int .i64 0]):=Kq0
theorem Zso:YU XX.P 100=some (.agg #[.slice none 0 0,.slice none 0 0,.slice none 0 0,.slice none 0 0,.slice none 0 0,.int .i64 0,.slice none 0 0]):=Kq0
theorem Zly:YU XX.P 104=some (.agg #[.int .i64 0,.int .i64 0,.int .i64 0,.bool false]):=Kq0
theorem ZA9:YU XX.P 116=some (.nilFunc):=Kq0
theorem Zlx:YU XX.P 120=some (.agg #[.int .i64 0,.bool false,.int .i64 0]):=Kq0
theorem Zsn:YU XX.P 126=some (.agg #[.slice none 0 0,.slice none 0 0,.slice none 0 0,.slice none 0 0,.slice none 0 0,.int .i64 0,.slice none 0 0]):=Kq0
theorem Zhm:YU XX.P 142=some (.nilFunc):=Kq0
theorem ZAd:UX XX.P 29 [.slice none 0 0,.slice none 0 0,.slice none 0 0,.slice none 0 0,.slice none 0 0,.int .i64 0] [(0,1),(1,1),(2,1),(3,1),(4,1),(5,1)]:= ⟨_,_,Zqi,rfl,Tryz.underlying29,by kernel_rfl⟩
theorem ZOe:UX XX.P 40 [.int .i64 0,.int .i64 0,.int .i64 0] [(0,1),(1,1),(2,1)]:= ⟨_,_,ZvT,rfl,Tryz.underlying40,by kernel_rfl⟩
theorem ZtK:UX XX.P 63 [.bool false,.int .i64 0,.int .i64 0] [(0,1),(1,1),(2,1)]:= ⟨_,_,ZhP,rfl,Tryz.underlying63,by kernel_rfl⟩
theorem ZAc:UX XX.P 67 [.int .i64 0,.int .i64 0,.int .i64 0,.int .i64 0,.int .i64 0] [(0,1),(1,1),(2,1),(3,1),(4,1)]:= ⟨_,_,ZhO,rfl,Tryz.underlying67,by kernel_rfl⟩
theorem ZE1:UX XX.P 92 [.int .i64 0,.int .i64 0,.int .i64 0,.int .i64 0,.int .i64 0] [(0,1),(1,1),(2,1),(3,1),(4,1)]:= ⟨_,_,ZhN,rfl,Tryz.underlying92,by kernel_rfl⟩
theorem ZtJ:UX XX.P 95 [.int .i64 0,.int .i64 0,.int .i64 0,.int .i64 0,.int .i64 0,.int .i64 0,.int .i64 0,.slice none 0 0,.slice none 0 0,.int .i64 0,.int .i64 0,.int .i64 0] [(0,1),(1,1),(2,5),(7,1),(8,1),(9,1),(10,1),(11,1)]:= ⟨_,_,Zdy,rfl,Tryz.underlying95,by kernel_rfl⟩
theorem ZIN:UX XX.P 100 [.slice none 0 0,.slice none 0 0,.slice none 0 0,.slice none 0 0,.slice none 0 0,.int .i64 0,.slice none 0 0] [(0,6),(6,1)]:= ⟨_,_,Zso,rfl,Tryz.underlying100,by kernel_rfl⟩
theorem ZAe:UX XX.P 104 [.int .i64 0,.int .i64 0,.int .i64 0,.bool false] [(0,1),(1,1),(2,1),(3,1)]:= ⟨_,_,Zly,rfl,Tryz.underlying104,by kernel_rfl⟩
theorem ZrV:UX XX.P 120 [.int .i64 0,.bool false,.int .i64 0] [(0,1),(1,1),(2,1)]:= ⟨_,_,Zlx,rfl,Tryz.underlying120,by kernel_rfl⟩
theorem ZIM:UX XX.P 126 [.slice none 0 0,.slice none 0 0,.slice none 0 0,.slice none 0 0,.slice none 0 0,.int .i64 0,.slice none 0 0] [(0,6),(6,1)]:= ⟨_,_,Zsn,rfl,Tryz.underlying126,by kernel_rfl⟩
theorem JL:ZaY XX.P #[22,22] 1 8:= ⟨3,.int .i64 0,by kernel_rfl⟩
theorem ZAn:ZaY XX.P #[24,24] 1 24:= ⟨22,.slice none 0 0,by kernel_rfl⟩
theorem ZAm:ZaY XX.P #[25,25] 1 24:= ⟨64,.slice none 0 0,by kernel_rfl⟩
theorem ZAl:ZaY XX.P #[26,26] 1 24:= ⟨90,.slice none 0 0,by kernel_rfl⟩
theorem ZcA:ZaY XX.P #[27,27] 12 128:= ⟨95,.agg #[.int .i64 0,.int .i64 0,.int .i64 0,.int .i64 0,.int .i64 0,.int .i64 0,.int .i64 0,.slice none 0 0,.slice none 0 0,.int .i64 0,.int .i64 0,.int .i64 0],by kernel_rfl⟩
theorem ZjT:ZaY XX.P #[41,41] 5 40:= ⟨67,.agg #[.int .i64 0,.int .i64 0,.int .i64 0,.int .i64 0,.int .i64 0],by kernel_rfl⟩
theorem ZAk:ZaY XX.P #[64,64] 3 24:= ⟨63,.agg #[.bool false,.int .i64 0,.int .i64 0],by kernel_rfl⟩
theorem ZjS:ZaY XX.P #[90,90] 5 40:= ⟨92,.agg #[.int .i64 0,.int .i64 0,.int .i64 0,.int .i64 0,.int .i64 0],by kernel_rfl⟩
theorem ZNE (x y:Zw):ZAV XX.P 63 (Zc.sh () x) (Zc.sh () y) (UN x y):=
 ⟨by kernel_rfl,Zgi (d:=9999) (bs:= [x.here==y.here,x.Z9==y.Z9,x.age==y.age]) Tryz.underlying63 Kq0 ⟨⟨by decide,_,_,YP Kq0 rfl,YP Kq0 rfl,Znb Kq0⟩,⟨by decide,_,_,YP Kq0 rfl,YP Kq0 rfl,eq_int Kq0⟩,⟨by decide,_,_,YP Kq0 rfl,YP Kq0 rfl,eq_int Kq0⟩,trivial⟩⟩
theorem ZEX (x y:Zr):ZAV XX.P 92 (Zg.sh () x) (Zg.sh () y) (JI x y):=
 ⟨by kernel_rfl,Zgi (d:=9999) (bs:= [x.msg==y.msg,x.place==y.place,x.from_==y.from_,x.age==y.age,x.hops==y.hops]) Tryz.underlying92 Kq0 ⟨⟨by decide,_,_,YP Kq0 rfl,YP Kq0 rfl,eq_int Kq0⟩,⟨by decide,_,_,YP Kq0 rfl,YP Kq0 rfl,eq_int Kq0⟩,⟨by decide,_,_,YP Kq0 rfl,YP Kq0 rfl,eq_int Kq0⟩,⟨by decide,_,_,YP Kq0 rfl,YP Kq0 rfl,eq_int Kq0⟩,⟨by decide,_,_,YP Kq0 rfl,YP Kq0 rfl,eq_int Kq0⟩,trivial⟩⟩
theorem ZIv (x y:Yr):ZAV XX.P 120 (XA.sh () x) (XA.sh () y) (Ze0 x y):=
 ⟨by kernel_rfl,Zgi (d:=9999) (bs:= [x.machine==y.machine,x.here==y.here,x.age==y.age]) Tryz.underlying120 Kq0 ⟨⟨by decide,_,_,YP Kq0 rfl,YP Kq0 rfl,eq_int Kq0⟩,⟨by decide,_,_,YP Kq0 rfl,YP Kq0 rfl,Znb Kq0⟩,⟨by decide,_,_,YP Kq0 rfl,YP Kq0 rfl,eq_int Kq0⟩,trivial⟩⟩
theorem ZBP:ZcE XX.P 3 (Value.int .i64):=ZcE.int Kq0
theorem Zk7:ZcE XX.P 93 (Value.int .i64):=ZcE.int Kq0
theorem ZOc:Zbk XX.P 4=some 1:=Kq0
theorem ZDl:Zbk XX.P 104=some 32:=Kq0
theorem ZDk:Zbk XX.P 120=some 24:=Kq0
theorem ZEJ:(XX.fns.get 14).isSome=true:=Kq0
theorem ZLN:(XX.fns.get 19).isSome=true:=Kq0
theorem ZLM:(XX.fns.get 20).isSome=true:=Kq0
theorem ZEI:(XX.fns.get 21).isSome=true:=Kq0
theorem ZLL:(XX.fns.get 22).isSome=true:=Kq0
theorem ZLK:(XX.fns.get 28).isSome=true:=Kq0
theorem ZLJ:(XX.fns.get 32).isSome=true:=Kq0
theorem ZLI:(XX.fns.get 33).isSome=true:=Kq0
theorem ZLH:(XX.fns.get 35).isSome=true:=Kq0
theorem ZLG:(XX.fns.get 36).isSome=true:=Kq0
theorem ZLF:(XX.fns.get 41).isSome=true:=Kq0
theorem ZLE:(XX.fns.get 47).isSome=true:=Kq0
theorem ZLD:(XX.fns.get 48).isSome=true:=Kq0
theorem ZLC:(XX.fns.get 49).isSome=true:=Kq0
theorem ZLB:(XX.fns.get 50).isSome=true:=Kq0
theorem ZLA:(XX.fns.get 51).isSome=true:=Kq0
theorem ZEH:(XX.fns.get 52).isSome=true:=Kq0
theorem Zyi:(XX.fns.get 53).isSome=true:=Kq0
theorem ZEG:(XX.fns.get 54).isSome=true:=Kq0
theorem ZLz:(XX.fns.get 55).isSome=true:=Kq0
theorem ZiK:(XX.fns.get 56).isSome=true:=Kq0
theorem ZLy:(XX.fns.get 65).isSome=true:=Kq0
theorem ZgX:(XX.fns.get 67).isSome=true:=Kq0
theorem ZLx:(XX.fns.get 68).isSome=true:=Kq0
theorem ZLw:(XX.fns.get 69).isSome=true:=Kq0
theorem ZLv:(XX.fns.get 70).isSome=true:=Kq0
theorem ZLu:(XX.fns.get 71).isSome=true:=Kq0
theorem ZLt:(XX.fns.get 72).isSome=true:=Kq0
theorem ZLs:(XX.fns.get 73).isSome=true:=Kq0
theorem ZEF:(XX.fns.get 74).isSome=true:=Kq0
theorem Zte:(XX.fns.get 75).isSome=true:=Kq0
theorem ZEE:(XX.fns.get 76).isSome=true:=Kq0
theorem Zyh:(XX.fns.get 77).isSome=true:=Kq0
theorem Zyg:(XX.fns.get 78).isSome=true:=Kq0
theorem ZED:(XX.fns.get 79).isSome=true:=Kq0
theorem Ztd:(XX.fns.get 80).isSome=true:=Kq0
theorem ZLr:(XX.fns.get 81).isSome=true:=Kq0
theorem ZLq:(XX.fns.get 82).isSome=true:=Kq0
theorem ZLp:(XX.fns.get 83).isSome=true:=Kq0
theorem ZEC:(XX.fns.get 84).isSome=true:=Kq0
theorem ZLo:(XX.fns.get 85).isSome=true:=Kq0
theorem ZLn:(XX.fns.get 86).isSome=true:=Kq0
theorem ZLm:(XX.fns.get 88).isSome=true:=Kq0
theorem ZLl:(XX.fns.get 89).isSome=true:=Kq0
theorem ZLk:(XX.fns.get 90).isSome=true:=Kq0
theorem ZLj:(XX.fns.get 91).isSome=true:=Kq0
theorem ZLi:(XX.fns.get 92).isSome=true:=Kq0
theorem Zyf:(XX.fns.get 93).isSome=true:=Kq0
theorem ZEB:(XX.fns.get 94).isSome=true:=Kq0
theorem Zye:(XX.fns.get 95).isSome=true:=Kq0
theorem ZEA:(XX.fns.get 96).isSome=true:=Kq0
theorem Zyd:(XX.fns.get 97).isSome=true:=Kq0
theorem ZiJ:(XX.fns.get 98).isSome=true:=Kq0
theorem ZLh:(XX.fns.get 99).isSome=true:=Kq0
theorem Zyk:(XX.fns.get 100).isSome=true:=Kq0
theorem ZGo:(XX.fns.get 101).isSome=true:=Kq0
theorem ZGn:(XX.fns.get 102).isSome=true:=Kq0
theorem Zyj:(XX.fns.get 103).isSome=true:=Kq0
theorem ZGm:(XX.fns.get 104).isSome=true:=Kq0
theorem ZGl:(XX.fns.get 105).isSome=true:=Kq0
theorem ZGk:(XX.fns.get 106).isSome=true:=Kq0
theorem ZGj:(XX.fns.get 109).isSome=true:=Kq0
end Go.Proofs.YtbmbbcaaimehkaaGreat
end
end
section
noncomputable section
namespace Go.YG
open Go.Lf
class ZcG (P:Program) (t:TypeId):Prop where
 out:YL P t=some false
class ZnF (P:Program) (t:TypeId):Prop where
 out:YL P t=some true
class SzF (P:Program) (t:TypeId) (n:outParam Nat):Prop where
 out:Yu P t=some n
class QC (P:Program) (t:TypeId) (f:Nat) (o:outParam Nat):Prop where
 out:ZJ P t f o
class ZgE (P:Program) (t:TypeId) (e:outParam TypeId):Prop where
 out:P.underlying t=some (.slice e)
class ZI5 (P:Program) (t:TypeId):Prop where
 out:P.underlying t=some .bool
class Zbq (P:Program) (t:TypeId) (v:outParam Value):Prop where
 out:YU P t=some v
theorem ia {v:Value} (h:JE v=false):JE v=false:=h
theorem K7 {fr:Fr} {t:Nat} {c:Bool} {v:Value} (h:fr.at t=cond c v undef) (ha:JE v=false) (hc:c=true):Yl fr (.tmp t)=some v:=YW h ha hc
section
variable {X:Ctx} {h:H} {fr:Fr} {ty:TypeId} {p':String} {af:Array Edge} {g:Option (Nat×Bool)} {d:Option Tmp} {wm:Nat} {T:Nat ->Prop} {h0:H} {G Gr:List (Ast wm)}
theorem ZOi {x:Operand} {t:TypeId} {f off b o:Nat} [hf:QC X.P t f off] (hx:Yl fr x=some (.pointer (some ⟨b,o,none⟩))):XC X h (Yl fr) ⟨d,.fieldAddr t x f,ty,p',af,g⟩=some (.val (.pointer (some ⟨b,o + off,none⟩)),.none):=Ue hf.out hx
theorem ZSD {x:Operand} {t:TypeId} {b oo:Nat} {vs:List Value} {v:Value} [ht:ZcG X.P t] (hx:Yl fr x=some (.pointer (some ⟨b,oo,none⟩))) (hS:Sp wm T h0 G h) (pp:Pk G (bx wm b vs) Gr) (hv:vs[oo]? =some v):
 XC X h (Yl fr) ⟨d,.load t x,ty,p',af,g⟩=some (.val v,.none):=ZW ht.out hx (hS.atB pp) (Nat.zero_add _).symm hv
theorem ZOh {x:Operand} {t:TypeId} {b oo sz:Nat} {vs ws:List Value} [ht:ZnF X.P t] [hs:SzF X.P t sz] (hx:Yl fr x=some (.pointer (some ⟨b,oo,none⟩))) (hS:Sp wm T h0 G h) (pp:Pk G (bx wm b vs) Gr) (hj:Nat.ble (oo + sz) vs.length=true) (hv:(vs.drop oo).take sz=ws):
 XC X h (Yl fr) ⟨d,.load t x,ty,p',af,g⟩=some (.val (.agg ws.toArray),.none):=Xj ht.out hs.out hx (hS.atB pp) (Nat.zero_add _).symm hj hv
theorem ZOj {dd:Tmp} {x:Operand} {t:TypeId} {v:Value} {vs:List Value} (hx:Yl fr x=some v) (hS:Sp wm T h0 G h) (hv:v.cells.toList=vs):
 HN X wm ⟨some dd,.box t x,ty,p',af,g⟩ fr h (fun v h'=>∃ b,h.size=b∧v= .pointer (some ⟨b,0,none⟩)∧Sp wm T h0 (bx wm b vs::G) h'):=ZD2 hS hx hv
theorem ZOk {dd:Tmp} {t:TypeId} {v:Value} {vs:List Value} [hz:Zbq X.P t v] (hS:Sp wm T h0 G h) (hv:v.cells.toList=vs):
 HN X wm ⟨some dd,.alloc t,ty,p',af,g⟩ fr h (fun v h'=>∃ b,h.size=b∧v= .pointer (some ⟨b,0,none⟩)∧Sp wm T h0 (bx wm b vs::G) h'):=ZsE hS hz.out hv
theorem ZSC {x y:Operand} {t:TypeId} {b o sz:Nat} {cs cs' vs:List Value} {v:Value} [hs:SzF X.P t sz] (hx:Yl fr x=some (.pointer (some ⟨b,o,none⟩))) (hS:Sp wm T h0 G h) (pk:Pk G (bx wm b cs) Gr) (hy:Yl fr y=some v)
 (hvs:v.cells.toList=vs) (hn:Nat.beq vs.length sz=true) (hl:Nat.ble (o + sz) cs.length=true) (hc:vs.all Value.oneCell'=true) (hv:splice cs o vs=cs'):
 HU X wm ⟨none,.store t x y,ty,p',af,g⟩ fr h (fun i=>i=b) (fun h'=>Sp wm T h0 (bx wm b cs'::Gr) h'):=Za3 hS pk hs.out hx hy hvs hn hl hc hv
theorem ZOg {x:Operand} {t e':TypeId} {a:Option Addr} {mm cc dd:Nat} [hu:ZgE X.P t e'] (hx:Yl fr x=some (.slice a mm cc)):
 XC X h (Yl fr) ⟨some dd,.call {callee:= .builtin .len,args:=#[x],argTypes:=#[t]},ty,p',af,g⟩=some (.val (.int .i64 (mm:Int)),.none):=Zc6 hu.out hx rfl
end
section
variable {X:Ctx} {n wm:Nat} {rd:Option Nat} {ops:Array Oper} {l:List Oper} {fr:Fr} {ds:List Deferred} {h:H} {ty:TypeId} {p:String} {af:Array Edge} {g:Option (Nat×Bool)} {sf:ST} {m:Nat}
theorem WX.w2 {Q:Fr ->H ->Prop} {d:Nat} {op:Op} {v:Value} (hg:Ym ops ⟨some d,op,ty,p,af,g⟩ fr) (hd:Nat.blt d n=true) (hM:okM ops sf m ⟨some d,op,ty,p,af,g⟩=true) (ha:XC X h (Yl fr) ⟨some d,op,ty,p,af,g⟩=some (.val v,.none)) (k:WX X n wm rd ops sf (m + 1) h l (Tr.set fr d v) Q):
 WX X n wm rd ops sf m h (⟨some d,op,ty,p,af,g⟩::l) fr Q:=WX.w hg hd ha k hM
theorem WX.gv2 {Q:Fr ->H ->Prop} {d:Nat} {op:Op} {c:Bool} {v:Value} (hg:Zt ops ⟨some d,op,ty,p,af,g⟩ fr c) (hd:Nat.blt d n=true) (hM:okM ops sf m ⟨some d,op,ty,p,af,g⟩=true) (ha:c=true ->XC X h (Yl fr) ⟨some d,op,ty,p,af,g⟩=some (.val v,.none)) (k:WX X n wm rd ops sf (m + 1) h l (Tr.set fr d (cond c v undef)) Q):
 WX X n wm rd ops sf m h (⟨some d,op,ty,p,af,g⟩::l) fr Q:=WX.gv hg hd ha k hM
end
structure Kp (q:Prop):Prop where
 out:q
section
variable {X:Ctx} {n wm:Nat} {rd:Option Nat} {Q:XX ->Fs ->Prop}
theorem E0 {p:Prop}(h:p:=by(focus (repeat (first | with_reducible exact fh | ((with_reducible apply YZ);exact rfl) | ((with_reducible apply Y1);exact rfl) | ((with_reducible apply YB);exact rfl) | ((with_reducible apply Zz);exact rfl) | with_reducible assumption));first|done|fail)):p:=h
theorem cn {c:Operand} {a b:Code} {t:Bool} {fr:Fr} {ds:List Deferred} {h:H} {α:Type} {x y r:α} (hL:(bif t then x else y)=r) (h1:t=true ->x=r ->WC X n wm rd a ⟨fr,ds,h,none⟩ Q) (h2:t=false ->y=r ->WC X n wm rd b ⟨fr,ds,h,none⟩ Q) (hc:Yl fr c=some (.bool t):=by(first | exact evC rfl | (apply Yt;exact E0;(first | exact ia rfl | assumption)) | (apply K7;exact E0;(first | exact ia rfl | assumption);assumption) | fail)):WC X n wm rd (.cond c a b) ⟨fr,ds,h,none⟩ Q:=
 WC.ZN0 hc (fun e=>h1 e (J4 e hL)) (fun e=>h2 e (J5 e hL))
theorem rt {fn:Func} {fr:Fr} {h h0:H} {T:Nat ->Prop} {G G':List (Ast wm)} {wr:Option Nat} {t:Tmp} {β:Type} {x r:β} {g:β ->Value} (hL:some x=some r) (hT:T=Qa G) (hS:Sp wm T h0 G' h) (hr:fn.results.toList= [.tmp t]:=by exact rfl) (hv:Yl fr (.tmp t)=some (g x):=by(first | exact evC rfl | (apply Yt;exact E0;(first | exact ia rfl | assumption)) | (apply K7;exact E0;(first | exact ia rfl | assumption);assumption) | fail)):
 Yo X fn (fun e h'=>∃ v,e= .ret v∧CP (fun v Gb=>v=g r∧Gb= []) G h0 v h') .ret ⟨fr,[],h,wr⟩:=by
 cases hL;exact Yo.Qg hr (ZU hv ZC) ⟨_,⟨rfl,rfl⟩,hT ▸ hS.only .n⟩
theorem bg {f:FuncId} {fn:Func} {c:Code} {args:List Value} {n:Nat} {K:Value ->List (Ast wm) ->Prop} {G:List (Ast wm)} {h:H} {fr:Fr} (hnt:fn.ntmps=n) (ZX:wm <=h.size) (hO:Yd G h)
 (k:∀ T,T=Qa (wm:=wm) G ->Sp wm T h G h ->WC X n wm none c ⟨fr,[],h,none⟩ (Yo X fn (fun e h'=>∃ v,e= .ret v∧CP K G h v h'))) (hf:X.fns.get f=some fn:=by kernel_rfl) (hb:fn.body=some c:=by exact rfl) (hn:args.length <=n:=by simp)
 (hfr:X9 args 0 .nil=fr:=by(simp only [Z8,Ya,Nat.reduceAdd];exact rfl)):WR X f args.toArray wm h (CP K G h):=by
 subst hfr;exact WF.begin hf hb hnt hn (k _ rfl (Sp.start ZX hO))
end
theorem lk {p:Prop} (h:p:=by(first | exact evC rfl | (apply Yt;exact E0;(first | exact ia rfl | assumption)) | (apply K7;exact E0;(first | exact ia rfl | assumption);assumption) | fail)):p:=h
theorem lks {p:Prop} (h:p:=by
 repeat (first | exact Zy | (apply Zf;(focus (first | exact evC rfl | (apply Yt;exact E0;(first | exact ia rfl | assumption)) | (apply K7;exact E0;(first | exact ia rfl | assumption);assumption) | fail);done)))
 done):p:=h
theorem YH {p:Prop} (h:p:=by
 repeat (first | with_reducible exact fh | ((with_reducible apply YZ);exact rfl) | ((with_reducible apply Y1);exact rfl) | ((with_reducible apply YB);exact rfl) | ((with_reducible apply Zz);exact rfl) | with_reducible assumption | refine⟨?_,?_⟩)
 done):p:=h
theorem r1 {p q:Prop} (k:q) (h:Kp q ->p:=by
 intro k
 first
 | refine WO.nil ?_
 | refine ZkJ.Y7 ?_
 | refine WC.seq ?_
 | refine WC.region ?_
 | ((first | apply WO.w gN rfl | (apply WO.gv;(focus (first | (apply Zt.yes rfl rfl rfl;exact E0) | (apply Zt.no rfl rfl rfl;exact E0) | (apply Zt.Zj6 rfl rfl rfl;exact E0) | (apply Zt.no2 rfl rfl rfl;exact E0) | fail);done);rfl;intro hg) | (apply WX.w2 gN;rfl;rfl) | (apply WX.gv2;(focus (first | (apply Zt.yes rfl rfl rfl;exact E0) | (apply Zt.no rfl rfl rfl;exact E0) | (apply Zt.Zj6 rfl rfl rfl;exact E0) | (apply Zt.no2 rfl rfl rfl;exact E0) | fail);done);rfl;rfl;intro hg));(focus (first
   | ((with_reducible apply ZDp);(first | exact evC rfl | (apply Yt;exact E0;(first | exact ia rfl | assumption)) | (apply K7;exact E0;(first | exact ia rfl | assumption);assumption) | fail))
   | ((with_reducible apply ZSD);(focus (first | exact evC rfl | (apply Yt;exact E0;(first | exact ia rfl | assumption)) | (apply K7;exact E0;(first | exact ia rfl | assumption);assumption) | fail);done);assumption;(focus (first | exact k0 | exact k1 | exact k2 | exact k3 | exact k4 | exact k5 | exact k6 | exact k7 | (repeat (first | exact k7 | apply Pk.s)));done);rfl)
   | ((with_reducible apply ZOi);(first | exact evC rfl | (apply Yt;exact E0;(first | exact ia rfl | assumption)) | (apply K7;exact E0;(first | exact ia rfl | assumption);assumption) | fail))
   | ((with_reducible apply Zc7);(first | exact evC rfl | (apply Yt;exact E0;(first | exact ia rfl | assumption)) | (apply K7;exact E0;(first | exact ia rfl | assumption);assumption) | fail))
   | ((with_reducible apply Uf);(focus (first | exact evC rfl | (apply Yt;exact E0;(first | exact ia rfl | assumption)) | (apply K7;exact E0;(first | exact ia rfl | assumption);assumption) | fail);done);(focus (first | exact evC rfl | (apply Yt;exact E0;(first | exact ia rfl | assumption)) | (apply K7;exact E0;(first | exact ia rfl | assumption);assumption) | fail);done);(first | with_reducible exact ZvB | with_reducible exact ZAI | with_reducible exact ZAD | with_reducible exact ZAC | with_reducible exact Zvy | with_reducible exact ZAF | with_reducible exact ZAH | with_reducible exact ZAE | with_reducible exact Zvz | with_reducible exact ZvA ZI5.out | with_reducible exact ZaV ZI5.out))
   | ((with_reducible apply ZOh);(focus (first | exact evC rfl | (apply Yt;exact E0;(first | exact ia rfl | assumption)) | (apply K7;exact E0;(first | exact ia rfl | assumption);assumption) | fail);done);assumption;(focus (first | exact k0 | exact k1 | exact k2 | exact k3 | exact k4 | exact k5 | exact k6 | exact k7 | (repeat (first | exact k7 | apply Pk.s)));done);rfl;(focus simp only [Nat.zero_add,Nat.reduceAdd,List.drop_succ_cons,List.drop_zero,List.take_succ_cons,List.take_zero,List.take_nil];rfl))
   | ((with_reducible apply ZOg);(first | exact evC rfl | (apply Yt;exact E0;(first | exact ia rfl | assumption)) | (apply K7;exact E0;(first | exact ia rfl | assumption);assumption) | fail))
   | ((with_reducible apply Zd1);(focus (first | exact evC rfl | (apply Yt;exact E0;(first | exact ia rfl | assumption)) | (apply K7;exact E0;(first | exact ia rfl | assumption);assumption) | fail);done);rfl)
   | ((with_reducible apply ZjP);(first | exact evC rfl | (apply Yt;exact E0;(first | exact ia rfl | assumption)) | (apply K7;exact E0;(first | exact ia rfl | assumption);assumption) | fail))
   | ((with_reducible apply Zd0);(first | exact evC rfl | (apply Yt;exact E0;(first | exact ia rfl | assumption)) | (apply K7;exact E0;(first | exact ia rfl | assumption);assumption) | fail))
   | ((with_reducible apply Zgv);(focus (first | exact evC rfl | (apply Yt;exact E0;(first | exact ia rfl | assumption)) | (apply K7;exact E0;(first | exact ia rfl | assumption);assumption) | fail);done);(focus (apply ZNC;exact E0);done);(first | exact evC rfl | (apply Yt;exact E0;(first | exact ia rfl | assumption)) | (apply K7;exact E0;(first | exact ia rfl | assumption);assumption) | fail))
   | ((with_reducible apply Zlr);(focus (first | exact evC rfl | (apply Yt;exact E0;(first | exact ia rfl | assumption)) | (apply K7;exact E0;(first | exact ia rfl | assumption);assumption) | fail);done);(focus (first | exact evC rfl | (apply Yt;exact E0;(first | exact ia rfl | assumption)) | (apply K7;exact E0;(first | exact ia rfl | assumption);assumption) | fail);done);(apply ZNC;exact E0))
   | fail)))
 | (apply WO.hu gN;(focus (first | (((with_reducible apply ZSC));(focus (first | exact evC rfl | (apply Yt;exact E0;(first | exact ia rfl | assumption)) | (apply K7;exact E0;(first | exact ia rfl | assumption);assumption) | fail);done);assumption;(focus (first | exact k0 | exact k1 | exact k2 | exact k3 | exact k4 | exact k5 | exact k6 | exact k7 | (repeat (first | exact k7 | apply Pk.s)));done);(focus (first | exact evC rfl | (apply Yt;exact E0;(first | exact ia rfl | assumption)) | (apply K7;exact E0;(first | exact ia rfl | assumption);assumption) | fail);done);(focus (first | (simp only [Zgs,ZdX,Zct,Zgq,Zgr,Zgu,Zbj,cells_func,Zar,KW,Zcu];exact rfl) | exact rfl));exact rfl;exact rfl;exact rfl;(focus simp only [splice,List.take_succ_cons,List.take_zero,List.drop_succ_cons,List.drop_zero,List.cons_append,List.nil_append,List.append_nil,List.length_cons,List.length_nil,Nat.reduceAdd,Nat.zero_add,List.take_nil,List.drop_nil];exact rfl)) | fail)))
 | (apply WO.hn gN rfl;(focus (first | (((with_reducible apply ZOj));(focus (first | exact evC rfl | (apply Yt;exact E0;(first | exact ia rfl | assumption)) | (apply K7;exact E0;(first | exact ia rfl | assumption);assumption) | fail);done);assumption;(focus (first | (simp only [Zgs,ZdX,Zct,Zgq,Zgr,Zgu,Zbj,cells_func,Zar,KW,Zcu];exact rfl) | exact rfl))) | (((with_reducible apply ZOk));assumption;(focus (first | (simp only [Zgs,ZdX,Zct,Zgq,Zgr,Zgu,Zbj,cells_func,Zar,KW,Zcu];exact rfl) | exact rfl))) | fail)))
 | refine WC.skip ?_
 | refine WC.ret ?_
 | refine WC.block ?_
 | refine WC.exit ?_
 | refine ZkJ.ret ?_
 | refine ZkJ.exit ?_
 | refine U0.ret ?_
 | refine U0.Y7 ?_
 | refine U0.here ?_
 | refine Yh.exit ?_
 | refine Yh.ret ?_
 | refine WX.nil ?_
 | fail
 exact k.out):p:=h ⟨k⟩
theorem r2 {p q:Prop} (k:q) (h:Kp q ->p:=by
 intro k
 iterate 2 (refine r1 ?_)
 exact k.out):p:=h ⟨k⟩
theorem r3 {p q:Prop} (k:q) (h:Kp q ->p:=by
 intro k
 iterate 3 (refine r1 ?_)
 exact k.out):p:=h ⟨k⟩
theorem r4 {p q:Prop} (k:q) (h:Kp q ->p:=by
 intro k
 iterate 4 (refine r1 ?_)
 exact k.out):p:=h ⟨k⟩
theorem r6 {p q:Prop} (k:q) (h:Kp q ->p:=by
 intro k
 iterate 6 (refine r1 ?_)
 exact k.out):p:=h ⟨k⟩
theorem r8 {p q:Prop} (k:q) (h:Kp q ->p:=by
 intro k
 iterate 8 (refine r1 ?_)
 exact k.out):p:=h ⟨k⟩
theorem XY {p q:Prop} (k:q) (h:Kp q ->p:=by
 intro k
 iterate 12 (refine r1 ?_)
 exact k.out):p:=h ⟨k⟩
theorem r16 {p q:Prop} (k:q) (h:Kp q ->p:=by
 intro k
 iterate 16 (refine r1 ?_)
 exact k.out):p:=h ⟨k⟩
end Go.YG
end
end
section
noncomputable section
namespace Go.Proofs.YtbmbbcaaimehkaaGreat
open Go.YG Go.Lf
abbrev cM (x:Zr):List Value:= [.int .i64 x.msg,.int .i64 x.place,.int .i64 x.from_,.int .i64 x.age,.int .i64 x.hops]
abbrev cS (x:Zx):List Value:= [.int .i64 x.act,.int .i64 x.a,.int .i64 x.b]
abbrev cE (x:Zw):List Value:= [.bool x.here,.int .i64 x.Z9,.int .i64 x.age]
abbrev cL (x:Ze) (a:Option Addr) (c:Nat) (b:Option Addr) (d:Nat):List Value:= [.int .i64 x.kind,.int .i64 x.Z9,.int .i64 x.Yb.msg,.int .i64 x.Yb.place,.int .i64 x.Yb.from_,.int .i64 x.Yb.age,.int .i64 x.Yb.hops,.slice a x.qV.length c,.slice b x.Yk.length d,.int .i64 x.place,.int .i64 x.at_,.int .i64 x.age]
abbrev cV (a0:Option Addr) (n0 c0:Nat) (a1:Option Addr) (n1 c1:Nat) (a2:Option Addr) (n2 c2:Nat) (a3:Option Addr) (n3 c3:Nat) (a4:Option Addr) (n4 c4:Nat) (s:Int):List Value:= [.slice a0 n0 c0,.slice a1 n1 c1,.slice a2 n2 c2,.slice a3 n3 c3,.slice a4 n4 c4,.int .i64 s]
abbrev cG (a0:Option Addr) (n0 c0:Nat) (a1:Option Addr) (n1 c1:Nat) (a2:Option Addr) (n2 c2:Nat) (a3:Option Addr) (n3 c3:Nat) (a4:Option Addr) (n4 c4:Nat) (s:Int) (a5:Option Addr) (n5 c5:Nat):List Value:= [.slice a0 n0 c0,.slice a1 n1 c1,.slice a2 n2 c2,.slice a3 n3 c3,.slice a4 n4 c4,.int .i64 s,.slice a5 n5 c5]
abbrev cW (x:Zb) (a0:Option Addr) (c0:Nat) (a1:Option Addr) (c1:Nat) (a2:Option Addr) (c2:Nat) (a3:Option Addr) (c3:Nat) (a4:Option Addr) (c4:Nat):List Value:= [.slice a0 x.Zv.length c0,.slice a1 x.qK.length c1,.slice a2 x.qQ.length c2,.slice a3 x.qJ.length c3,.slice a4 x.qG.length c4,.int .i64 x.said]
abbrev cH (x:Z6) (a0:Option Addr) (c0:Nat) (a1:Option Addr) (c1:Nat) (a2:Option Addr) (c2:Nat) (a3:Option Addr) (c3:Nat) (a4:Option Addr) (c4:Nat) (a5:Option Addr) (c5:Nat):List Value:= [.slice a0 x.Za.Zv.length c0,.slice a1 x.Za.qK.length c1,.slice a2 x.Za.qQ.length c2,.slice a3 x.Za.qJ.length c3,.slice a4 x.Za.qG.length c4,.int .i64 x.Za.said,.slice a5 x.qX.length c5]
instance:ZcG XX.P 3:= ⟨Xr⟩
instance:ZcG XX.P 4:= ⟨Zr6⟩
instance:ZcG XX.P 22:= ⟨Zg6⟩
instance:ZcG XX.P 24:= ⟨ZAx⟩
instance:ZcG XX.P 25:= ⟨Zp0⟩
instance:ZcG XX.P 26:= ⟨ZtN⟩
instance:ZcG XX.P 27:= ⟨ZAw⟩
instance:ZnF XX.P 29:= ⟨ZpZ⟩
instance:ZcG XX.P 30:= ⟨Zbz⟩
instance:ZcG XX.P 38:= ⟨ZOu⟩
instance:ZnF XX.P 40:= ⟨ZE6⟩
instance:ZcG XX.P 41:= ⟨ZE5⟩
instance:ZnF XX.P 63:= ⟨Zlv⟩
instance:ZcG XX.P 64:= ⟨UQ⟩
instance:ZcG XX.P 65:= ⟨ZOt⟩
instance:ZnF XX.P 67:= ⟨ZE4⟩
instance:ZcG XX.P 90:= ⟨Zdw⟩
instance:ZnF XX.P 92:= ⟨Zlu⟩
instance:ZcG XX.P 93:= ⟨ZOs⟩
instance:ZnF XX.P 95:= ⟨ZaT⟩
instance:ZnF XX.P 104:= ⟨ZjU⟩
instance:ZcG XX.P 116:= ⟨ZIS⟩
instance:ZnF XX.P 120:= ⟨Znw⟩
instance:ZcG XX.P 124:= ⟨ZAy⟩
instance:SzF XX.P 3 1:= ⟨YJ⟩
instance:SzF XX.P 4 1:= ⟨Zn5⟩
instance:SzF XX.P 22 1:= ⟨U7⟩
instance:SzF XX.P 24 1:= ⟨ZFx⟩
instance:SzF XX.P 25 1:= ⟨ZFw⟩
instance:SzF XX.P 26 1:= ⟨ZFv⟩
instance:SzF XX.P 27 1:= ⟨ZlP⟩
instance:SzF XX.P 29 6:= ⟨ZdD⟩
instance:SzF XX.P 30 1:= ⟨ZFu⟩
instance:SzF XX.P 40 3:= ⟨Zqy⟩
instance:SzF XX.P 41 1:= ⟨ZlO⟩
instance:SzF XX.P 63 3:= ⟨Xt⟩
instance:SzF XX.P 64 1:= ⟨QG⟩
instance:SzF XX.P 67 5:= ⟨Zfy⟩
instance:SzF XX.P 90 1:= ⟨Jl⟩
instance:SzF XX.P 92 5:= ⟨Uz⟩
instance:SzF XX.P 95 12:= ⟨Y6⟩
instance:SzF XX.P 104 4:= ⟨X8⟩
instance:SzF XX.P 116 1:= ⟨ZBx⟩
instance:SzF XX.P 120 3:= ⟨Wp⟩
instance:QC XX.P 29 0 0:= ⟨ZCU⟩
instance:QC XX.P 29 1 1:= ⟨ZCT⟩
instance:QC XX.P 29 2 2:= ⟨ZCS⟩
instance:QC XX.P 29 3 3:= ⟨ZCR⟩
instance:QC XX.P 29 4 4:= ⟨ZhA⟩
instance:QC XX.P 29 5 5:= ⟨ZCQ⟩
instance:QC XX.P 40 0 0:= ⟨ZCP⟩
instance:QC XX.P 40 1 1:= ⟨ZCO⟩
instance:QC XX.P 40 2 2:= ⟨Ztq⟩
instance:QC XX.P 63 0 0:= ⟨ZCN⟩
instance:QC XX.P 63 1 1:= ⟨ZCM⟩
instance:QC XX.P 63 2 2:= ⟨ZCL⟩
instance:QC XX.P 67 0 0:= ⟨ZCK⟩
instance:QC XX.P 67 1 1:= ⟨ZCJ⟩
instance:QC XX.P 67 2 2:= ⟨ZCI⟩
instance:QC XX.P 67 3 3:= ⟨ZCH⟩
instance:QC XX.P 67 4 4:= ⟨ZCG⟩
instance:QC XX.P 92 0 0:= ⟨ZCF⟩
instance:QC XX.P 92 1 1:= ⟨ZCE⟩
instance:QC XX.P 92 2 2:= ⟨ZCD⟩
instance:QC XX.P 92 3 3:= ⟨ZCC⟩
instance:QC XX.P 92 4 4:= ⟨ZCB⟩
instance:QC XX.P 95 0 0:= ⟨ZCA⟩
instance:QC XX.P 95 1 1:= ⟨ZCz⟩
instance:QC XX.P 95 2 2:= ⟨ZCy⟩
instance:QC XX.P 95 3 7:= ⟨ZCx⟩
instance:QC XX.P 95 4 8:= ⟨ZmE⟩
instance:QC XX.P 95 5 9:= ⟨ZCw⟩
instance:QC XX.P 95 6 10:= ⟨Ztp⟩
instance:QC XX.P 95 7 11:= ⟨Zto⟩
instance:QC XX.P 100 0 0:= ⟨ZeT⟩
instance:QC XX.P 100 1 6:= ⟨ZeS⟩
instance:QC XX.P 104 0 0:= ⟨Zzq⟩
instance:QC XX.P 104 1 1:= ⟨Zzp⟩
instance:QC XX.P 104 2 2:= ⟨Zzo⟩
instance:QC XX.P 104 3 3:= ⟨Zzn⟩
instance:QC XX.P 120 0 0:= ⟨Zzm⟩
instance:QC XX.P 120 1 1:= ⟨Zzl⟩
instance:QC XX.P 120 2 2:= ⟨Zzk⟩
instance:QC XX.P 126 0 0:= ⟨Zzj⟩
instance:QC XX.P 126 1 6:= ⟨Zzi⟩
instance:ZgE XX.P 22 3:= ⟨YI⟩
instance:ZgE XX.P 24 22:= ⟨Zen⟩
instance:ZgE XX.P 25 64:= ⟨Uj⟩
instance:ZgE XX.P 26 90:= ⟨K9⟩
instance:ZgE XX.P 27 95:= ⟨JR⟩
instance:ZgE XX.P 41 67:= ⟨ZnW⟩
instance:ZgE XX.P 46 40:= ⟨ZDV⟩
instance:ZgE XX.P 64 63:= ⟨Ui⟩
instance:ZgE XX.P 90 92:= ⟨Zbt⟩
instance:ZgE XX.P 102 104:= ⟨WS⟩
instance:ZgE XX.P 110 4:= ⟨ZlJ⟩
instance:ZgE XX.P 124 120:= ⟨ZhW⟩
instance:ZI5 XX.P 4:= ⟨Zwa⟩
instance:Zbq XX.P 3 (.int .i64 0):= ⟨Zbs⟩
instance:Zbq XX.P 4 (.bool false):= ⟨Zsm⟩
instance:Zbq XX.P 22 (.slice none 0 0):= ⟨ZvU⟩
instance:Zbq XX.P 29 (.agg #[.slice none 0 0,.slice none 0 0,.slice none 0 0,.slice none 0 0,.slice none 0 0,.int .i64 0]):= ⟨Zqi⟩
instance:Zbq XX.P 30 (.int .i64 0):= ⟨ZFd⟩
instance:Zbq XX.P 40 (.agg #[.int .i64 0,.int .i64 0,.int .i64 0]):= ⟨ZvT⟩
instance:Zbq XX.P 63 (.agg #[.bool false,.int .i64 0,.int .i64 0]):= ⟨ZhP⟩
instance:Zbq XX.P 64 (.slice none 0 0):= ⟨ZvS⟩
instance:Zbq XX.P 67 (.agg #[.int .i64 0,.int .i64 0,.int .i64 0,.int .i64 0,.int .i64 0]):= ⟨ZhO⟩
instance:Zbq XX.P 90 (.slice none 0 0):= ⟨ZvR⟩
instance:Zbq XX.P 92 (.agg #[.int .i64 0,.int .i64 0,.int .i64 0,.int .i64 0,.int .i64 0]):= ⟨ZhN⟩
instance:Zbq XX.P 95 (.agg #[.int .i64 0,.int .i64 0,.int .i64 0,.int .i64 0,.int .i64 0,.int .i64 0,.int .i64 0,.slice none 0 0,.slice none 0 0,.int .i64 0,.int .i64 0,.int .i64 0]):= ⟨Zdy⟩
instance:Zbq XX.P 100 (.agg #[.slice none 0 0,.slice none 0 0,.slice none 0 0,.slice none 0 0,.slice none 0 0,.int .i64 0,.slice none 0 0]):= ⟨Zso⟩
instance:Zbq XX.P 104 (.agg #[.int .i64 0,.int .i64 0,.int .i64 0,.bool false]):= ⟨Zly⟩
instance:Zbq XX.P 116 (.nilFunc):= ⟨ZA9⟩
instance:Zbq XX.P 120 (.agg #[.int .i64 0,.bool false,.int .i64 0]):= ⟨Zlx⟩
instance:Zbq XX.P 126 (.agg #[.slice none 0 0,.slice none 0 0,.slice none 0 0,.slice none 0 0,.slice none 0 0,.int .i64 0,.slice none 0 0]):= ⟨Zsn⟩
instance:Zbq XX.P 142 (.nilFunc):= ⟨Zhm⟩
end Go.Proofs.YtbmbbcaaimehkaaGreat
end
end
section
namespace Go.Proofs.YtbmbbcaaimehkaaGreat
open Go.Lf
def Zgd (p0:Zb):Int ->(Int ->Option Bool) ->Option Bool:=fun v46 Zii=>
 (bif decide (v46 < (p0.qG.length:Int)) then(ZQ p0.qG v46).bind fun x49=>(bif((decide ((x49.qV.length:Int) > 20)) || (decide ((x49.Yk.length:Int) > 20))) then some false else Zii (Xa (v46 + 1))) else some true)
def Zge (F:Nat) (p0:Zb):Int ->(Int ->Option Bool) ->Option Bool:=fun v34 Zik=>
 (bif decide (v34 < (p0.qJ.length:Int)) then(ZQ p0.qJ v34).bind fun x37=>(bif decide ((x37.length:Int) > 100) then some false else Zik (Xa (v34 + 1))) else loop F (Zgd p0) 0)
def Zgf (F:Nat) (p0:Zb):Int ->(Int ->Option Bool) ->Option Bool:=fun v21 Zxf=>
 (bif decide (v21 < (p0.qQ.length:Int)) then(ZQ p0.qQ v21).bind fun x24=>(bif decide ((x24.length:Int) > 20) then some false else Zxf (Xa (v21 + 1))) else loop F (Zge F p0) 0)
def Zjy (F:Nat) (p0:Zb):Int ->(Int ->Option Bool) ->Option Bool:=fun v8 Ua=>
 (bif decide (v8 < (p0.qK.length:Int)) then(ZQ p0.qK v8).bind fun XL=>(bif decide ((XL.length:Int) > 100) then some false else Ua (Xa (v8 + 1))) else loop F (Zgf F p0) 0)
def ZzR (F:Nat) (p0:Zb):Option Bool:=
 (bif(((((decide ((p0.Zv.length:Int) > 20)) || (decide ((p0.qK.length:Int) > 20))) || (decide ((p0.qQ.length:Int) > 20))) || (decide ((p0.qJ.length:Int) > 20))) || (decide ((p0.qG.length:Int) > 200))) then some false else loop F (Zjy F p0) 0)
end Go.Proofs.YtbmbbcaaimehkaaGreat
end
section
set_option maxRecDepth 20000
noncomputable section
namespace Go.Proofs.YtbmbbcaaimehkaaGreat
open Go.YG Go.Lf
theorem ZIr {F wm:Nat} {h:H} {p0:Zb} {Zi:Option Addr} {Zh:Nat} {Zq:Option Addr} {Zo:Nat} {Zk:Option Addr} {Zj:Nat} {Zp:Option Addr} {Zn:Nat} {Zm:Option Addr} {Zl:Nat} {r:Bool} (ZX:wm <=h.size) (ZA:Sl (Zu .i64) wm h Zi Zh p0.Zv) (ZM:Sl (ZE (Zu .i64)) wm h Zq Zo p0.qK) (ZL:Sl (ZE Zc) wm h Zk Zj p0.qQ) (ZN:Sl (ZE Zg) wm h Zp Zn p0.qJ) (ZK:Sl Zd wm h Zm Zl p0.qG) (hL:ZzR F p0=some r):
 WR XX 19 #[.agg [.slice Zi p0.Zv.length Zh,.slice Zq p0.qK.length Zo,.slice Zk p0.qQ.length Zj,.slice Zp p0.qJ.length Zn,.slice Zm p0.qG.length Zl,.int .i64 p0.said].toArray] wm h (CP (fun(v:Value) (Gb:List (Ast wm))=>v= .bool r∧Gb= []) [] h):=by
 refine bg Tryz.ntmps19 ZX Yd.nil ?_;intro T hT hS;unfold ZzR at hL;refine r3 ?_;rintro _ h2 ⟨b1,eb1,rfl,hS⟩;refine r16 ?_;refine r16 ?_;refine r4 ?_;refine cn hL ?_ ?_
 ·intro hc hL;refine r6 ?_;refine r1 ?_;exact rt hL hT hS
 ·intro hc hL;refine XY ?_;refine WC.loop (WL.lift hL (fun(v8:Int) (s:Fs)=>∃ (K4:Fr) (h3:H),s= ⟨K4,[],h3,none⟩∧Sp wm T h [bx wm b1 (cW p0 Zi Zh Zq Zo Zk Zj Zp Zn Zm Zl)] h3∧K4.at 1= .pointer (some ⟨b1,0,none⟩)∧K4.at 40= .slice Zq p0.qK.length Zo∧K4.at 41= .int .i64 (p0.qK.length:Int)∧K4.at 42= .int .i64 v8) ⟨_,_,rfl,hS.only (.c k0 .n),YH⟩ ?_);clear hL hS;rintro Ua v8 s Zmv hL ⟨K4,h3,rfl,hS,e5,e6,e7,e9⟩;dsimp only [Zjy] at hL;refine r6 ?_;refine cn hL ?_ ?_
  ·intro hc hL;refine r6 ?_;obtain⟨XL,Zhe,hL⟩:=bind_some hL;obtain⟨b12,o13,⟨a14,c15⟩,ZMb,ZNg,ZMR,ZMt⟩:=Sl.at_ ZM Zhe;refine WO.w gN rfl (ZH Zen U7 lk lk rfl ZMb Zhe) ?_;have ZTq:Sl (Zu .i64) wm h a14 c15 XL:=ZMt;refine WO.w gN rfl (ZW Zg6 (Yt fh rfl) (At.fz hS.fz ZMR ZNg) (j:=0) rfl (v:= .slice a14 XL.length c15) rfl) ?_;refine r8 ?_;refine r2 ?_;refine cn hL ?_ ?_
   ·intro hc hL;refine r8 ?_;refine r3 ?_;exact rt hL hT hS
   ·intro hc hL;refine r6 ?_;refine r1 ?_;exact Yh.Y7 (Zmv _ _ hL ⟨_,_,rfl,hS.only (.c k0 .n),YH⟩)
  ·intro hc hL;refine XY ?_;refine r3 ?_;refine WC.loop (WL.lift hL (fun(v21:Int) (s:Fs)=>∃ (ZeR:Fr) (h16:H),s= ⟨ZeR,[],h16,none⟩∧Sp wm T h [bx wm b1 (cW p0 Zi Zh Zq Zo Zk Zj Zp Zn Zm Zl)] h16∧ZeR.at 1= .pointer (some ⟨b1,0,none⟩)∧ZeR.at 51= .slice Zk p0.qQ.length Zj∧ZeR.at 52= .int .i64 (p0.qQ.length:Int)∧ZeR.at 53= .int .i64 v21) ⟨_,_,rfl,hS.only (.c k0 .n),YH⟩ ?_);clear hL hS;rintro Zxf v21 s ZCk hL ⟨ZeR,h16,rfl,hS,e18,e19,e20,e22⟩;dsimp only [Zgf] at hL;refine r6 ?_;refine cn hL ?_ ?_
   ·intro hc hL;refine r6 ?_;obtain⟨x24,hx24,hL⟩:=bind_some hL;obtain⟨b25,o26,⟨a27,c28⟩,ZL9,ZNe,ZMO,ZMq⟩:=Sl.at_ ZL hx24;refine WO.w gN rfl (ZH Uj QG lk lk rfl ZL9 hx24) ?_;have ZTo:Sl Zc wm h a27 c28 x24:=ZMq;refine WO.w gN rfl (ZW UQ (Yt fh rfl) (At.fz hS.fz ZMO ZNe) (j:=0) rfl (v:= .slice a27 x24.length c28) rfl) ?_;refine r8 ?_;refine r2 ?_;refine cn hL ?_ ?_
    ·intro hc hL;refine r8 ?_;refine r3 ?_;exact rt hL hT hS
    ·intro hc hL;refine r6 ?_;refine r1 ?_;exact Yh.Y7 (ZCk _ _ hL ⟨_,_,rfl,hS.only (.c k0 .n),YH⟩)
   ·intro hc hL;refine XY ?_;refine r3 ?_;refine WC.loop (WL.lift hL (fun(v34:Int) (s:Fs)=>∃ (Zdc:Fr) (h29:H),s= ⟨Zdc,[],h29,none⟩∧Sp wm T h [bx wm b1 (cW p0 Zi Zh Zq Zo Zk Zj Zp Zn Zm Zl)] h29∧Zdc.at 1= .pointer (some ⟨b1,0,none⟩)∧Zdc.at 62= .slice Zp p0.qJ.length Zn∧Zdc.at 63= .int .i64 (p0.qJ.length:Int)∧Zdc.at 64= .int .i64 v34) ⟨_,_,rfl,hS.only (.c k0 .n),YH⟩ ?_);clear hL hS;rintro Zik v34 s Zmo hL ⟨Zdc,h29,rfl,hS,e31,e32,e33,e35⟩;dsimp only [Zge] at hL;refine r6 ?_;refine cn hL ?_ ?_
    ·intro hc hL;refine r6 ?_;obtain⟨x37,ZfP,hL⟩:=bind_some hL;obtain⟨b38,o39,⟨a40,c41⟩,ZiL,ZiR,ZiP,Zld⟩:=Sl.at_ ZN ZfP;refine WO.w gN rfl (ZH K9 Jl lk lk rfl ZiL ZfP) ?_;have Zo1:Sl Zg wm h a40 c41 x37:=Zld;refine WO.w gN rfl (ZW Zdw (Yt fh rfl) (At.fz hS.fz ZiP ZiR) (j:=0) rfl (v:= .slice a40 x37.length c41) rfl) ?_;refine r8 ?_;refine r2 ?_;refine cn hL ?_ ?_
     ·intro hc hL;refine r8 ?_;refine r3 ?_;exact rt hL hT hS
     ·intro hc hL;refine r6 ?_;refine r1 ?_;exact Yh.Y7 (Zmo _ _ hL ⟨_,_,rfl,hS.only (.c k0 .n),YH⟩)
    ·intro hc hL;refine XY ?_;refine r3 ?_;refine WC.loop (WL.lift hL (fun(v46:Int) (s:Fs)=>∃ (Zzg:Fr) (h42:H),s= ⟨Zzg,[],h42,none⟩∧Sp wm T h [] h42∧Zzg.at 73= .slice Zm p0.qG.length Zl∧Zzg.at 74= .int .i64 (p0.qG.length:Int)∧Zzg.at 75= .int .i64 v46) ⟨_,_,rfl,hS.only .n,YH⟩ ?_);clear hL hS;rintro Zii v46 s Zmm hL ⟨Zzg,h42,rfl,hS,e44,e45,e47⟩;dsimp only [Zgd] at hL;refine r6 ?_;refine cn hL ?_ ?_
     ·intro hc hL;refine r6 ?_;obtain⟨x49,ZoP,hL⟩:=bind_some hL;obtain⟨b50,o51,⟨⟨a52,c53⟩,⟨a54,c55⟩⟩,Zpa,Zpg,ZyI,Ztk⟩:=Sl.at_ ZK ZoP;refine WO.w gN rfl (ZH JR Y6 lk lk rfl Zpa ZoP) ?_;have ZTn:Sl (Zu .i64) wm h a52 c53 x49.qV:=Ztk.1;have ZTm:Sl (Zu .i64) wm h a54 c55 x49.Yk:=Ztk.2;refine WO.w gN rfl (Xj ZaT Y6 (Yt fh rfl) (At.fz hS.fz ZyI Zpg) (j:=0) rfl rfl (ws:= (cL x49 a52 c53 a54 c55)) rfl) ?_;refine r1 ?_;rintro _ h57 ⟨b56,ZXN,rfl,hS⟩;refine r1 ?_;rintro h58 hS;refine r16 ?_;refine cn hL ?_ ?_
      ·intro hc hL;refine r8 ?_;refine r3 ?_;exact rt hL hT hS
      ·intro hc hL;refine r6 ?_;refine r1 ?_;exact Yh.Y7 (Zmm _ _ hL ⟨_,_,rfl,hS.only .n,YH⟩)
     ·intro hc hL;refine r8 ?_;refine r3 ?_;exact rt hL hT hS
end Go.Proofs.YtbmbbcaaimehkaaGreat
end
end
section
namespace Go.Proofs.YtbmbbcaaimehkaaGreat
open Go.Lf
def Zu5 (p0:Int) (p1:Int):Option Bool:=
 some ((decide (p0 >=0)) && (decide (p0 < p1)))
def Zjt (p0:(List Int)):Int ->(Int ->Option Bool) ->Option Bool:=fun v6 Zdn=>
 (bif decide (v6 < (p0.length:Int)) then(ZQ p0 v6).bind fun x9=>(bif decide (x9 < 0) then some false else Zdn (Xa (v6 + 1))) else some (decide ((p0.length:Int) <=80)))
def Zu4 (F:Nat) (p0:(List Int)):Option Bool:=
 loop F (Zjt p0) 0
end Go.Proofs.YtbmbbcaaimehkaaGreat
end
section
set_option maxRecDepth 20000
noncomputable section
namespace Go.Proofs.YtbmbbcaaimehkaaGreat
open Go.YG Go.Lf
theorem ZIk {wm:Nat} {h:H} {p0 p1:Int} {r:Bool} (ZX:wm <=h.size) (hL:Zu5 p0 p1=some r):
 WR XX 32 #[.int .i64 p0,.int .i64 p1] wm h (CP (fun(v:Value) (Gb:List (Ast wm))=>v= .bool r∧Gb= []) [] h):=by
 refine bg Tryz.ntmps32 ZX Yd.nil ?_;intro T hT hS;unfold Zu5 at hL;refine r16 ?_;refine r2 ?_;exact rt hL hT hS
theorem ZIl {h:H} {p0 p1:Int} {r:Bool} (hL:Zu5 p0 p1=some r):Pure XX 32 #[.int .i64 p0,.int .i64 p1] h (.bool r):=
 WR.Qb rfl (ZIk (Nat.le_refl _) hL)
theorem ZIg {F wm:Nat} {h:H} {p0:(List Int)} {Zi:Option Addr} {Zh:Nat} {r:Bool} (ZX:wm <=h.size) (ZA:Sl (Zu .i64) wm h Zi Zh p0) (hL:Zu4 F p0=some r):
 WR XX 41 #[.slice Zi p0.length Zh] wm h (CP (fun(v:Value) (Gb:List (Ast wm))=>v= .bool r∧Gb= []) [] h):=by
 refine bg Tryz.ntmps41 ZX Yd.nil ?_;intro T hT hS;unfold Zu4 at hL;refine XY ?_;refine r2 ?_;refine WC.loop (WL.lift hL (fun(v6:Int) (s:Fs)=>∃ (Qp:Fr) (h1:H),s= ⟨Qp,[],h1,none⟩∧Sp wm T h [] h1∧Qp.at 0= .slice Zi p0.length Zh∧Qp.at 5= .slice Zi p0.length Zh∧Qp.at 6= .int .i64 (p0.length:Int)∧Qp.at 7= .int .i64 v6) ⟨_,_,rfl,hS.only .n,YH⟩ ?_);clear hL hS;rintro Zdn v6 s ZiD hL ⟨Qp,h1,rfl,hS,e3,e4,e5,e7⟩;dsimp only [Zjt] at hL;refine r6 ?_;refine cn hL ?_ ?_
 ·intro hc hL;refine r6 ?_;obtain⟨x9,hx9,hL⟩:=bind_some hL;obtain⟨b10,o11,_,ZiN,ZiT,Zpf,Ztm⟩:=Sl.at_ ZA hx9;refine WO.w gN rfl (ZH YI YJ lk lk rfl ZiN hx9) ?_;refine WO.w gN rfl (ZW Xr (Yt fh rfl) (At.fz hS.fz Zpf ZiT) (j:=0) rfl (v:= .int .i64 x9) rfl) ?_;refine r8 ?_;refine r1 ?_;refine cn hL ?_ ?_
  ·intro hc hL;refine r8 ?_;refine r3 ?_;exact rt hL hT hS
  ·intro hc hL;refine r6 ?_;refine r1 ?_;exact Yh.Y7 (ZiD _ _ hL ⟨_,_,rfl,hS.only .n,YH⟩)
 ·intro hc hL;refine XY ?_;refine r2 ?_;exact rt hL hT hS
end Go.Proofs.YtbmbbcaaimehkaaGreat
end
end
section
namespace Go.Proofs.YtbmbbcaaimehkaaGreat
open Go.Lf
def Zm2:Unit ->Option Bool:=fun _=>
 some false
def Zjs (p0:Zb) (p1:Zx):Unit ->Option Bool:=fun _=>
 some ((decide (p1.a >=0)) && (decide (p1.a < (p0.Zv.length:Int))))
def Zu3 (p0:Zb) (p1:Zx):Option Bool:=
 (bif(p1.act==1) then(bif((decide (p1.a >=0)) && (decide (p1.a < (p0.qQ.length:Int)))) then some ((decide (p1.b >=0)) && (decide (p1.b < (p0.Zv.length:Int)))) else some false) else(bif(p1.act==2) then(bif((decide (p1.a >=0)) && (decide (p1.a < (p0.Zv.length:Int)))) then some ((decide (p1.b >=0)) && (decide (p1.b < (p0.qQ.length:Int)))) else some false) else(bif(p1.act==3) then(bif(!((decide (p1.b >=0)) && (decide (p1.b < (p0.Zv.length:Int))))) then some false else(Zjs p0 p1) ()) else(bif(p1.act==4) then(Zjs p0 p1) () else(bif(p1.act==5) then some ((decide (p1.a >=0)) && (decide (p1.a < (p0.qG.length:Int)))) else(Zm2) ())))))
def Zjn (v16:Int) (Wi:(Int×Int×Int×Int×Int×Bool ->Option (XF×Bool))):Int×Int×Int×Int×Bool ->Option (XF×Bool):=fun(v29,v33,v34,v35,v36)=>
 Wi (v29,Xa (v16 + 1),v33,v34,v35,v36)
def Zjm (v94:Int) (ZcS:(Int×Int×Int×Int×Int×Bool ->Option (XF×Bool))):Int×Int×Int×Int×Bool ->Option (XF×Bool):=fun(ZBn,Zt2,v117,Zg8,ZBm)=>
 ZcS (ZBn,Xa (v94 + 1),Zt2,v117,Zg8,ZBm)
def ZmV (p1:Int) (v63:Int) (Zl2:(Int×Int×Int×Int×Int×Bool ->Option (XF×Bool))) (x70:Ze):Int×Int×Int×Int×Int×Bool ->(Int×Int×Int×Int×Int×Bool ->Option (XF×Bool)) ->Option (XF×Bool):=fun(v85,v94,v96,v97,v98,v99) ZcS=>
 (bif decide (v94 < (x70.qV.length:Int)) then(ZQ x70.qV v94).bind fun ZFl=>(bif((ZFl==p1) && (decide (v94 < (x70.Yk.length:Int)))) then(ZQ x70.Yk v94).bind fun Zj8=>(Zjm v94 ZcS) (Xa (v85 + 1),x70.Z9,Zj8,v63,false) else(Zjm v94 ZcS) (v85,v96,v97,v98,v99)) else Zl2 (v85,Xa (v63 + 1),v96,v97,v98,v99))
def Zjo (F:Nat) (p0:Zb) (p1:Int):Int×Int×Int×Int×Int×Bool ->(Int×Int×Int×Int×Int×Bool ->Option (XF×Bool)) ->Option (XF×Bool):=fun(v59,v63,v65,v66,v67,v68) Zl2=>
 (bif decide (v63 < (p0.qG.length:Int)) then(ZQ p0.qG v63).bind fun x70=>loop F (ZmV p1 v63 Zl2 x70) (v59,0,v65,v66,v67,v68) else some ((XF.mk v65 v66 v67 v68),(v59==1)))
def ZmW (F:Nat) (p0:Zb) (p1:Int):Int×Int×Int×Int×Int×Bool ->(Int×Int×Int×Int×Int×Bool ->Option (XF×Bool)) ->Option (XF×Bool):=fun(v13,v16,v18,v19,v20,v21) Wi=>
 (bif decide (v16 < (p0.qQ.length:Int)) then(ZQ p0.qQ v16).bind fun x37=>(ZQ x37 p1).bind fun x42=>(bif x42.here then(ZQ p0.qQ v16).bind fun U6=>(ZQ U6 p1).bind fun x50=>(Zjn v16 Wi) (Xa (v13 + 1),v16,x50.age,(-1),true) else(Zjn v16 Wi) (v13,v18,v19,v20,v21)) else loop F (Zjo F p0 p1) (v13,0,v18,v19,v20,v21))
def ZrF (F:Nat) (p0:Zb) (p1:Int):Option (XF×Bool):=
 loop F (ZmW F p0 p1) (0,0,0,0,0,false)
def ZmU (p0:Zb) (p1:Int) (p2:XF) (p3:Int) (p4:Int):Option Bool:=
 (bif((((decide (p3 < 0)) || (decide (p3 >= (p0.qQ.length:Int)))) || (decide (p4 < 0))) || (decide (p4 > p2.age))) then some false else(bif(p4==p2.age) then some (p2.at_==p3) else(ZQ p0.qQ p3).bind fun x5=>(ZQ x5 p1).bind fun x10=>some (decide (x10.age > p4))))
def Zpr (p0:Zb) (p1:(List XF)) (p2:Zr) (p3:Int) (p4:Bool):Option Bool:=
 (bif((((((((decide (p2.place < 0)) || (decide (p2.place >= (p0.Zv.length:Int)))) || (decide (p2.from_ < 0))) || (decide (p2.from_ >= (p0.qQ.length:Int)))) || (decide (p2.age < 0))) || (decide (p2.age > 30))) || (decide (p2.hops < 1))) || (decide (p2.hops > (Xa (p2.age + 1))))) then some false else(ZQ p1 p2.place).bind fun x5=>(bif p4 then some (((!x5.is) && (x5.at_==p3)) && (x5.age==p2.age)) else(ZmU p0 p2.place x5 p3 p2.age).bind fun XL=>some XL))
end Go.Proofs.YtbmbbcaaimehkaaGreat
end
section
set_option maxRecDepth 20000
noncomputable section
namespace Go.Proofs.YtbmbbcaaimehkaaGreat
open Go.YG Go.Lf
theorem ZIe {wm:Nat} {h:H} {p0:Zb} {p1:Zx} {Zi:Option Addr} {Zh:Nat} {Zq:Option Addr} {Zo:Nat} {Zk:Option Addr} {Zj:Nat} {Zp:Option Addr} {Zn:Nat} {Zm:Option Addr} {Zl:Nat} {r:Bool} (ZX:wm <=h.size) (ZA:Sl (Zu .i64) wm h Zi Zh p0.Zv) (ZM:Sl (ZE (Zu .i64)) wm h Zq Zo p0.qK) (ZL:Sl (ZE Zc) wm h Zk Zj p0.qQ) (ZN:Sl (ZE Zg) wm h Zp Zn p0.qJ) (ZK:Sl Zd wm h Zm Zl p0.qG) (hL:Zu3 p0 p1=some r):
 WR XX 47 #[.agg [.slice Zi p0.Zv.length Zh,.slice Zq p0.qK.length Zo,.slice Zk p0.qQ.length Zj,.slice Zp p0.qJ.length Zn,.slice Zm p0.qG.length Zl,.int .i64 p0.said].toArray,.agg [.int .i64 p1.act,.int .i64 p1.a,.int .i64 p1.b].toArray] wm h (CP (fun(v:Value) (Gb:List (Ast wm))=>v= .bool r∧Gb= []) [] h):=by
 refine bg Tryz.ntmps47 ZX Yd.nil ?_;intro T hT hS;unfold Zu3 at hL;refine r3 ?_;rintro _ h2 ⟨b1,eb1,rfl,hS⟩;refine r1 ?_;rintro _ h4 ⟨b3,eb3,rfl,hS⟩;refine r4 ?_;refine r1 ?_;refine WO.w gN rfl (Zbn (Zf lk Zy)) ?_;refine r4 ?_;refine r1 ?_;refine WO.w gN rfl (Zbn (Zf lk Zy)) ?_;refine r3 ?_;refine WC.Za2 (r:=r) (fun(_:Unit) (s:Fs)=>∃ (fr6:Fr) (h5:H),s= ⟨fr6,[],h5,none⟩∧Sp wm T h [] h5) (Zm2) ?_ ?_
 ·clear hL hS;rintro _ s hL ⟨fr6,h5,rfl,hS⟩;dsimp only [Zm2] at hL;refine r6 ?_;exact rt hL hT hS
 ·skip;refine r8 ?_;refine r1 ?_;refine WC.Za2 (r:=r) (fun(_:Unit) (s:Fs)=>∃ (fr8:Fr) (h7:H),s= ⟨fr8,[],h7,none⟩∧Sp wm T h [bx wm b3 (cS p1),bx wm b1 (cW p0 Zi Zh Zq Zo Zk Zj Zp Zn Zm Zl)] h7∧fr8.at 3= .pointer (some ⟨b3,0,none⟩)∧fr8.at 5= .func (.func 75) #[] [.pointer (some ⟨b1,0,none⟩)].toArray) (Zjs p0 p1) ?_ ?_
  ·clear hL hS;rintro _ s hL ⟨fr8,h7,rfl,hS,e9,e10⟩;dsimp only [Zjs] at hL;refine r6 ?_;refine WO.inl gN rfl (Xg.clo (first:= []) (cap:= [.pointer (some ⟨b1,0,none⟩)]) lk Zte lks rfl) (WF.begin (args:= [_,_]) (fn:=Tryz.f75) Kq0 (by exact rfl) Tryz.ntmps75 (by simp) ?_);simp only [Z8,Ya,Nat.reduceAdd];refine r16 ?_;refine r4 ?_;refine Yo.Qg rfl (ZU lk ZC) ?_;refine r8 ?_;refine YT.ret ?_;exact rt hL hT hS
  ·skip;refine XY ?_;refine r3 ?_;refine cn hL ?_ ?_
   ·intro hc hL;refine r8 ?_;refine r3 ?_;refine WO.inl gN rfl (Xg.clo (first:= []) (cap:= [.pointer (some ⟨b1,0,none⟩)]) lk ZEE lks rfl) (WF.begin (args:= [_,_]) (fn:=Tryz.f76) Kq0 (by exact rfl) Tryz.ntmps76 (by simp) ?_);simp only [Z8,Ya,Nat.reduceAdd];refine r16 ?_;refine r4 ?_;refine Yo.Qg rfl (ZU lk ZC) ?_;refine r4 ?_;refine WO.Zch (Zt.yes rfl rfl rfl (YB rfl (Zz rfl fh))) (fun Zmx=>?_) (fun Zmx=>?_)
    ·replace hL:=J4 Zmx hL;refine WO.inl (Zt.on (Zt.yes rfl rfl rfl (YB rfl (Zz rfl fh))) Zmx) rfl (Xg.clo (first:= []) (cap:= [.pointer (some ⟨b1,0,none⟩)]) (YW (YB rfl fh) rfl Zmx) Zte (Zf (YW fh rfl Zmx) Zy) rfl) (WF.begin (args:= [_,_]) (fn:=Tryz.f75) Kq0 (by exact rfl) Tryz.ntmps75 (by simp) ?_);simp only [Z8,Ya,Nat.reduceAdd];refine r16 ?_;refine r4 ?_;refine Yo.Qg rfl (ZU lk ZC) ?_;refine WO.w gN rfl (ZdY lk Zmx lk) ?_;refine r8 ?_;refine r2 ?_;refine YT.ret ?_;refine r3 ?_;refine YT.ret ?_;exact rt hL hT hS
    ·replace hL:=J5 Zmx hL;refine WO.Zb4 (Zt.yes rfl rfl rfl (YB rfl (Zz rfl fh))) Zmx rfl ?_;refine WO.w gN rfl (ZdZ lk Zmx lk) ?_;refine r8 ?_;refine r2 ?_;refine YT.ret ?_;refine r3 ?_;refine YT.ret ?_;exact rt hL hT hS
   ·intro hc hL;refine r8 ?_;refine r1 ?_;refine cn hL ?_ ?_
    ·intro hc hL;refine r3 ?_;refine U0.other rfl ?_;refine r8 ?_;refine r1 ?_;refine WO.inl gN rfl (Xg.clo (first:= []) (cap:= [.pointer (some ⟨b1,0,none⟩)]) lk Zte lks rfl) (WF.begin (args:= [_,_]) (fn:=Tryz.f75) Kq0 (by exact rfl) Tryz.ntmps75 (by simp) ?_);simp only [Z8,Ya,Nat.reduceAdd];refine r16 ?_;refine r4 ?_;refine Yo.Qg rfl (ZU lk ZC) ?_;refine r4 ?_;refine WO.Zch (Zt.yes rfl rfl rfl (YB rfl (Zz rfl fh))) (fun Zmw=>?_) (fun Zmw=>?_)
     ·replace hL:=J4 Zmw hL;refine WO.inl (Zt.on (Zt.yes rfl rfl rfl (YB rfl (Zz rfl fh))) Zmw) rfl (Xg.clo (first:= []) (cap:= [.pointer (some ⟨b1,0,none⟩)]) (YW (YB rfl fh) rfl Zmw) ZEE (Zf (YW fh rfl Zmw) Zy) rfl) (WF.begin (args:= [_,_]) (fn:=Tryz.f76) Kq0 (by exact rfl) Tryz.ntmps76 (by simp) ?_);simp only [Z8,Ya,Nat.reduceAdd];refine r16 ?_;refine r4 ?_;refine Yo.Qg rfl (ZU lk ZC) ?_;refine WO.w gN rfl (ZdY lk Zmw lk) ?_;refine r8 ?_;refine YT.ret ?_;refine r3 ?_;refine YT.ret ?_;exact rt hL hT hS
     ·replace hL:=J5 Zmw hL;refine WO.Zb4 (Zt.yes rfl rfl rfl (YB rfl (Zz rfl fh))) Zmw rfl ?_;refine WO.w gN rfl (ZdZ lk Zmw lk) ?_;refine r8 ?_;refine YT.ret ?_;refine r3 ?_;refine YT.ret ?_;exact rt hL hT hS
    ·intro hc hL;refine r8 ?_;refine r1 ?_;refine cn hL ?_ ?_
     ·intro hc hL;refine r3 ?_;refine U0.other rfl ?_;refine r1 ?_;refine U0.other rfl ?_;refine r8 ?_;refine WO.inl gN rfl (Xg.clo (first:= []) (cap:= [.pointer (some ⟨b1,0,none⟩)]) lk Zte lks rfl) (WF.begin (args:= [_,_]) (fn:=Tryz.f75) Kq0 (by exact rfl) Tryz.ntmps75 (by simp) ?_);simp only [Z8,Ya,Nat.reduceAdd];refine r16 ?_;refine r4 ?_;refine Yo.Qg rfl (ZU lk ZC) ?_;refine r3 ?_;refine cn hL ?_ ?_
      ·intro hc hL;refine r6 ?_;refine r1 ?_;refine YT.ret ?_;refine r3 ?_;refine YT.ret ?_;exact rt hL hT hS
      ·intro hc hL;refine r2 ?_;exact YT.Y7 _ hL ⟨_,_,rfl,hS.only (.c k0 (.c k0 .n)),YH⟩
     ·intro hc hL;refine r8 ?_;refine r1 ?_;refine cn hL ?_ ?_
      ·intro hc hL;refine r3 ?_;refine U0.other rfl ?_;refine r1 ?_;refine U0.other rfl ?_;refine r1 ?_;refine U0.other rfl ?_;refine r2 ?_;exact YT.Y7 _ hL ⟨_,_,rfl,hS.only (.c k0 (.c k0 .n)),YH⟩
      ·intro hc hL;refine r8 ?_;refine cn hL ?_ ?_
       ·intro hc hL;refine r2 ?_;refine U0.other rfl ?_;refine r1 ?_;refine U0.other rfl ?_;refine r1 ?_;refine U0.other rfl ?_;refine r1 ?_;refine U0.other rfl ?_;refine YT.exit ?_;refine r16 ?_;refine r6 ?_;refine YT.ret ?_;exact rt hL hT hS
       ·intro hc hL;refine r3 ?_;refine U0.other rfl ?_;refine r1 ?_;refine U0.other rfl ?_;refine r1 ?_;refine U0.other rfl ?_;refine r1 ?_;refine U0.other rfl ?_;refine YT.exit ?_;refine U0.other rfl ?_;refine r2 ?_;exact YT.Y7 _ hL ⟨_,_,rfl,hS.only .n⟩
theorem ZIf {h:H} {p0:Zb} {p1:Zx} {Zi:Option Addr} {Zh:Nat} {Zq:Option Addr} {Zo:Nat} {Zk:Option Addr} {Zj:Nat} {Zp:Option Addr} {Zn:Nat} {Zm:Option Addr} {Zl:Nat} {r:Bool} (ZA:Sl (Zu .i64) h.size h Zi Zh p0.Zv) (ZM:Sl (ZE (Zu .i64)) h.size h Zq Zo p0.qK) (ZL:Sl (ZE Zc) h.size h Zk Zj p0.qQ) (ZN:Sl (ZE Zg) h.size h Zp Zn p0.qJ) (ZK:Sl Zd h.size h Zm Zl p0.qG) (hL:Zu3 p0 p1=some r):Pure XX 47 #[.agg [.slice Zi p0.Zv.length Zh,.slice Zq p0.qK.length Zo,.slice Zk p0.qQ.length Zj,.slice Zp p0.qJ.length Zn,.slice Zm p0.qG.length Zl,.int .i64 p0.said].toArray,.agg [.int .i64 p1.act,.int .i64 p1.a,.int .i64 p1.b].toArray] h (.bool r):=
 WR.Qb rfl (ZIe (Nat.le_refl _) ZA ZM ZL ZN ZK hL)
theorem ZzI {F wm:Nat} {h:H} {p0:Zb} {p1:Int} {Zi:Option Addr} {Zh:Nat} {Zq:Option Addr} {Zo:Nat} {Zk:Option Addr} {Zj:Nat} {Zp:Option Addr} {Zn:Nat} {Zm:Option Addr} {Zl:Nat} {r:(XF×Bool)} (ZX:wm <=h.size) (ZA:Sl (Zu .i64) wm h Zi Zh p0.Zv) (ZM:Sl (ZE (Zu .i64)) wm h Zq Zo p0.qK) (ZL:Sl (ZE Zc) wm h Zk Zj p0.qQ) (ZN:Sl (ZE Zg) wm h Zp Zn p0.qJ) (ZK:Sl Zd wm h Zm Zl p0.qG) (hL:ZrF F p0 p1=some r):
 WR XX 52 #[.agg [.slice Zi p0.Zv.length Zh,.slice Zq p0.qK.length Zo,.slice Zk p0.qQ.length Zj,.slice Zp p0.qJ.length Zn,.slice Zm p0.qG.length Zl,.int .i64 p0.said].toArray,.int .i64 p1] wm h (CP (fun(v:Value) (Gb:List (Ast wm))=>v= .tuple [.agg [.int .i64 r.1.at_,.int .i64 r.1.age,.int .i64 r.1.letter,.bool r.1.is].toArray,.bool r.2].toArray∧Gb= []) [] h):=by
 refine bg Tryz.ntmps52 ZX Yd.nil ?_;intro T hT hS;unfold ZrF at hL;refine r3 ?_;rintro _ h2 ⟨b1,eb1,rfl,hS⟩;refine r1 ?_;rintro _ h4 ⟨b3,eb3,rfl,hS⟩;refine r6 ?_;rintro _ h6 ⟨b5,eb5,rfl,hS⟩;refine r16 ?_;refine r1 ?_;refine WC.loop (WL.lift hL (fun(p:Int×Int×Int×Int×Int×Bool) (s:Fs)=>match p with | (v13,v16,v18,v19,v20,v21)=>∃ (fr8:Fr) (h7:H),s= ⟨fr8,[],h7,none⟩∧Sp wm T h [bx wm b1 (cW p0 Zi Zh Zq Zo Zk Zj Zp Zn Zm Zl),bx wm b3 [.int .i64 0,.int .i64 0,.int .i64 0,.bool false],bx wm b5 [.int .i64 v18,.int .i64 v19,.int .i64 v20,.bool v21]] h7∧fr8.at 1= .int .i64 p1∧fr8.at 2= .pointer (some ⟨b1,0,none⟩)∧fr8.at 4= .pointer (some ⟨b3,0,none⟩)∧fr8.at 6= .pointer (some ⟨b5,0,none⟩)∧fr8.at 7= .int .i64 v13∧fr8.at 15= .int .i64 (p0.qQ.length:Int)∧fr8.at 16= .int .i64 v16) ⟨_,_,rfl,hS.only (.c k2 (.c k1 (.c k0 .n))),YH⟩ ?_);clear hL hS;rintro Wi ⟨v13,v16,v18,v19,v20,v21⟩ s Zmr hL ⟨fr8,h7,rfl,hS,e9,e10,e11,e12,e14,e15,e17⟩;dsimp only [ZmW] at hL;refine r6 ?_;refine cn hL ?_ ?_
 ·intro hc hL;refine r2 ?_;refine WC.Za2 (r:=r) (fun(p:Int×Int×Int×Int×Bool) (s:Fs)=>match p with | (v29,v33,v34,v35,v36)=>∃ (UY:Fr) (h23:H),s= ⟨UY,[],h23,none⟩∧Sp wm T h [bx wm b1 (cW p0 Zi Zh Zq Zo Zk Zj Zp Zn Zm Zl),bx wm b3 [.int .i64 0,.int .i64 0,.int .i64 0,.bool false],bx wm b5 [.int .i64 v33,.int .i64 v34,.int .i64 v35,.bool v36]] h23∧UY.at 1= .int .i64 p1∧UY.at 2= .pointer (some ⟨b1,0,none⟩)∧UY.at 4= .pointer (some ⟨b3,0,none⟩)∧UY.at 6= .pointer (some ⟨b5,0,none⟩)∧UY.at 7= .int .i64 v29∧UY.at 15= .int .i64 (p0.qQ.length:Int)∧UY.at 16= .int .i64 v16) (Zjn v16 Wi) ?_ ?_
  ·clear hL hS;rintro⟨v29,v33,v34,v35,v36⟩ s hL ⟨UY,h23,rfl,hS,e25,e26,e27,e28,e30,e31,e32⟩;dsimp only [Zjn] at hL;refine r4 ?_;exact Yh.Y7 (Zmr _ _ hL ⟨_,_,rfl,hS.only (.c k0 (.c k0 (.c k0 .n))),YH⟩)
  ·skip;refine XY ?_;obtain⟨x37,ZfP,hL⟩:=bind_some hL;obtain⟨b38,o39,⟨a40,c41⟩,ZiL,ZiR,ZiP,Zld⟩:=Sl.at_ ZL ZfP;refine WO.w gN rfl (ZH Uj QG lk lk rfl ZiL ZfP) ?_;have Zo1:Sl Zc wm h a40 c41 x37:=Zld;refine WO.w gN rfl (ZW UQ (Yt fh rfl) (At.fz hS.fz ZiP ZiR) (j:=0) rfl (v:= .slice a40 x37.length c41) rfl) ?_;refine r1 ?_;obtain⟨x42,ZqV,hL⟩:=bind_some hL;obtain⟨b43,o44,_,Zys,ZyZ,ZyJ,ZMn⟩:=Sl.at_ Zo1 ZqV;refine WO.w gN rfl (ZH Ui Xt lk lk rfl Zys ZqV) ?_;refine r1 ?_;refine WO.w gN rfl (ZW Zr6 (Yt fh rfl) (At.fz hS.fz ZyJ ZyZ) (j:=0) rfl (v:= .bool x42.here) rfl) ?_;refine r2 ?_;refine cn hL ?_ ?_
   ·intro hc hL;refine r6 ?_;obtain⟨U6,ZoQ,hL⟩:=bind_some hL;obtain⟨b46,o47,⟨a48,c49⟩,Zpb,Zph,Zpe,Zpd⟩:=Sl.at_ ZL ZoQ;refine WO.w gN rfl (ZH Uj QG lk lk rfl Zpb ZoQ) ?_;have Zo0:Sl Zc wm h a48 c49 U6:=Zpd;refine WO.w gN rfl (ZW UQ (Yt fh rfl) (At.fz hS.fz Zpe Zph) (j:=0) rfl (v:= .slice a48 U6.length c49) rfl) ?_;refine r1 ?_;obtain⟨x50,ZKv,hL⟩:=bind_some hL;obtain⟨b51,o52,_,ZL2,ZM6,ZMH,ZTO⟩:=Sl.at_ Zo0 ZKv;refine WO.w gN rfl (ZH Ui Xt lk lk rfl ZL2 ZKv) ?_;refine r1 ?_;refine WO.w gN rfl (ZW Xr (Yt fh rfl) (At.fz hS.fz ZMH ZM6) (j:=2) rfl (v:= .int .i64 x50.age) rfl) ?_;refine WO.w gN rfl (XT ZAe (ZG lk (ZG lk (ZG lk (ZG lk Yf)))) rfl (cs':= [.int .i64 v16,.int .i64 x50.age,.int .i64 (-1),.bool true]) rfl) ?_;refine r1 ?_;rintro h53 hS;refine r8 ?_;exact YT.Y7 _ hL ⟨_,_,rfl,hS.only (.c k1 (.c k1 (.c k0 .n))),YH⟩
   ·intro hc hL;refine r2 ?_;exact YT.Y7 _ hL ⟨_,_,rfl,hS.only (.c k0 (.c k0 (.c k0 .n))),YH⟩
 ·intro hc hL;refine XY ?_;refine r3 ?_;refine WC.loop (WL.lift hL (fun(p:Int×Int×Int×Int×Int×Bool) (s:Fs)=>match p with | (v59,v63,v65,v66,v67,v68)=>∃ (Zdb:Fr) (h54:H),s= ⟨Zdb,[],h54,none⟩∧Sp wm T h [bx wm b3 [.int .i64 0,.int .i64 0,.int .i64 0,.bool false],bx wm b5 [.int .i64 v65,.int .i64 v66,.int .i64 v67,.bool v68]] h54∧Zdb.at 1= .int .i64 p1∧Zdb.at 4= .pointer (some ⟨b3,0,none⟩)∧Zdb.at 6= .pointer (some ⟨b5,0,none⟩)∧Zdb.at 7= .int .i64 v59∧Zdb.at 43= .slice Zm p0.qG.length Zl∧Zdb.at 44= .int .i64 (p0.qG.length:Int)∧Zdb.at 45= .int .i64 v63) ⟨_,_,rfl,hS.only (.c k1 (.c k1 .n)),YH⟩ ?_);clear hL hS;rintro Zl2 ⟨v59,v63,v65,v66,v67,v68⟩ s ZB7 hL ⟨Zdb,h54,rfl,hS,e56,e57,e58,e60,e61,e62,e64⟩;dsimp only [Zjo] at hL;refine r6 ?_;refine cn hL ?_ ?_
  ·intro hc hL;refine r6 ?_;refine r1 ?_;obtain⟨x70,ZxB,hL⟩:=bind_some hL;obtain⟨b71,o72,⟨⟨a73,c74⟩,⟨a75,c76⟩⟩,Zym,ZyR,ZER,ZyD⟩:=Sl.at_ ZK ZxB;refine WO.w gN rfl (ZH JR Y6 lk lk rfl Zym ZxB) ?_;have ZKR:Sl (Zu .i64) wm h a73 c74 x70.qV:=ZyD.1;have ZKQ:Sl (Zu .i64) wm h a75 c76 x70.Yk:=ZyD.2;refine WO.w gN rfl (Xj ZaT Y6 (Yt fh rfl) (At.fz hS.fz ZER ZyR) (j:=0) rfl rfl (ws:= (cL x70 a73 c74 a75 c76)) rfl) ?_;refine r1 ?_;rintro _ h78 ⟨b77,ZXE,rfl,hS⟩;refine r2 ?_;rintro h79 hS;refine r8 ?_;refine r3 ?_;refine WC.loop (WL.lift hL (fun(p:Int×Int×Int×Int×Int×Bool) (s:Fs)=>match p with | (v85,v94,v96,v97,v98,v99)=>∃ (K6:Fr) (h80:H),s= ⟨K6,[],h80,none⟩∧Sp wm T h [bx wm b3 [.int .i64 0,.int .i64 0,.int .i64 0,.bool false],bx wm b5 [.int .i64 v96,.int .i64 v97,.int .i64 v98,.bool v99],bx wm b77 (cL x70 a73 c74 a75 c76)] h80∧K6.at 1= .int .i64 p1∧K6.at 4= .pointer (some ⟨b3,0,none⟩)∧K6.at 6= .pointer (some ⟨b5,0,none⟩)∧K6.at 7= .int .i64 v85∧K6.at 9= .int .i64 v63∧K6.at 10= .pointer (some ⟨b77,0,none⟩)∧K6.at 43= .slice Zm p0.qG.length Zl∧K6.at 44= .int .i64 (p0.qG.length:Int)∧K6.at 45= .int .i64 v63∧K6.at 51= .slice a73 x70.qV.length c74∧K6.at 52= .int .i64 (x70.qV.length:Int)∧K6.at 53= .int .i64 v94) ⟨_,_,rfl,hS.only (.c k1 (.c k1 (.c k0 .n))),YH⟩ ?_);clear hL hS;rintro ZcS ⟨v85,v94,v96,v97,v98,v99⟩ s Zx8 hL ⟨K6,h80,rfl,hS,e82,e83,e84,e86,e87,e88,e89,e90,e91,e92,e93,e95⟩;dsimp only [ZmV] at hL;refine r6 ?_;refine cn hL ?_ ?_
   ·intro hc hL;refine r2 ?_;refine WC.Za2 (r:=r) (fun(p:Int×Int×Int×Int×Bool) (s:Fs)=>match p with | (ZBn,Zt2,v117,Zg8,ZBm)=>∃ (Zae:Fr) (ZuO:H),s= ⟨Zae,[],ZuO,none⟩∧Sp wm T h [bx wm b3 [.int .i64 0,.int .i64 0,.int .i64 0,.bool false],bx wm b5 [.int .i64 Zt2,.int .i64 v117,.int .i64 Zg8,.bool ZBm],bx wm b77 (cL x70 a73 c74 a75 c76)] ZuO∧Zae.at 1= .int .i64 p1∧Zae.at 4= .pointer (some ⟨b3,0,none⟩)∧Zae.at 6= .pointer (some ⟨b5,0,none⟩)∧Zae.at 7= .int .i64 ZBn∧Zae.at 9= .int .i64 v63∧Zae.at 10= .pointer (some ⟨b77,0,none⟩)∧Zae.at 43= .slice Zm p0.qG.length Zl∧Zae.at 44= .int .i64 (p0.qG.length:Int)∧Zae.at 45= .int .i64 v63∧Zae.at 51= .slice a73 x70.qV.length c74∧Zae.at 52= .int .i64 (x70.qV.length:Int)∧Zae.at 53= .int .i64 v94) (Zjm v94 ZcS) ?_ ?_
    ·clear hL hS;rintro⟨ZBn,Zt2,v117,Zg8,ZBm⟩ s hL ⟨Zae,ZuO,rfl,hS,ZNO,ZSo,ZNN,ZSn,e108,e109,ZNM,ZYL,ZSm,ZSl,ZC5,e115⟩;dsimp only [Zjm] at hL;refine r4 ?_;exact Yh.Y7 (Zx8 _ _ hL ⟨_,_,rfl,hS.only (.c k0 (.c k0 (.c k0 .n))),YH⟩)
    ·skip;refine r4 ?_;obtain⟨ZFl,ZEr,hL⟩:=bind_some hL;obtain⟨ZZH,ZVS,_,ZGG,ZHt,ZG1,ZRr⟩:=Sl.at_ ZKR ZEr;refine WO.w gN rfl (ZH YI YJ lk lk rfl ZGG ZEr) ?_;refine WO.w gN rfl (ZW Xr (Yt fh rfl) (At.fz hS.fz ZG1 ZHt) (j:=0) rfl (v:= .int .i64 ZFl) rfl) ?_;refine r16 ?_;refine r2 ?_;refine cn hL ?_ ?_
     ·intro hc hL;refine r1 ?_;refine WC.Xw mixed Kq0 ?_;refine r4 ?_;refine r1 ?_;obtain⟨Zj8,ZoY,hL⟩:=bind_some hL;obtain⟨ZOo,ZP7,_,Zq9,Zre,Zrb,ZGQ⟩:=Sl.at_ ZKQ ZoY;refine WX.w gN rfl (ZH YI YJ lk lk rfl Zq9 ZoY) ?_ rfl;refine WX.w gN rfl (ZW Xr (Yt fh rfl) (At.fz hS.fz Zrb Zre) (j:=0) rfl (v:= .int .i64 Zj8) rfl) ?_ rfl;refine r1 ?_;refine WX.w gN rfl (XT ZAe (ZG lk (ZG lk (ZG lk (ZG lk Yf)))) rfl (cs':= [.int .i64 x70.Z9,.int .i64 Zj8,.int .i64 v63,.bool false]) rfl) ?_ rfl;refine WX.hu gN (Za3 hS k1 X8 lk lk (vs:= [.int .i64 x70.Z9,.int .i64 Zj8,.int .i64 v63,.bool false]) rfl rfl rfl rfl (cs':= [.int .i64 x70.Z9,.int .i64 Zj8,.int .i64 v63,.bool false]) rfl) ?_ rfl rfl [] Kq0 YO.e;rintro ZNx hS;refine r8 ?_;exact YT.Y7 _ hL ⟨_,_,rfl,hS.only (.c k1 (.c k0 (.c k0 .n))),YH⟩
     ·intro hc hL;refine r2 ?_;exact YT.Y7 _ hL ⟨_,_,rfl,hS.only (.c k0 (.c k0 (.c k0 .n))),YH⟩
   ·intro hc hL;refine r8 ?_;refine r2 ?_;exact Yh.Y7 (ZB7 _ _ hL ⟨_,_,rfl,hS.only (.c k0 (.c k0 .n)),YH⟩)
  ·intro hc hL;refine r8 ?_;refine r3 ?_;rintro h127 hS;refine r4 ?_;have hr:=Oi0 hL;subst hr;exact Yo.gen (vs:= [.agg [.int .i64 v65,.int .i64 v66,.int .i64 v67,.bool v68].toArray,.bool (v59==1)]) rfl (Xf (Y1 rfl (Zz rfl e57)) (Kv ZjU X8 (hS.atB k0) (j:=0) rfl rfl (ws:= [.int .i64 v65,.int .i64 v66,.int .i64 v67,.bool v68]) rfl) (ZU lk ZC)) rfl ⟨_,⟨rfl,rfl⟩,hT ▸ hS.only .n⟩
theorem ZH8 {wm:Nat} {h:H} {p0:Zb} {p1:Int} {p2:XF} {p3 p4:Int} {Zi:Option Addr} {Zh:Nat} {Zq:Option Addr} {Zo:Nat} {Zk:Option Addr} {Zj:Nat} {Zp:Option Addr} {Zn:Nat} {Zm:Option Addr} {Zl:Nat} {r:Bool} (ZX:wm <=h.size) (ZA:Sl (Zu .i64) wm h Zi Zh p0.Zv) (ZM:Sl (ZE (Zu .i64)) wm h Zq Zo p0.qK) (ZL:Sl (ZE Zc) wm h Zk Zj p0.qQ) (ZN:Sl (ZE Zg) wm h Zp Zn p0.qJ) (ZK:Sl Zd wm h Zm Zl p0.qG) (hL:ZmU p0 p1 p2 p3 p4=some r):
 WR XX 53 #[.agg [.slice Zi p0.Zv.length Zh,.slice Zq p0.qK.length Zo,.slice Zk p0.qQ.length Zj,.slice Zp p0.qJ.length Zn,.slice Zm p0.qG.length Zl,.int .i64 p0.said].toArray,.int .i64 p1,.agg [.int .i64 p2.at_,.int .i64 p2.age,.int .i64 p2.letter,.bool p2.is].toArray,.int .i64 p3,.int .i64 p4] wm h (CP (fun(v:Value) (Gb:List (Ast wm))=>v= .bool r∧Gb= []) [] h):=by
 refine bg Tryz.ntmps53 ZX Yd.nil ?_;intro T hT hS;unfold ZmU at hL;refine r3 ?_;rintro _ h2 ⟨b1,eb1,rfl,hS⟩;refine r1 ?_;rintro _ h4 ⟨b3,eb3,rfl,hS⟩;refine r16 ?_;refine r8 ?_;refine r3 ?_;refine cn hL ?_ ?_
 ·intro hc hL;refine r6 ?_;refine r1 ?_;exact rt hL hT hS
 ·intro hc hL;refine r8 ?_;refine r3 ?_;refine cn hL ?_ ?_
  ·intro hc hL;refine r8 ?_;refine r3 ?_;exact rt hL hT hS
  ·intro hc hL;refine r6 ?_;refine r1 ?_;obtain⟨x5,hx5,hL⟩:=bind_some hL;obtain⟨b6,o7,⟨a8,c9⟩,ZGp,ZG7,ZGT,ZMh⟩:=Sl.at_ ZL hx5;refine WO.w gN rfl (ZH Uj QG lk lk rfl ZGp hx5) ?_;have ZQJ:Sl Zc wm h a8 c9 x5:=ZMh;refine WO.w gN rfl (ZW UQ (Yt fh rfl) (At.fz hS.fz ZGT ZG7) (j:=0) rfl (v:= .slice a8 x5.length c9) rfl) ?_;refine r1 ?_;obtain⟨x10,ZuJ,hL⟩:=bind_some hL;obtain⟨b11,o12,_,ZMc,ZNh,ZMS,ZTV⟩:=Sl.at_ ZQJ ZuJ;refine WO.w gN rfl (ZH Ui Xt lk lk rfl ZMc ZuJ) ?_;refine r1 ?_;refine WO.w gN rfl (ZW Xr (Yt fh rfl) (At.fz hS.fz ZMS ZNh) (j:=2) rfl (v:= .int .i64 x10.age) rfl) ?_;refine r6 ?_;exact rt hL hT hS
theorem ZrE {h:H} {p0:Zb} {p1:Int} {p2:XF} {p3 p4:Int} {Zi:Option Addr} {Zh:Nat} {Zq:Option Addr} {Zo:Nat} {Zk:Option Addr} {Zj:Nat} {Zp:Option Addr} {Zn:Nat} {Zm:Option Addr} {Zl:Nat} {r:Bool} (ZA:Sl (Zu .i64) h.size h Zi Zh p0.Zv) (ZM:Sl (ZE (Zu .i64)) h.size h Zq Zo p0.qK) (ZL:Sl (ZE Zc) h.size h Zk Zj p0.qQ) (ZN:Sl (ZE Zg) h.size h Zp Zn p0.qJ) (ZK:Sl Zd h.size h Zm Zl p0.qG) (hL:ZmU p0 p1 p2 p3 p4=some r):Pure XX 53 #[.agg [.slice Zi p0.Zv.length Zh,.slice Zq p0.qK.length Zo,.slice Zk p0.qQ.length Zj,.slice Zp p0.qJ.length Zn,.slice Zm p0.qG.length Zl,.int .i64 p0.said].toArray,.int .i64 p1,.agg [.int .i64 p2.at_,.int .i64 p2.age,.int .i64 p2.letter,.bool p2.is].toArray,.int .i64 p3,.int .i64 p4] h (.bool r):=
 WR.Qb rfl (ZH8 (Nat.le_refl _) ZA ZM ZL ZN ZK hL)
theorem ZH7 {wm:Nat} {h:H} {p0:Zb} {p1:(List XF)} {p2:Zr} {p3:Int} {p4:Bool} {Zi:Option Addr} {Zh:Nat} {Zq:Option Addr} {Zo:Nat} {Zk:Option Addr} {Zj:Nat} {Zp:Option Addr} {Zn:Nat} {Zm:Option Addr} {Zl:Nat} {Q8:Option Addr} {Q7:Nat} {r:Bool} (ZX:wm <=h.size) (ZA:Sl (Zu .i64) wm h Zi Zh p0.Zv) (ZM:Sl (ZE (Zu .i64)) wm h Zq Zo p0.qK) (ZL:Sl (ZE Zc) wm h Zk Zj p0.qQ) (ZN:Sl (ZE Zg) wm h Zp Zn p0.qJ) (ZK:Sl Zd wm h Zm Zl p0.qG) (Zam:Sl ZbY wm h Q8 Q7 p1) (hL:Zpr p0 p1 p2 p3 p4=some r):
 WR XX 54 #[.agg [.slice Zi p0.Zv.length Zh,.slice Zq p0.qK.length Zo,.slice Zk p0.qQ.length Zj,.slice Zp p0.qJ.length Zn,.slice Zm p0.qG.length Zl,.int .i64 p0.said].toArray,.slice Q8 p1.length Q7,.agg [.int .i64 p2.msg,.int .i64 p2.place,.int .i64 p2.from_,.int .i64 p2.age,.int .i64 p2.hops].toArray,.int .i64 p3,.bool p4] wm h (CP (fun(v:Value) (Gb:List (Ast wm))=>v= .bool r∧Gb= []) [] h):=by
 refine bg Tryz.ntmps54 ZX Yd.nil ?_;intro T hT hS;unfold Zpr at hL;refine r3 ?_;rintro _ h2 ⟨b1,eb1,rfl,hS⟩;refine r1 ?_;rintro _ h4 ⟨b3,eb3,rfl,hS⟩;refine r16 ?_;refine r16 ?_;refine r16 ?_;refine r6 ?_;refine r1 ?_;refine cn hL ?_ ?_
 ·intro hc hL;refine r6 ?_;refine r1 ?_;exact rt hL hT hS
 ·intro hc hL;refine r6 ?_;refine r1 ?_;obtain⟨x5,hx5,hL⟩:=bind_some hL;obtain⟨b6,o7,_,ZGp,ZG7,ZGT,ZMh⟩:=Sl.at_ Zam hx5;refine WO.w gN rfl (ZH WS X8 lk lk rfl ZGp hx5) ?_;refine WO.w gN rfl (Xj ZjU X8 (Yt fh rfl) (At.fz hS.fz ZGT ZG7) (j:=0) rfl rfl (ws:= [.int .i64 x5.at_,.int .i64 x5.age,.int .i64 x5.letter,.bool x5.is]) rfl) ?_;refine r1 ?_;rintro _ h9 ⟨b8,eb8,rfl,hS⟩;refine r1 ?_;rintro h10 hS;refine r8 ?_;refine cn hL ?_ ?_
  ·intro hc hL;refine r16 ?_;refine r6 ?_;refine r1 ?_;exact rt hL hT hS
  ·intro hc hL;refine r8 ?_;refine r3 ?_;obtain⟨XL,Zhe,hL⟩:=bind_some hL;refine WO.cp gN rfl (Xg.fn Zyi (Zf lk (Zf lk (Zf lk (Zf lk (Zf lk Zy)))))) (ZrE (hS.Y0 ZA) (hS.Y0 ZM) (hS.Y0 ZL) (hS.Y0 ZN) (hS.Y0 ZK) Zhe) ?_;refine r4 ?_;exact rt hL hT hS
theorem ZzH {h:H} {p0:Zb} {p1:(List XF)} {p2:Zr} {p3:Int} {p4:Bool} {Zi:Option Addr} {Zh:Nat} {Zq:Option Addr} {Zo:Nat} {Zk:Option Addr} {Zj:Nat} {Zp:Option Addr} {Zn:Nat} {Zm:Option Addr} {Zl:Nat} {Q8:Option Addr} {Q7:Nat} {r:Bool} (ZA:Sl (Zu .i64) h.size h Zi Zh p0.Zv) (ZM:Sl (ZE (Zu .i64)) h.size h Zq Zo p0.qK) (ZL:Sl (ZE Zc) h.size h Zk Zj p0.qQ) (ZN:Sl (ZE Zg) h.size h Zp Zn p0.qJ) (ZK:Sl Zd h.size h Zm Zl p0.qG) (Zam:Sl ZbY h.size h Q8 Q7 p1) (hL:Zpr p0 p1 p2 p3 p4=some r):Pure XX 54 #[.agg [.slice Zi p0.Zv.length Zh,.slice Zq p0.qK.length Zo,.slice Zk p0.qQ.length Zj,.slice Zp p0.qJ.length Zn,.slice Zm p0.qG.length Zl,.int .i64 p0.said].toArray,.slice Q8 p1.length Q7,.agg [.int .i64 p2.msg,.int .i64 p2.place,.int .i64 p2.from_,.int .i64 p2.age,.int .i64 p2.hops].toArray,.int .i64 p3,.bool p4] h (.bool r):=
 WR.Qb rfl (ZH7 (Nat.le_refl _) ZA ZM ZL ZN ZK Zam hL)
end Go.Proofs.YtbmbbcaaimehkaaGreat
end
end
section
namespace Go.Proofs.YtbmbbcaaimehkaaGreat
open Go.Lf
def ZmS (v35:Int) (Zl6:((List Int)×Int ->Option (List Int))) (x38:(List Zr)):(List Int)×Int ->((List Int)×Int ->Option (List Int)) ->Option (List Int):=fun(v46,v56) Zxa=>
 (bif decide (v56 < (x38.length:Int)) then(ZQ x38 v56).bind fun x59=>(app 8 v46 [x59.msg]).bind fun z67=>Zxa (z67,Xa (v56 + 1)) else Zl6 (v46,Xa (v35 + 1)))
def Zjj (v80:Int) (ZfH:((List Int)×Int ->Option (List Int))):(List Int) ->Option (List Int):=fun v85=>
 ZfH (v85,Xa (v80 + 1))
def Zjk (p0:Zb):(List Int)×Int ->((List Int)×Int ->Option (List Int)) ->Option (List Int):=fun(v73,v80) ZfH=>
 (bif decide (v80 < (p0.qG.length:Int)) then(ZQ p0.qG v80).bind fun x93=>(bif(x93.kind==1) then(app 8 v73 [x93.Yb.msg]).bind fun z105=>(Zjj v80 ZfH) z105 else(Zjj v80 ZfH) v73) else some v73)
def Zjl (F:Nat) (p0:Zb):(List Int)×Int ->((List Int)×Int ->Option (List Int)) ->Option (List Int):=fun(v28,v35) Zl6=>
 (bif decide (v35 < (p0.qJ.length:Int)) then(ZQ p0.qJ v35).bind fun x38=>loop F (ZmS v35 Zl6 x38) (v28,0) else loop F (Zjk p0) (v28,0))
def ZmT (F:Nat) (p0:Zb):(List Int)×Int ->((List Int)×Int ->Option (List Int)) ->Option (List Int):=fun(v6,v13) Zil=>
 (bif decide (v13 < (p0.qK.length:Int)) then(ZQ p0.qK v13).bind fun x16=>(app 8 v6 x16).bind fun z21=>Zil (z21,Xa (v13 + 1)) else loop F (Zjl F p0) (v6,0))
def ZzG (F:Nat) (p0:Zb):Option (List Int):=
 loop F (ZmT F p0) ([],0)
def Zhg (p0:Int) (p1:Int):Option Bool:=
 some ((decide (p0 >=0)) && (decide (p0 < p1)))
end Go.Proofs.YtbmbbcaaimehkaaGreat
end
section
set_option maxRecDepth 20000
set_option maxHeartbeats 4000000
noncomputable section
namespace Go.Proofs.YtbmbbcaaimehkaaGreat
open Go.YG Go.Lf
theorem ZH6 {F wm:Nat} {h:H} {p0:Zb} {Zi:Option Addr} {Zh:Nat} {Zq:Option Addr} {Zo:Nat} {Zk:Option Addr} {Zj:Nat} {Zp:Option Addr} {Zn:Nat} {Zm:Option Addr} {Zl:Nat} {r:(List Int)} (ZX:wm <=h.size) (ZA:Sl (Zu .i64) wm h Zi Zh p0.Zv) (ZM:Sl (ZE (Zu .i64)) wm h Zq Zo p0.qK) (ZL:Sl (ZE Zc) wm h Zk Zj p0.qQ) (ZN:Sl (ZE Zg) wm h Zp Zn p0.qJ) (ZK:Sl Zd wm h Zm Zl p0.qG) (hL:ZzG F p0=some r):
 WR XX 55 #[.agg [.slice Zi p0.Zv.length Zh,.slice Zq p0.qK.length Zo,.slice Zk p0.qQ.length Zj,.slice Zp p0.qJ.length Zn,.slice Zm p0.qG.length Zl,.int .i64 p0.said].toArray] wm h (CP (fun(v:Value) (Gb:List (Ast wm))=>∃ (Ql:Option Addr) (Qj:Nat) (Qk:Nat),v= .slice Ql Qj Qk∧Gb= [ow wm (Zu .i64) Ql Qj Qk r]) [] h):=by
 refine bg Tryz.ntmps55 ZX Yd.nil ?_;intro T hT hS;unfold ZzG at hL;refine r3 ?_;rintro _ h2 ⟨b1,eb1,rfl,hS⟩;refine r16 ?_;refine r2 ?_;have hS:=hS.nil (e:= (Zu .i64));refine WC.loop (WL.lift hL (fun(p:(List Int)×Int) (s:Fs)=>match p with | (v6,v13)=>∃ (K4:Fr) (h3:H) (a7:Option Addr) (c8:Nat) (n9:Nat),s= ⟨K4,[],h3,none⟩∧Sp wm T h [ow wm (Zu .i64) a7 n9 c8 v6,bx wm b1 (cW p0 Zi Zh Zq Zo Zk Zj Zp Zn Zm Zl)] h3∧K4.at 1= .pointer (some ⟨b1,0,none⟩)∧K4.at 3= .slice a7 n9 c8∧K4.at 13= .slice Zq p0.qK.length Zo∧K4.at 14= .int .i64 (p0.qK.length:Int)∧K4.at 15= .int .i64 v13) ⟨_,_,none,0,0,rfl,hS.only (.c k0 (.c k0 .n)),YH⟩ ?_);clear hL hS;rintro Zil ⟨v6,v13⟩ s Zms hL ⟨K4,h3,a7,c8,n9,rfl,hS,e5,e10,e11,e12,e14⟩;obtain rfl:=hS.on k0;dsimp only [ZmT] at hL;refine r6 ?_;refine cn hL ?_ ?_
 ·intro hc hL;refine r6 ?_;obtain⟨x16,hx16,hL⟩:=bind_some hL;obtain⟨b17,o18,⟨a19,c20⟩,Zyy,Zy3,ZyM,Ztl⟩:=Sl.at_ ZM hx16;refine WO.w gN rfl (ZH Zen U7 lk lk rfl Zyy hx16) ?_;have Zs7:Sl (Zu .i64) wm h a19 c20 x16:=Ztl;refine WO.w gN rfl (ZW Zg6 (Yt fh rfl) (At.fz hS.fz ZyM Zy3) (j:=0) rfl (v:= .slice a19 x16.length c20) rfl) ?_;refine r6 ?_;obtain⟨z21,ZQn,hL⟩:=bind_some hL;refine WO.hv gN rfl (KG (e:= (Zu .i64)) hS k0 JL lk lk (Sl.src (hS.sl Zs7)) rfl ZQn) ?_;rintro _ h24 ⟨a22,c23,rfl,hS⟩;refine r8 ?_;exact Yh.Y7 (Zms _ _ hL ⟨_,_,a22,c23,z21.length,rfl,hS.only (.c k0 (.c k0 .n)),YH⟩)
 ·intro hc hL;refine XY ?_;refine r3 ?_;refine WC.loop (WL.lift hL (fun(p:(List Int)×Int) (s:Fs)=>match p with | (v28,v35)=>∃ (Zrs:Fr) (h25:H) (a29:Option Addr) (c30:Nat) (n31:Nat),s= ⟨Zrs,[],h25,none⟩∧Sp wm T h [ow wm (Zu .i64) a29 n31 c30 v28,bx wm b1 (cW p0 Zi Zh Zq Zo Zk Zj Zp Zn Zm Zl)] h25∧Zrs.at 1= .pointer (some ⟨b1,0,none⟩)∧Zrs.at 3= .slice a29 n31 c30∧Zrs.at 24= .slice Zp p0.qJ.length Zn∧Zrs.at 25= .int .i64 (p0.qJ.length:Int)∧Zrs.at 26= .int .i64 v35) ⟨_,_,a7,c8,v6.length,rfl,hS.only (.c k0 (.c k0 .n)),YH⟩ ?_);clear hL hS;rintro Zl6 ⟨v28,v35⟩ s ZCi hL ⟨Zrs,h25,a29,c30,n31,rfl,hS,e27,e32,e33,e34,e36⟩;obtain rfl:=hS.on k0;dsimp only [Zjl] at hL;refine r6 ?_;refine cn hL ?_ ?_
  ·intro hc hL;refine r6 ?_;obtain⟨x38,hx38,hL⟩:=bind_some hL;obtain⟨b39,o40,⟨a41,c42⟩,ZL6,ZNa,ZML,ZMp⟩:=Sl.at_ ZN hx38;refine WO.w gN rfl (ZH K9 Jl lk lk rfl ZL6 hx38) ?_;have ZKX:Sl Zg wm h a41 c42 x38:=ZMp;refine WO.w gN rfl (ZW Zdw (Yt fh rfl) (At.fz hS.fz ZML ZNa) (j:=0) rfl (v:= .slice a41 x38.length c42) rfl) ?_;refine r8 ?_;refine r3 ?_;refine WC.loop (WL.lift hL (fun(p:(List Int)×Int) (s:Fs)=>match p with | (v46,v56)=>∃ (Zkq:Fr) (h43:H) (a47:Option Addr) (c48:Nat) (n49:Nat),s= ⟨Zkq,[],h43,none⟩∧Sp wm T h [ow wm (Zu .i64) a47 n49 c48 v46,bx wm b1 (cW p0 Zi Zh Zq Zo Zk Zj Zp Zn Zm Zl)] h43∧Zkq.at 1= .pointer (some ⟨b1,0,none⟩)∧Zkq.at 3= .slice a47 n49 c48∧Zkq.at 24= .slice Zp p0.qJ.length Zn∧Zkq.at 25= .int .i64 (p0.qJ.length:Int)∧Zkq.at 26= .int .i64 v35∧Zkq.at 30= .slice a41 x38.length c42∧Zkq.at 31= .int .i64 (x38.length:Int)∧Zkq.at 32= .int .i64 v56) ⟨_,_,a29,c30,v28.length,rfl,hS.only (.c k0 (.c k0 .n)),YH⟩ ?_);clear hL hS;rintro Zxa ⟨v46,v56⟩ s ZCc hL ⟨Zkq,h43,a47,c48,n49,rfl,hS,e45,e50,e51,e52,e53,e54,e55,e57⟩;obtain rfl:=hS.on k0;dsimp only [ZmS] at hL;refine r6 ?_;refine cn hL ?_ ?_
   ·intro hc hL;refine r6 ?_;obtain⟨x59,ZKt,hL⟩:=bind_some hL;obtain⟨b60,o61,_,ZL0,ZM3,ZMB,ZTL⟩:=Sl.at_ ZKX ZKt;refine WO.w gN rfl (ZH Zbt Uz lk lk rfl ZL0 ZKt) ?_;refine WO.w gN rfl (Xj Zlu Uz (Yt fh rfl) (At.fz hS.fz ZMB ZM3) (j:=0) rfl rfl (ws:= (cM x59)) rfl) ?_;refine r1 ?_;rintro _ h63 ⟨b62,ZXK,rfl,hS⟩;refine r1 ?_;rintro h64 hS;refine r6 ?_;refine WO.hn gN rfl (ZaD (e:= (Zu .i64)) hS YI YJ Zbs rfl rfl rfl (ZG lk Yf) rfl [((),x59.msg)] rfl (xs:= [x59.msg]) rfl (by intro q hq;simp only [List.mem_cons,List.not_mem_nil,or_false] at hq;subst hq;exact trivial) rfl) ?_;rintro _ h66 ⟨b65,ZXI,rfl,hS⟩;obtain⟨z67,ZQh,hL⟩:=bind_some hL;refine WO.hv gN rfl (KG (e:= (Zu .i64)) hS k2 JL lk lk (hS.QT k0) (hS.on k0) ZQh) ?_;rintro _ h70 ⟨a68,c69,rfl,hS⟩;refine r8 ?_;exact Yh.Y7 (ZCc _ _ hL ⟨_,_,a68,c69,z67.length,rfl,hS.only (.c k0 (.c k2 .n)),YH⟩)
   ·intro hc hL;refine r8 ?_;refine r2 ?_;exact Yh.Y7 (ZCi _ _ hL ⟨_,_,a47,c48,v46.length,rfl,hS.only (.c k0 (.c k0 .n)),YH⟩)
  ·intro hc hL;refine XY ?_;refine r3 ?_;refine WC.loop (WL.lift hL (fun(p:(List Int)×Int) (s:Fs)=>match p with | (v73,v80)=>∃ (ZuT:Fr) (h71:H) (a74:Option Addr) (c75:Nat) (n76:Nat),s= ⟨ZuT,[],h71,none⟩∧Sp wm T h [ow wm (Zu .i64) a74 n76 c75 v73] h71∧ZuT.at 3= .slice a74 n76 c75∧ZuT.at 44= .slice Zm p0.qG.length Zl∧ZuT.at 45= .int .i64 (p0.qG.length:Int)∧ZuT.at 46= .int .i64 v80) ⟨_,_,a29,c30,v28.length,rfl,hS.only (.c k0 .n),YH⟩ ?_);clear hL hS;rintro ZfH ⟨v73,v80⟩ s ZB3 hL ⟨ZuT,h71,a74,c75,n76,rfl,hS,e77,e78,e79,e81⟩;obtain rfl:=hS.on k0;dsimp only [Zjk] at hL;refine r6 ?_;refine cn hL ?_ ?_
   ·intro hc hL;refine r2 ?_;refine WC.Za2 (r:=r) (fun(v85:(List Int)) (s:Fs)=>∃ (ZuS:Fr) (h83:H) (a86:Option Addr) (c87:Nat) (n88:Nat),s= ⟨ZuS,[],h83,none⟩∧Sp wm T h [ow wm (Zu .i64) a86 n88 c87 v85] h83∧ZuS.at 3= .slice a86 n88 c87∧ZuS.at 44= .slice Zm p0.qG.length Zl∧ZuS.at 45= .int .i64 (p0.qG.length:Int)∧ZuS.at 46= .int .i64 v80) (Zjj v80 ZfH) ?_ ?_
    ·clear hL hS;rintro v85 s hL ⟨ZuS,h83,a86,c87,n88,rfl,hS,e89,e90,e91,e92⟩;obtain rfl:=hS.on k0;dsimp only [Zjj] at hL;refine r4 ?_;exact Yh.Y7 (ZB3 _ _ hL ⟨_,_,a86,c87,v85.length,rfl,hS.only (.c k0 .n),YH⟩)
    ·skip;refine r3 ?_;obtain⟨x93,hx93,hL⟩:=bind_some hL;obtain⟨b94,o95,⟨⟨a96,c97⟩,⟨a98,c99⟩⟩,Zyl,ZyP,ZyH,Zpc⟩:=Sl.at_ ZK hx93;refine WO.w gN rfl (ZH JR Y6 lk lk rfl Zyl hx93) ?_;have ZKN:Sl (Zu .i64) wm h a96 c97 x93.qV:=Zpc.1;have ZKM:Sl (Zu .i64) wm h a98 c99 x93.Yk:=Zpc.2;refine WO.w gN rfl (Xj ZaT Y6 (Yt fh rfl) (At.fz hS.fz ZyH ZyP) (j:=0) rfl rfl (ws:= (cL x93 a96 c97 a98 c99)) rfl) ?_;refine r1 ?_;rintro _ ZuO ⟨Zcv,ZEY,rfl,hS⟩;refine r1 ?_;rintro ZNy hS;refine r8 ?_;refine r1 ?_;refine cn hL ?_ ?_
     ·intro hc hL;refine r4 ?_;refine r1 ?_;refine WO.hn gN rfl (ZaD (e:= (Zu .i64)) hS YI YJ Zbs rfl rfl rfl (ZG lk Yf) rfl [((),x93.Yb.msg)] rfl (xs:= [x93.Yb.msg]) rfl (by intro q hq;simp only [List.mem_cons,List.not_mem_nil,or_false] at hq;subst hq;exact trivial) rfl) ?_;rintro _ ZHD ⟨ZSK,ZNL,rfl,hS⟩;obtain⟨z105,ZxA,hL⟩:=bind_some hL;refine WO.hv gN rfl (KG (e:= (Zu .i64)) hS k2 JL lk lk (hS.QT k0) (hS.on k0) ZxA) ?_;rintro _ ZRV ⟨ZIY,c107,rfl,hS⟩;refine r3 ?_;exact YT.Y7 _ hL ⟨_,_,ZIY,c107,z105.length,rfl,hS.only (.c k0 .n),YH⟩
     ·intro hc hL;refine r2 ?_;exact YT.Y7 _ hL ⟨_,_,a74,c75,v73.length,rfl,hS.only (.c k1 .n),YH⟩
   ·intro hc hL;refine XY ?_;have hr:=Oi0 hL;subst hr;exact Yo.Qg rfl (ZU lk ZC) ⟨_,⟨a74,v73.length,c75,rfl,rfl⟩,hT ▸ hS.only (.c k0 .n)⟩
theorem ZH5 {wm:Nat} {h:H} {p0 p1:Int} {r:Bool} (ZX:wm <=h.size) (hL:Zhg p0 p1=some r):
 WR XX 56 #[.int .i64 p0,.int .i64 p1] wm h (CP (fun(v:Value) (Gb:List (Ast wm))=>v= .bool r∧Gb= []) [] h):=by
 refine bg Tryz.ntmps56 ZX Yd.nil ?_;intro T hT hS;unfold Zhg at hL;refine r16 ?_;refine r2 ?_;exact rt hL hT hS
theorem ZdS {h:H} {p0 p1:Int} {r:Bool} (hL:Zhg p0 p1=some r):Pure XX 56 #[.int .i64 p0,.int .i64 p1] h (.bool r):=
 WR.Qb rfl (ZH5 (Nat.le_refl _) hL)
end Go.Proofs.YtbmbbcaaimehkaaGreat
end
end
