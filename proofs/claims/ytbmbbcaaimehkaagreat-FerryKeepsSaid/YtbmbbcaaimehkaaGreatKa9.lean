/- Keeps Part 9 of the proof. -/
import Derived.Test.YtbmbbcaaimehkaaGreatKa8
set_option linter.all false
set_option maxHeartbeats 2000000
section
noncomputable section
namespace Go.YL
open Go.Lf
variable {X:Ctx} {n wm:Nat} {rd:Option Nat} {ops:Array Oper} {ol:List Oper} {fr:Fr} {ds:List Deferred} {h h0:H} {ty:TypeId} {p:String} {af:Array Edge} {g:Option (Nat×Bool)} {T:Nat ->Prop} {G Gr:List (Ast wm)} {d l df:Nat} {LO:Xk} {ps:Array Tmp} {Yx bd:Code}
theorem Ziv {α β:Type} {body:α ->(α ->Option β) ->Option β} (C:α ->β ->Prop) (hb:∀ next:α ->Option β,(∀ x r,next x=some r ->C x r) ->∀ x r,body x next=some r ->C x r):∀ F x r,loop F body x=some r ->C x r:=by
 intro F
 induction F with
 | zero=>intro x r h;cases h
 | succ F ih=>intro x r h;exact hb _ ih x r h
def dne (c:Code):Xk ->Xk
 | .loop _ _ fr n ps Yx bd df=>.loop .done (some c) fr n ps Yx bd df
 | A=>A
def lst (b:Bool) (c:Code) (A:Xk):Xk:=bif b then dne c A else A
inductive ZuA:XX ->Code ->Prop
 | ret:ZuA .ret .ret
 | exit (id:Nat):ZuA (.exit id) (.exit id)
structure BdS (n lo l:Nat) (fr:Fr) (ps:Array Tmp) (Yx bd:Code) (df:Nat) (R:Bool ->H ->Prop) (e:XX) (s:Fs):Prop where
 out:s.h.at l= .loop .busy none fr n ps Yx bd df∧
  ((e= .normal∧∀ h',(lo <=l ->Up lo (fun i=>i=l) s.h h') ->h'.at l= .loop .ready none fr n ps Yx bd df ->R true h')∨
   (∃ c,ZuA e c∧∀ h',(lo <=l ->Up lo (fun i=>i=l) s.h h') ->h'.at l= .loop .done (some c) fr n ps Yx bd df ->R false h'))
structure AsS (X:Ctx) (n wm lo l:Nat) (fr:Fr) (ps:Array Tmp) (Yx bd:Code) (df:Nat) (R:Bool ->H ->Prop) (e:XX) (s:Fs):Prop where
 out:e= .normal∧s.h.at l= .loop .ready none fr n ps Yx bd df∧∀ h1,(lo <=l ->Up lo (fun i=>i=l) s.h h1) ->h1.at l= .loop .busy none fr n ps Yx bd df ->WC X n wm (some l) bd ⟨s.fr,s.ds,h1,s.wr⟩ (BdS n lo l fr ps Yx bd df R)
theorem ZsS.mkS {l:Nat} {args:List Value} {fr fr1:Fr} {ps:Array Tmp} {Yx bd:Code} {df:Nat} {R:Bool ->H ->Prop} (lo:Nat) (hat:h.at l= .loop .ready none fr n ps Yx bd df) (hw:wm <=l) (hl:Nat.beq args.length ps.toList.length=true) (hs:Ql (ps.toList.zip args) n fr=some fr1)
 (k:WC X n wm (some l) Yx ⟨fr1,[],h,none⟩ (AsS X n wm lo l fr ps Yx bd df R)):ZsS X l args.toArray wm h R:=by
 obtain⟨e1,s1,⟨rfl,h1,k1⟩,j1⟩:=k;have o1:(s1.h.at l).own=true:=by rw [h1];rfl
 have s1l:=XB h1 rfl;obtain⟨e2,s2,⟨h2,k2⟩,j2⟩:=k1 (s1.h.put l (.loop .busy none fr n ps Yx bd df)) (fun hl=>Up.put hl o1) (Yy s1l _);have o2:(s2.h.at l).own=true:=by rw [h2];rfl
 have s2l:=XB h2 rfl
 have key:∃ b A,R b (s2.h.put l A)∧WQ l e2 s2=some (.fin (.ret (.bool b)) (s2.h.put l A)):=by
  rcases k2 with⟨rfl,k2⟩ | ⟨c,hx,k2⟩
  ·refine⟨true,_,k2 _ (fun hl=>Up.put hl o2) (Yy s2l _),?_⟩;unfold WQ;rw [h2]
  ·refine⟨false,_,k2 _ (fun hl=>Up.put hl o2) (Yy s2l _),?_⟩;unfold WQ;rw [h2];cases hx <;> rfl
 obtain⟨b,A,hR,hev⟩:=key;refine⟨b,s2.h.put l A,hR,?_⟩
 classical
 let ih:QV ->Option YW:=fun j=>if j= .code Yx n wm (some l) ⟨fr1,[],h,none⟩ then some (.code .normal s1) else Zap (.code bd n wm (some l) {s1 with h:=s1.h.put l (.loop .busy none fr n ps Yx bd df)}) (.code e2 s2) j
 have HI:∀ j r,ih j=some r ->YN X j r:=by
  intro j r e;dsimp only [ih] at e;split at e
  ·rename_i hj;cases e;rw [hj];exact j1
  ·exact Uo (X:=X) j2 j r e
 refine Zar (C:=cfg X fun _=>false) (ih:=ih) HI ?_;unfold Zc7;rw [hat];have hl':Nat.beq args.toArray.toList.length ps.toList.length=true:=hl;dsimp only;rw [Nm0 hw,hl'];simp only [Bool.and_self,Cq1];have hs':Ql (ps.toList.zip args.toArray.toList) n fr=some fr1:=hs;rw [hs'];dsimp only;have i1:ih (.code Yx n wm (some l) {fr:=fr1,ds:= [],h:=h})=some (.code .normal s1):=by dsimp only [ih];rw [if_pos rfl]
 rw [i1];show KY ih l bd n wm .normal s1=_;unfold KY;dsimp only;rw [h1];dsimp only
 have i2:ih (.code bd n wm (some l) {s1 with h:=s1.h.put l (.loop .busy none fr n ps Yx bd df)})=some (.code e2 s2):=by
  dsimp only [ih];split
  ·rename_i hj;exfalso;injection hj with _ _ _ _ hs
   have:({s1 with h:=s1.h.put l (.loop .busy none fr n ps Yx bd df)}:Fs).h.at l=h.at l:=by rw [hs]
   dsimp only at this;rw [Yy s1l,hat] at this;cases this
  ·exact Uq _ _
 rw [i2];exact hev
theorem WO.ZQg {Q:XX ->Fs ->Prop} {fo:Operand} {xs:Array Operand} {ts:Array TypeId} {vs:List Value} {n2:Nat} {Qr fr1:Fr} {as2 bd2:Code} (hg:Ym ops ⟨some d,.call {callee:= .value fo,args:=xs,argTypes:=ts},ty,p,af,g⟩ fr) (hd:Nat.blt d n=true) (hf:Yr fr fo=some (.func (.yield l) #[] #[])) (hx:evs (Yr fr) xs.toList=some vs)
 (hS:Sp wm T h0 G h) (pk:Pk G (ob wm l LO) Gr) (hLO:LO= .loop .ready none Qr n2 ps as2 bd2 df) (hl:Nat.beq vs.length ps.toList.length=true) (hs:Ql (ps.toList.zip vs) n2 Qr=some fr1)
 (k:WC X n2 wm (some l) as2 ⟨fr1,[],h,none⟩ (AsS X n2 wm wm l Qr ps as2 bd2 df (fun b h'=>WO X n wm rd ops ol ⟨Tr.set fr d (.bool b),ds,h',none⟩ Q))):
 WO X n wm rd ops (⟨some d,.call {callee:= .value fo,args:=xs,argTypes:=ts},ty,p,af,g⟩::ol) ⟨fr,ds,h,none⟩ Q:=by
 obtain⟨h1,h2,h3⟩:=hS.get pk;have hat:=h1.trans hLO;exact WO.yld hg hd hf hx hat (Nb0 hl) (ZsS.mkS (lo:=wm) hat h2 hl hs k) fun b h' hk=>hk
theorem AsS.sp {Qr:Fr} {R:Bool ->H ->Prop} (hLO:LO= .loop .ready none fr n ps Yx bd df) (hS:Sp wm T h0 G h) (pk:Pk G (ob wm l LO) Gr) (k:∀ h1,Sp wm T h0 (ob wm l (bsy LO)::Gr) h1 ->WC X n wm (some l) bd ⟨Qr,ds,h1,none⟩ (BdS n wm l fr ps Yx bd df R)):AsS X n wm wm l fr ps Yx bd df R .normal ⟨Qr,ds,h,none⟩:=by
 obtain⟨h1,h2,h3⟩:=hS.get pk;refine⟨⟨rfl,h1.trans hLO,fun h' u e=>k h' ?_⟩⟩;exact hS.one pk (u h2) (fun _ q=>q) ⟨by rw [e,hLO];rfl,h2,by rw [hLO];rfl⟩ fun _ q=>.inl q
theorem BdS.sp {Qr:Fr} {R:Bool ->H ->Prop} (hLO:LO= .loop .ready none fr n ps Yx bd df) (hS:Sp wm T h0 G h) (pk:Pk G (ob wm l (bsy LO)) Gr) (k:∀ h1,Sp wm T h0 (ob wm l LO::Gr) h1 ->R true h1):BdS n wm l fr ps Yx bd df R .normal ⟨Qr,ds,h,none⟩:=by
 obtain⟨h1,h2,h3⟩:=hS.get pk;refine⟨⟨h1.trans (by rw [hLO];rfl),.inl ⟨rfl,fun h' u e=>k h' ?_⟩⟩⟩;exact hS.one pk (u h2) (fun _ q=>q) ⟨by rw [e,hLO],h2,by rw [hLO];rfl⟩ fun _ q=>.inl q
theorem BdS.stop {Qr:Fr} {R:Bool ->H ->Prop} {e:XX} {c:Code} (hx:ZuA e c) (hLO:LO= .loop .ready none fr n ps Yx bd df) (hS:Sp wm T h0 G h) (pk:Pk G (ob wm l (bsy LO)) Gr) (k:∀ h1,Sp wm T h0 (ob wm l (lst true c LO)::Gr) h1 ->R false h1):BdS n wm l fr ps Yx bd df R e ⟨Qr,ds,h,none⟩:=by
 obtain⟨h1,h2,h3⟩:=hS.get pk;refine⟨⟨h1.trans (by rw [hLO];rfl),.inr ⟨c,hx,fun h' u e=>k h' ?_⟩⟩⟩;exact hS.one pk (u h2) (fun _ q=>q) ⟨by rw [e,hLO];rfl,h2,by rw [hLO];rfl⟩ fun _ q=>.inl q
structure RgS (X:Ctx) (wm l:Nat) (fr:Fr) (n:Nat) (ps:Array Tmp) (Yx bd:Code) (df:Nat) (ds:List Deferred) (Q:XX ->Fs ->Prop) (h:H):Prop where
 low:wm <=l
 k:(h.at l= .loop .ready none fr n ps Yx bd df∧∀ h',Up wm (fun i=>i=l) h h' ->Q .normal ⟨fr,⟨.collected df,#[]⟩::ds,h',none⟩)∨
  (∃ c,h.at l= .loop .done (some c) fr n ps Yx bd df∧∀ h',Up wm (fun i=>i=l) h h' ->WC X n wm none c ⟨fr,⟨.collected df,#[]⟩::ds,h',none⟩ Q)
theorem RgS.sp {Q:XX ->Fs ->Prop} (hLO:LO= .loop .ready none fr n ps Yx bd df) (hS:Sp wm T h0 G h) (pk:Pk G (ob wm l LO) Gr) (k:∀ h',Sp wm T h0 Gr h' ->Q .normal ⟨fr,⟨.collected df,#[]⟩::ds,h',none⟩):RgS X wm l fr n ps Yx bd df ds Q h:=by
 obtain⟨h1,h2,h3⟩:=hS.get pk;refine⟨h2,.inl ⟨h1.trans hLO,fun h' u=>k h' ?_⟩⟩;exact Sp.step (Ga:= [ob wm l LO]) (Gb:= []) (hS.perm pk.perm) u (fun i e=>⟨_,List.mem_singleton.2 rfl,e⟩) Yh.nil fun i ⟨A,m,f⟩=>by simp at m
theorem RgS.stop {Q:XX ->Fs ->Prop} {c:Code} (hLO:LO= .loop .ready none fr n ps Yx bd df) (hS:Sp wm T h0 G h) (pk:Pk G (ob wm l (lst true c LO)) Gr) (k:∀ h',Sp wm T h0 Gr h' ->WC X n wm none c ⟨fr,⟨.collected df,#[]⟩::ds,h',none⟩ Q):RgS X wm l fr n ps Yx bd df ds Q h:=by
 obtain⟨h1,h2,h3⟩:=hS.get pk;refine⟨h2,.inr ⟨c,h1.trans (by rw [hLO];rfl),fun h' u=>k h' ?_⟩⟩;exact Sp.step (Ga:= [ob wm l (lst true c LO)]) (Gb:= []) (hS.perm pk.perm) u (fun i e=>⟨_,List.mem_singleton.2 rfl,e⟩) Yh.nil fun i ⟨A,m,f⟩=>by simp at m
theorem WC.ZGI {Q:XX ->Fs ->Prop} {gg:Operand} {f:FuncId} {first cap:List Value} (hS:Sp wm T h0 G h) (hg:Yr fr gg=some (.func (.func f) first.toArray cap.toArray)) (hf:(X.fns.get f).isSome=true)
 (k:∀ h' l df LO,LO=Xk.loop .ready none fr n ps Yx bd df ->Sp wm T h0 (ob wm l LO::ob wm df .deferred::G) h' ->WR X f (first ++ ([Value.func (.yield l) #[] #[]] ++ cap)).toArray wm h' (fun _ h2=>RgS X wm l fr n ps Yx bd df ds Q h2)):
 WC X n wm none (.rangeFunc gg ps Yx bd) ⟨fr,ds,h,none⟩ Q:=by
 have s1:Sp wm T h0 (ob wm h.size .deferred::G) (h.push .deferred):=Zmj rfl hS
 have s2:Sp wm T h0 (ob wm (h.size + 1) (.loop .ready none fr n ps Yx bd h.size)::ob wm h.size .deferred::G) ((h.push .deferred).push (.loop .ready none fr n ps Yx bd h.size)):=by
  have:=Zmj (A:= .loop .ready none fr n ps Yx bd h.size) rfl s1
  rwa [H.size_push] at this
 obtain⟨fn,hf⟩:=Option.isSome_iff_exists.1 hf;obtain⟨e,h3,⟨v,rfl,hr⟩,hj⟩:=k _ _ _ _ rfl s2
 have hac:Kk (cfg X fun _=>false).X ((h.push .deferred).push (.loop .ready none fr n ps Yx bd h.size)) (.func (.func f) first.toArray cap.toArray) [Value.func (.yield (h.size + 1)) #[] #[]]=some (.enter f (first ++ ([Value.func (.yield (h.size + 1)) #[] #[]] ++ cap)).toArray,.none):=by
  unfold Kk;have:(cfg X fun _=>false).X.fns.get f=some fn:=hf;dsimp only;rw [this];simp only [List.append_assoc]
 rcases hr.k with⟨hat,hk⟩ | ⟨c,hat,hk⟩
 ·refine⟨.normal,_,hk (h3.put (h.size + 1) (.loop .exhausted none fr n ps Yx bd h.size)) (Up.put hr.low (by rw [hat];rfl)),?_⟩;refine Xz.2 (Wv (C:=cfg X fun _=>false) (ih:=Zap (.call f _ wm _) (.fin (.ret v) h3)) (Uo hj) ?_);show Qs (cfg X fun _=>false) _ gg n wm none (h.size + 1) ⟨fr,⟨.collected h.size,#[]⟩::ds,(h.push .deferred).push (.loop .ready none fr n ps Yx bd h.size),none⟩=_;unfold Qs;dsimp only;rw [hg];dsimp only;rw [hac];dsimp only;unfold UU;rw [Uq];dsimp only;rw [hat]
  rfl
 ·obtain⟨e2,s2,hq,hj2⟩:=hk (h3.put (h.size + 1) (.loop .exhausted (some c) fr n ps Yx bd h.size)) (Up.put hr.low (by rw [hat];rfl));refine⟨e2,s2,hq,?_⟩
  classical
  let ih:QV ->Option YW:=fun j=>if j= .code c n wm none ⟨fr,⟨.collected h.size,#[]⟩::ds,h3.put (h.size + 1) (.loop .exhausted (some c) fr n ps Yx bd h.size),none⟩ then some (.code e2 s2) else Zap (.call f (first ++ ([Value.func (.yield (h.size + 1)) #[] #[]] ++ cap)).toArray wm ((h.push .deferred).push (.loop .ready none fr n ps Yx bd h.size))) (.fin (.ret v) h3) j
  have HI:∀ j r,ih j=some r ->YN X j r:=by
   intro j r e;dsimp only [ih] at e;split at e
   ·rename_i hj';cases e;rw [hj'];exact hj2
   ·exact Uo (X:=X) hj j r e
  refine Xz.2 (Wv (C:=cfg X fun _=>false) (ih:=ih) HI ?_);show Qs (cfg X fun _=>false) _ gg n wm none (h.size + 1) ⟨fr,⟨.collected h.size,#[]⟩::ds,(h.push .deferred).push (.loop .ready none fr n ps Yx bd h.size),none⟩=_;unfold Qs;dsimp only;rw [hg];dsimp only;rw [hac];dsimp only;unfold UU
  have i1:ih (.call f (first ++ ([Value.func (.yield (h.size + 1)) #[] #[]] ++ cap)).toArray wm ((h.push .deferred).push (.loop .ready none fr n ps Yx bd h.size)))=some (.fin (.ret v) h3):=by
   dsimp only [ih];split
   ·rename_i hj';cases hj'
   ·exact Uq _ _
  rw [i1];dsimp only;rw [hat];show ih (.code c n wm none _)=_;dsimp only [ih];rw [if_pos rfl]
theorem ZnV {ev:Operand ->Option Value} {d:Option Tmp} {f:FuncId} {xs ys:Array Operand} {vs us:List Value} (hy:evs ev ys.toList=some us) (hx:evs ev xs.toList=some vs):XJ X h ev ⟨d,.makeFunc (.func f) ys xs,ty,p,af,g⟩=some (.val (.func (.func f) us.toArray vs.toArray),.none):=by
 show(bif ZhV (.func f) then none else match evs ev ys.toList,evs ev xs.toList with | some vs,some us=>some (AN.val (.func (.func f) vs.toArray us.toArray),Eff.none) | _,_=>none)=_;rw [hx,hy];rfl
theorem Zuv {x:Operand} {t kt vt:TypeId} {κ ν:Type} {kv:κ ->Value} {vv:ν ->Value} {m:Option Nat} {ll:List (κ×ν)} (hu:X.P.underlying t=some (.map kt vt)) (hx:Yr fr x=some (.map m)) (hm:MapAt kv vv h m ll):
 XJ X h (Yr fr) ⟨some d,.call {callee:= .builtin .len,args:=#[x],argTypes:=#[t]},ty,p,af,g⟩=some (.val (.int .i64 (ll.length:Int)),.none):=by
 have he:evs (Yr fr) [x]=some [.map m]:=Zf hx Zz;rw [Uy]
 show(match evs (Yr fr) [x] with
  | some args=>WT X.P h .len #[t] ty args
  | none=>none)=_
 rw [he];show vN (ZsK X.P h t (.map m))=_;unfold ZsK;rw [hu];dsimp only;rcases hm.mem with⟨rfl,rfl⟩ | ⟨i,bs,clk,rfl,h1,h2,_⟩
 ·rfl
 ·unfold ZgQ;dsimp only;rw [h1];dsimp only;unfold Uf;rw [List.length_zipWith,h2,Nat.min_self]
  rfl
theorem Zxb {κ ν:Type} [DecidableEq κ] {kv:κ ->Value} {vv:ν ->Value} {kt vt:TypeId} {i:Nat} {ll:List (κ×ν)} {t:TypeId} {x y z:Operand} {k:κ} {v:ν} (hS:Sp wm T h0 G h) (pk:Pk G (mp wm kv vv (some i) ll) Gr) (K:Zee X.P kt kv) (hu:X.P.underlying t=some (.map kt vt)) (hx:Yr fr x=some (.map (some i))) (hy:Yr fr y=some (kv k)) (hz:Yr fr z=some (vv v)):
 HU X wm ⟨none,.insert t x y z,ty,p,af,g⟩ fr h (fun j=>j=i) (fun h'=>Sp wm T h0 (mp wm kv vv (some i) (UB ll k v)::Gr) h'):=
 ZoO (ty:=ty) (p:=p) (af:=af) (g:=g) hS pk K hu hx hy hz
section
variable {sf:ST} {m:Nat}
theorem WX.Zbh {Q:Fr ->H ->Prop} {o:Oper} {c:Bool} (_:Zt ops o fr c) (h1:c=true ->WX X n wm rd ops sf m h (o::ol) fr Q) (h2:c=false ->WX X n wm rd ops sf m h (o::ol) fr Q):WX X n wm rd ops sf m h (o::ol) fr Q:=by
 cases c
 ·exact h2 rfl
 ·exact h1 rfl
theorem Sp.djs {T0:Nat ->Prop} {G Ga Gr:List (Ast wm)} {B:Ast wm} (s:Sp wm T0 h0 G h) (p:Sel G (B::Ga) Gr):∀ x,Qg Ga x ->¬ B.fp x:=fun x ⟨A,hA,fa⟩ fb=>
 (List.pairwise_cons.1 (s.ZhX p).dis).1 A hA x fb fa
inductive Lk (ops:Array Oper) (m:Nat) (R:Nat ->Prop):List (Nat×(Nat ->Prop)) ->Prop
 | n:Lk ops m R []
 | o {q:Nat×(Nat ->Prop)} {r:List (Nat×(Nat ->Prop))} (h:comp (Qj ops.toList 0 []) q.1 m=true):Lk ops m R r ->Lk ops m R (q::r)
 | d {q:Nat×(Nat ->Prop)} {r:List (Nat×(Nat ->Prop))} (h:∀ x,q.2 x ->¬ R x):Lk ops m R r ->Lk ops m R (q::r)
theorem Lk.get {R:Nat ->Prop} {r:List (Nat×(Nat ->Prop))} (h:Lk ops m R r):∀ q ∈ r,Cmp ops q.1 m∨∀ x,q.2 x ->¬ R x:=by
 induction h with
 | n=>intro q hq;simp at hq
 | o h1 _ ih=>intro q hq;rcases List.mem_cons.1 hq with z | z
              ·subst z;exact .inl h1
              ·exact ih q z
 | d h1 _ ih=>intro q hq;rcases List.mem_cons.1 hq with z | z
              ·subst z;exact .inr h1
              ·exact ih q z
theorem WX.wrM {Q:Fr ->H ->Prop} {T0:Nat ->Prop} {G:List (Ast wm)} {op:Op} {v:Value} (R:Nat ->Prop) (hS:Sp wm T0 h0 G h) (hg:Ym ops ⟨some d,op,ty,p,af,g⟩ fr) (hd:Nat.blt d n=true) (ha:∀ g':H,g'.size=h.size ->(∀ x,R x ->g'.at x=h.at x) ->XJ X g' (Yr fr) ⟨some d,op,ty,p,af,g⟩=some (.val v,.none))
 (k:∀ h',h'.size=h.size ->Sp wm T0 h0 G h' ->WX X n wm rd ops ⟨(m,fun x=>¬ R x)::sf.s,sf.m,sf.p⟩ (m + 1) h' ol (Tr.set fr d v) Q) (hh:Yk ⟨some d,op,ty,p,af,g⟩=false) (hM:Lk ops m R sf.m):
 WX X n wm rd ops sf m h (⟨some d,op,ty,p,af,g⟩::ol) fr Q:=by
 have hsz:(Qi (Xu h R) h (mask (Xu h R) h)).size=h.size:=by rw [Xb,ZU]
 have hvv:∀ x,¬ R x ->VV h (Qi (Xu h R) h (mask (Xu h R) h)) (Xu h R) x:=fun x hx=>by
  rcases Nat.lt_or_ge x h.size with z | z
  ·exact .inl ⟨z,Zbe.2 ⟨z,hx⟩⟩
  ·exact .inr (by rw [hsz];exact z)
 refine⟨fun hb=>WE.cons (T:=fun _=>False) (xs0:=Xu h R) (h2:=Qi (Xu h R) h (mask (Xu h R) h)) (v:=v) [(m,fun x=>¬ R x)] [] none ?_ (fun q hq=>?_) (fun _ z=>z.elim) (fun _ z=>z.elim) (fun hh q hq=>(hM.get q hq).imp id fun z x hx=>hvv x (z x hx)) (fun x j C z=>by cases z) ((k _ hsz (hS.up (Up.hide wm _ h))).out fun q hq x hx=>by rw [hsz];exact hb q hq x hx)⟩
 ·have:=ZbX (wm:=wm) (rd:=rd) hg (.inl (ha _ (ZU _ _) fun x hx=>ZyS hx)) (h1:=mask (Xu h R) h) rfl;have t0:(fun x:Nat=>Eff.tgt Eff.none=some x)=fun _=>False:=by funext x;simp [Eff.tgt]
  rw [t0] at this;exact⟨fun hw=>⟨_,rfl,this.1,this.2.1 (by rw [ZU];exact hw)⟩,fun _ z=>z.elim,fun d' e=>(by cases e;rwa [Nat.blt_eq] at hd),fun q=>Bool.noConfusion (hh.symm.trans q),fun _ z=>z.elim⟩
 ·rw [List.mem_singleton.1 hq];exact⟨rfl,fun x hx=>hvv x hx⟩
theorem WX.ZbK {Q:Fr ->H ->Prop} {op:Op} {c:Bool} (hg:Zt ops ⟨some d,op,ty,p,af,g⟩ fr c) (hc:c=false) (hd:Nat.blt d n=true) (k:WX X n wm rd ops sf (m + 1) h ol (Tr.set fr d undef) Q) (hM:okM ops sf m ⟨some d,op,ty,p,af,g⟩=true):WX X n wm rd ops sf m h (⟨some d,op,ty,p,af,g⟩::ol) fr Q:=WX.off (hg.off hc) hd k hM
end
theorem ZEf {β:Type} {b:Bool} {x:Option β} {r:β} (h:(bif b then none else x)=some r):b=false∧x=some r:=by
 cases b
 ·exact⟨rfl,h⟩
 ·cases h
theorem Zbo (b:Bool):b=true∨b=false:=by cases b <;> simp
end Go.YL
end
end
section
end
section
namespace Go.Proofs.YtbmbbcaaimehkaaGreat
structure Zw where
 here:Bool
 Z9:Int
 age:Int
 deriving DecidableEq,Inhabited
structure Zr where
 msg:Int
 place:Int
 from_:Int
 age:Int
 hops:Int
 deriving DecidableEq,Inhabited
structure Zd where
 kind:Int
 Z9:Int
 Ya:Zr
 qV:(List Int)
 Yj:(List Int)
 place:Int
 at_:Int
 age:Int
 deriving DecidableEq,Inhabited
structure Zb where
 Zv:(List Int)
 qK:(List (List Int))
 qQ:(List (List Zw))
 qJ:(List (List Zr))
 qG:(List Zd)
 said:Int
 deriving DecidableEq,Inhabited
structure Zx where
 deed:Int
 place:Int
 at_:Int
 n:Int
 hops:Int
 deriving DecidableEq,Inhabited
structure ZC where
 act:Int
 a:Int
 b:Int
 deriving DecidableEq,Inhabited
structure XI where
 at_:Int
 age:Int
 letter:Int
 is:Bool
 deriving DecidableEq,Inhabited
structure Yo where
 machine:Int
 here:Bool
 age:Int
 deriving DecidableEq,Inhabited
structure ZX where
 Za:Zb
 Y7:(List Yo)
 deriving DecidableEq,Inhabited
structure Z4 where
 Za:Zb
 qX:(List Zx)
 deriving DecidableEq,Inhabited
def UW (x y:Zw):Bool:= [x.here==y.here,x.Z9==y.Z9,x.age==y.age].all id
def JE (x y:Zr):Bool:= [x.msg==y.msg,x.place==y.place,x.from_==y.from_,x.age==y.age,x.hops==y.hops].all id
def Zfc (x y:Yo):Bool:= [x.machine==y.machine,x.here==y.here,x.age==y.age].all id
def ZJD:Option Bool:=some true
def Zr8 (p0:List Int):Option (List Int):=bif Nat.ble p0.length 1000000 then some (p0.mergeSort fun x y=>decide (x <=y)) else none
end Go.Proofs.YtbmbbcaaimehkaaGreat
end
section
set_option maxRecDepth 100000
noncomputable section
namespace Go.Proofs.YtbmbbcaaimehkaaGreat
open Go.YL Go.Lf
def Zc:JP Zw where
 sz:=3
 pos:=by decide
 K8:=Unit
 dflt:= ()
 sh:=fun _ x=>[.bool x.here,.int .i64 x.Z9,.int .i64 x.age]
 len:=fun _ _=>rfl
 one:=fun _ _=>rfl
 F:=fun _ _ _ _=>True
 mono:=fun _ x=>x
 up:=fun _ x=>x
def Zg:JP Zr where
 sz:=5
 pos:=by decide
 K8:=Unit
 dflt:= ()
 sh:=fun _ x=>[.int .i64 x.msg,.int .i64 x.place,.int .i64 x.from_,.int .i64 x.age,.int .i64 x.hops]
 len:=fun _ _=>rfl
 one:=fun _ _=>rfl
 F:=fun _ _ _ _=>True
 mono:=fun _ x=>x
 up:=fun _ x=>x
def Ze:JP Zd where
 sz:=12
 pos:=by decide
 K8:= (Option Addr×Nat)×(Option Addr×Nat)
 dflt:= ((none,0),(none,0))
 sh:=fun p x=>[.int .i64 x.kind,.int .i64 x.Z9,.int .i64 x.Ya.msg,.int .i64 x.Ya.place,.int .i64 x.Ya.from_,.int .i64 x.Ya.age,.int .i64 x.Ya.hops,.slice p.1.1 x.qV.length p.1.2,.slice p.2.1 x.Yj.length p.2.2,.int .i64 x.place,.int .i64 x.at_,.int .i64 x.age]
 len:=fun _ _=>rfl
 one:=fun _ _=>rfl
 F:=fun wm h p x=>Sl (Zu .i64) wm h p.1.1 p.1.2 x.qV∧Sl (Zu .i64) wm h p.2.1 p.2.2 x.Yj
 mono:=fun f ⟨y0,y1⟩=>⟨y0.mono f,y1.mono f⟩
 up:=fun f ⟨y0,y1⟩=>⟨y0.up f,y1.up f⟩
def Zo1:JP Zb where
 sz:=6
 pos:=by decide
 K8:= (Option Addr×Nat)×(Option Addr×Nat)×(Option Addr×Nat)×(Option Addr×Nat)×(Option Addr×Nat)
 dflt:= ((none,0),(none,0),(none,0),(none,0),(none,0))
 sh:=fun p x=>[.slice p.1.1 x.Zv.length p.1.2,.slice p.2.1.1 x.qK.length p.2.1.2,.slice p.2.2.1.1 x.qQ.length p.2.2.1.2,.slice p.2.2.2.1.1 x.qJ.length p.2.2.2.1.2,.slice p.2.2.2.2.1 x.qG.length p.2.2.2.2.2,.int .i64 x.said]
 len:=fun _ _=>rfl
 one:=fun _ _=>rfl
 F:=fun wm h p x=>Sl (Zu .i64) wm h p.1.1 p.1.2 x.Zv∧Sl (ZM (Zu .i64)) wm h p.2.1.1 p.2.1.2 x.qK∧Sl (ZM Zc) wm h p.2.2.1.1 p.2.2.1.2 x.qQ∧Sl (ZM Zg) wm h p.2.2.2.1.1 p.2.2.2.1.2 x.qJ∧Sl Ze wm h p.2.2.2.2.1 p.2.2.2.2.2 x.qG
 mono:=fun f ⟨y0,y1,y2,y3,y4⟩=>⟨y0.mono f,y1.mono f,y2.mono f,y3.mono f,y4.mono f⟩
 up:=fun f ⟨y0,y1,y2,y3,y4⟩=>⟨y0.up f,y1.up f,y2.up f,y3.up f,y4.up f⟩
def ZQ:JP Zx where
 sz:=5
 pos:=by decide
 K8:=Unit
 dflt:= ()
 sh:=fun _ x=>[.int .i64 x.deed,.int .i64 x.place,.int .i64 x.at_,.int .i64 x.n,.int .i64 x.hops]
 len:=fun _ _=>rfl
 one:=fun _ _=>rfl
 F:=fun _ _ _ _=>True
 mono:=fun _ x=>x
 up:=fun _ x=>x
def Uc:JP ZC where
 sz:=3
 pos:=by decide
 K8:=Unit
 dflt:= ()
 sh:=fun _ x=>[.int .i64 x.act,.int .i64 x.a,.int .i64 x.b]
 len:=fun _ _=>rfl
 one:=fun _ _=>rfl
 F:=fun _ _ _ _=>True
 mono:=fun _ x=>x
 up:=fun _ x=>x
def Zb5:JP XI where
 sz:=4
 pos:=by decide
 K8:=Unit
 dflt:= ()
 sh:=fun _ x=>[.int .i64 x.at_,.int .i64 x.age,.int .i64 x.letter,.bool x.is]
 len:=fun _ _=>rfl
 one:=fun _ _=>rfl
 F:=fun _ _ _ _=>True
 mono:=fun _ x=>x
 up:=fun _ x=>x
def XE:JP Yo where
 sz:=3
 pos:=by decide
 K8:=Unit
 dflt:= ()
 sh:=fun _ x=>[.int .i64 x.machine,.bool x.here,.int .i64 x.age]
 len:=fun _ _=>rfl
 one:=fun _ _=>rfl
 F:=fun _ _ _ _=>True
 mono:=fun _ x=>x
 up:=fun _ x=>x
theorem ZCm:XX.P.underlying 4=some .bool:=Kq0
theorem YE:XX.P.underlying 22=some (.slice 3):=Kq0
theorem Zbx:XX.P.underlying 24=some (.slice 22):=Kq0
theorem U6:XX.P.underlying 25=some (.slice 64):=Kq0
theorem Kb:XX.P.underlying 26=some (.slice 90):=Kq0
theorem Jj:XX.P.underlying 27=some (.slice 95):=Kq0
theorem Zs7:XX.P.underlying 41=some (.slice 67):=Kq0
theorem Zs6:XX.P.underlying 46=some (.slice 40):=Kq0
theorem Zih:XX.P.underlying 54=some (.map 3 3):=Kq0
theorem U5:XX.P.underlying 64=some (.slice 63):=Kq0
theorem ZaB:XX.P.underlying 90=some (.slice 92):=Kq0
theorem WV:XX.P.underlying 102=some (.slice 104):=Kq0
theorem Zl5:XX.P.underlying 110=some (.slice 4):=Kq0
theorem Zii:XX.P.underlying 124=some (.slice 120):=Kq0
theorem ZfE:XX.P.underlying 143=some (.map 93 142):=Kq0
theorem Xn:YO XX.P 3=some false:=Kq0
theorem Zwb:YO XX.P 4=some false:=Kq0
theorem ZdA:YO XX.P 22=some false:=Kq0
theorem ZBo:YO XX.P 24=some false:=Kq0
theorem Zuy:YO XX.P 25=some false:=Kq0
theorem Zux:YO XX.P 26=some false:=Kq0
theorem ZBn:YO XX.P 27=some false:=Kq0
theorem Zkn:YO XX.P 29=some true:=Kq0
theorem ZbG:YO XX.P 30=some false:=Kq0
theorem ZGa:YO XX.P 38=some false:=Kq0
theorem ZF9:YO XX.P 40=some true:=Kq0
theorem ZBm:YO XX.P 41=some false:=Kq0
theorem ZlS:YO XX.P 63=some true:=Kq0
theorem WS:YO XX.P 64=some false:=Kq0
theorem ZPp:YO XX.P 65=some false:=Kq0
theorem ZPo:YO XX.P 67=some true:=Kq0
theorem ZbF:YO XX.P 90=some false:=Kq0
theorem Zkm:YO XX.P 92=some true:=Kq0
theorem ZPn:YO XX.P 93=some false:=Kq0
theorem Zak:YO XX.P 95=some true:=Kq0
theorem Zko:YO XX.P 104=some true:=Kq0
theorem ZJZ:YO XX.P 116=some false:=Kq0
theorem Zn3:YO XX.P 120=some true:=Kq0
theorem ZBp:YO XX.P 124=some false:=Kq0
theorem YF:Yq XX.P 3=some 1:=Kq0
theorem ZoI:Yq XX.P 4=some 1:=Kq0
theorem JR:Yq XX.P 22=some 1:=Kq0
theorem ZGE:Yq XX.P 24=some 1:=Kq0
theorem ZGD:Yq XX.P 25=some 1:=Kq0
theorem ZGC:Yq XX.P 26=some 1:=Kq0
theorem Zmc:Yq XX.P 27=some 1:=Kq0
theorem Zan:Yq XX.P 29=some 6:=Kq0
theorem ZGB:Yq XX.P 30=some 1:=Kq0
theorem Zim:Yq XX.P 40=some 3:=Kq0
theorem Zmb:Yq XX.P 41=some 1:=Kq0
theorem XD:Yq XX.P 63=some 3:=Kq0
theorem Q5:Yq XX.P 64=some 1:=Kq0
theorem Zma:Yq XX.P 67=some 5:=Kq0
theorem QR:Yq XX.P 90=some 1:=Kq0
theorem JQ:Yq XX.P 92=some 5:=Kq0
theorem Y2:Yq XX.P 95=some 12:=Kq0
theorem Qe:Yq XX.P 104=some 4:=Kq0
theorem ZCw:Yq XX.P 116=some 1:=Kq0
theorem Wt:Yq XX.P 120=some 3:=Kq0
theorem ZD1:ZK XX.P 29 0 0:=ZK.of Kq0
theorem ZD0:ZK XX.P 29 1 1:=ZK.of Kq0
theorem ZDZ:ZK XX.P 29 2 2:=ZK.of Kq0
theorem ZDY:ZK XX.P 29 3 3:=ZK.of Kq0
theorem Zh0:ZK XX.P 29 4 4:=ZK.of Kq0
theorem ZDX:ZK XX.P 29 5 5:=ZK.of Kq0
theorem ZDW:ZK XX.P 40 0 0:=ZK.of Kq0
theorem ZDV:ZK XX.P 40 1 1:=ZK.of Kq0
theorem Zuc:ZK XX.P 40 2 2:=ZK.of Kq0
theorem ZDU:ZK XX.P 63 0 0:=ZK.of Kq0
theorem ZDT:ZK XX.P 63 1 1:=ZK.of Kq0
theorem ZDS:ZK XX.P 63 2 2:=ZK.of Kq0
theorem ZDR:ZK XX.P 67 0 0:=ZK.of Kq0
theorem ZDQ:ZK XX.P 67 1 1:=ZK.of Kq0
theorem ZDP:ZK XX.P 67 2 2:=ZK.of Kq0
theorem ZDO:ZK XX.P 67 3 3:=ZK.of Kq0
theorem ZDN:ZK XX.P 67 4 4:=ZK.of Kq0
theorem ZDM:ZK XX.P 92 0 0:=ZK.of Kq0
theorem ZDL:ZK XX.P 92 1 1:=ZK.of Kq0
theorem ZDK:ZK XX.P 92 2 2:=ZK.of Kq0
theorem ZDJ:ZK XX.P 92 3 3:=ZK.of Kq0
theorem ZDI:ZK XX.P 92 4 4:=ZK.of Kq0
theorem ZDH:ZK XX.P 95 0 0:=ZK.of Kq0
theorem ZDG:ZK XX.P 95 1 1:=ZK.of Kq0
theorem ZDF:ZK XX.P 95 2 2:=ZK.of Kq0
theorem ZDE:ZK XX.P 95 3 7:=ZK.of Kq0
theorem ZmX:ZK XX.P 95 4 8:=ZK.of Kq0
theorem ZDD:ZK XX.P 95 5 9:=ZK.of Kq0
theorem Zub:ZK XX.P 95 6 10:=ZK.of Kq0
theorem Zua:ZK XX.P 95 7 11:=ZK.of Kq0
theorem Ze5:ZK XX.P 100 0 0:=ZK.of Kq0
theorem Ze4:ZK XX.P 100 1 6:=ZK.of Kq0
theorem ZAh:ZK XX.P 104 0 0:=ZK.of Kq0
theorem ZAg:ZK XX.P 104 1 1:=ZK.of Kq0
theorem ZAf:ZK XX.P 104 2 2:=ZK.of Kq0
theorem ZAe:ZK XX.P 104 3 3:=ZK.of Kq0
theorem ZAd:ZK XX.P 120 0 0:=ZK.of Kq0
theorem ZAc:ZK XX.P 120 1 1:=ZK.of Kq0
theorem ZAb:ZK XX.P 120 2 2:=ZK.of Kq0
theorem ZAa:ZK XX.P 126 0 0:=ZK.of Kq0
theorem Zz9:ZK XX.P 126 1 6:=ZK.of Kq0
theorem Zbv:Y1 XX.P 3=some (.int .i64 0):=Kq0
theorem ZES:Y1 XX.P 4=some (.bool false):=Kq0
theorem ZqP:Y1 XX.P 22=some (.slice none 0 0):=Kq0
theorem ZqO:Y1 XX.P 29=some (.agg #[.slice none 0 0,.slice none 0 0,.slice none 0 0,.slice none 0 0,.slice none 0 0,.int .i64 0]):=Kq0
theorem ZGj:Y1 XX.P 30=some (.int .i64 0):=Kq0
theorem ZGi:Y1 XX.P 40=some (.agg #[.int .i64 0,.int .i64 0,.int .i64 0]):=Kq0
theorem Zid:Y1 XX.P 63=some (.agg #[.bool false,.int .i64 0,.int .i64 0]):=Kq0
theorem Zwz:Y1 XX.P 64=some (.slice none 0 0):=Kq0
theorem Zic:Y1 XX.P 67=some (.agg #[.int .i64 0,.int .i64 0,.int .i64 0,.int .i64 0,.int .i64 0]):=Kq0
theorem Zwy:Y1 XX.P 90=some (.slice none 0 0):=Kq0
theorem Zib:Y1 XX.P 92=some (.agg #[.int .i64 0,.int .i64 0,.int .i64 0,.int .i64 0,.int .i64 0]):=Kq0
theorem ZdC:Y1 XX.P 95=some (.agg #[.int .i64 0,.int .i64 0,.int .i64 0,.int .i64 0,.int .i64 0,.int .i64 0,.int .i64 0,.slice none 0 0,.slice none 0 0,.int .i64 0,.int .i64 0,.int .i64 0]):=Kq0
theorem Zs0:Y1 XX.P 100=some (.agg #[.slice none 0 0,.slice none 0 0,.slice none 0 0,.slice none 0 0,.slice none 0 0,.int .i64 0,.slice none 0 0]):=Kq0
theorem ZlV:Y1 XX.P 104=some (.agg #[.int .i64 0,.int .i64 0,.int .i64 0,.bool false]):=Kq0
theorem ZB4:Y1 XX.P 116=some (.nilFunc):=Kq0
theorem ZlU:Y1 XX.P 120=some (.agg #[.int .i64 0,.bool false,.int .i64 0]):=Kq0
theorem ZsZ:Y1 XX.P 126=some (.agg #[.slice none 0 0,.slice none 0 0,.slice none 0 0,.slice none 0 0,.slice none 0 0,.int .i64 0,.slice none 0 0]):=Kq0
theorem ZhK:Y1 XX.P 142=some (.nilFunc):=Kq0
theorem Zut:Wz XX.P 29 [.slice none 0 0,.slice none 0 0,.slice none 0 0,.slice none 0 0,.slice none 0 0,.int .i64 0] [(0,1),(1,1),(2,1),(3,1),(4,1),(5,1)]:= ⟨_,_,ZqO,rfl,Tryz.underlying29,by kernel_rfl⟩
theorem Zus:Wz XX.P 63 [.bool false,.int .i64 0,.int .i64 0] [(0,1),(1,1),(2,1)]:= ⟨_,_,Zid,rfl,Tryz.underlying63,by kernel_rfl⟩
theorem ZA1:Wz XX.P 67 [.int .i64 0,.int .i64 0,.int .i64 0,.int .i64 0,.int .i64 0] [(0,1),(1,1),(2,1),(3,1),(4,1)]:= ⟨_,_,Zic,rfl,Tryz.underlying67,by kernel_rfl⟩
theorem ZF6:Wz XX.P 92 [.int .i64 0,.int .i64 0,.int .i64 0,.int .i64 0,.int .i64 0] [(0,1),(1,1),(2,1),(3,1),(4,1)]:= ⟨_,_,Zib,rfl,Tryz.underlying92,by kernel_rfl⟩
theorem Zur:Wz XX.P 95 [.int .i64 0,.int .i64 0,.int .i64 0,.int .i64 0,.int .i64 0,.int .i64 0,.int .i64 0,.slice none 0 0,.slice none 0 0,.int .i64 0,.int .i64 0,.int .i64 0] [(0,1),(1,1),(2,5),(7,1),(8,1),(9,1),(10,1),(11,1)]:= ⟨_,_,ZdC,rfl,Tryz.underlying95,by kernel_rfl⟩
theorem ZA3:Wz XX.P 100 [.slice none 0 0,.slice none 0 0,.slice none 0 0,.slice none 0 0,.slice none 0 0,.int .i64 0,.slice none 0 0] [(0,6),(6,1)]:= ⟨_,_,Zs0,rfl,Tryz.underlying100,by kernel_rfl⟩
theorem ZA2:Wz XX.P 104 [.int .i64 0,.int .i64 0,.int .i64 0,.bool false] [(0,1),(1,1),(2,1),(3,1)]:= ⟨_,_,ZlV,rfl,Tryz.underlying104,by kernel_rfl⟩
theorem Zsz:Wz XX.P 120 [.int .i64 0,.bool false,.int .i64 0] [(0,1),(1,1),(2,1)]:= ⟨_,_,ZlU,rfl,Tryz.underlying120,by kernel_rfl⟩
theorem ZJU:Wz XX.P 126 [.slice none 0 0,.slice none 0 0,.slice none 0 0,.slice none 0 0,.slice none 0 0,.int .i64 0,.slice none 0 0] [(0,6),(6,1)]:= ⟨_,_,ZsZ,rfl,Tryz.underlying126,by kernel_rfl⟩
theorem QX:Za1 XX.P #[22,22] 1 8:= ⟨3,.int .i64 0,by kernel_rfl⟩
theorem ZBe:Za1 XX.P #[24,24] 1 24:= ⟨22,.slice none 0 0,by kernel_rfl⟩
theorem ZBd:Za1 XX.P #[25,25] 1 24:= ⟨64,.slice none 0 0,by kernel_rfl⟩
theorem ZBc:Za1 XX.P #[26,26] 1 24:= ⟨90,.slice none 0 0,by kernel_rfl⟩
theorem ZcG:Za1 XX.P #[27,27] 12 128:= ⟨95,.agg #[.int .i64 0,.int .i64 0,.int .i64 0,.int .i64 0,.int .i64 0,.int .i64 0,.int .i64 0,.slice none 0 0,.slice none 0 0,.int .i64 0,.int .i64 0,.int .i64 0],by kernel_rfl⟩
theorem Zkl:Za1 XX.P #[41,41] 5 40:= ⟨67,.agg #[.int .i64 0,.int .i64 0,.int .i64 0,.int .i64 0,.int .i64 0],by kernel_rfl⟩
theorem ZBb:Za1 XX.P #[64,64] 3 24:= ⟨63,.agg #[.bool false,.int .i64 0,.int .i64 0],by kernel_rfl⟩
theorem Zkk:Za1 XX.P #[90,90] 5 40:= ⟨92,.agg #[.int .i64 0,.int .i64 0,.int .i64 0,.int .i64 0,.int .i64 0],by kernel_rfl⟩
theorem ZOH (x y:Zw):ZBI XX.P 63 (Zc.sh () x) (Zc.sh () y) (UW x y):=
 ⟨by kernel_rfl,Zgx (d:=9999) (bs:= [x.here==y.here,x.Z9==y.Z9,x.age==y.age]) Tryz.underlying63 Kq0 ⟨⟨by decide,_,_,YQ Kq0 rfl,YQ Kq0 rfl,ZnH Kq0⟩,⟨by decide,_,_,YQ Kq0 rfl,YQ Kq0 rfl,eq_int Kq0⟩,⟨by decide,_,_,YQ Kq0 rfl,YQ Kq0 rfl,eq_int Kq0⟩,trivial⟩⟩
theorem ZF0 (x y:Zr):ZBI XX.P 92 (Zg.sh () x) (Zg.sh () y) (JE x y):=
 ⟨by kernel_rfl,Zgx (d:=9999) (bs:= [x.msg==y.msg,x.place==y.place,x.from_==y.from_,x.age==y.age,x.hops==y.hops]) Tryz.underlying92 Kq0 ⟨⟨by decide,_,_,YQ Kq0 rfl,YQ Kq0 rfl,eq_int Kq0⟩,⟨by decide,_,_,YQ Kq0 rfl,YQ Kq0 rfl,eq_int Kq0⟩,⟨by decide,_,_,YQ Kq0 rfl,YQ Kq0 rfl,eq_int Kq0⟩,⟨by decide,_,_,YQ Kq0 rfl,YQ Kq0 rfl,eq_int Kq0⟩,⟨by decide,_,_,YQ Kq0 rfl,YQ Kq0 rfl,eq_int Kq0⟩,trivial⟩⟩
theorem ZJE (x y:Yo):ZBI XX.P 120 (XE.sh () x) (XE.sh () y) (Zfc x y):=
 ⟨by kernel_rfl,Zgx (d:=9999) (bs:= [x.machine==y.machine,x.here==y.here,x.age==y.age]) Tryz.underlying120 Kq0 ⟨⟨by decide,_,_,YQ Kq0 rfl,YQ Kq0 rfl,eq_int Kq0⟩,⟨by decide,_,_,YQ Kq0 rfl,YQ Kq0 rfl,ZnH Kq0⟩,⟨by decide,_,_,YQ Kq0 rfl,YQ Kq0 rfl,eq_int Kq0⟩,trivial⟩⟩
theorem Zye:Zee XX.P 3 (Value.int .i64):=Zee.int Kq0
theorem ZlC:Zee XX.P 93 (Value.int .i64):=Zee.int Kq0
theorem ZPa:Zbn XX.P 4=some 1:=Kq0
theorem ZEr:Zbn XX.P 104=some 32:=Kq0
theorem ZEq:Zbn XX.P 120=some 24:=Kq0
theorem ZFL:(XX.fns.get 14).isSome=true:=Kq0
theorem ZMR:(XX.fns.get 19).isSome=true:=Kq0
theorem Zy2:(XX.fns.get 21).isSome=true:=Kq0
theorem ZMQ:(XX.fns.get 25).isSome=true:=Kq0
theorem ZMP:(XX.fns.get 28).isSome=true:=Kq0
theorem ZMO:(XX.fns.get 29).isSome=true:=Kq0
theorem ZMN:(XX.fns.get 30).isSome=true:=Kq0
theorem ZMM:(XX.fns.get 31).isSome=true:=Kq0
theorem ZML:(XX.fns.get 35).isSome=true:=Kq0
theorem ZFK:(XX.fns.get 36).isSome=true:=Kq0
theorem ZMK:(XX.fns.get 41).isSome=true:=Kq0
theorem ZMJ:(XX.fns.get 47).isSome=true:=Kq0
theorem ZMI:(XX.fns.get 48).isSome=true:=Kq0
theorem ZFJ:(XX.fns.get 49).isSome=true:=Kq0
theorem ZMH:(XX.fns.get 50).isSome=true:=Kq0
theorem ZMG:(XX.fns.get 51).isSome=true:=Kq0
theorem ZMF:(XX.fns.get 52).isSome=true:=Kq0
theorem Zy1:(XX.fns.get 53).isSome=true:=Kq0
theorem ZFI:(XX.fns.get 54).isSome=true:=Kq0
theorem ZME:(XX.fns.get 55).isSome=true:=Kq0
theorem ZMD:(XX.fns.get 63).isSome=true:=Kq0
theorem ZMC:(XX.fns.get 64).isSome=true:=Kq0
theorem ZFH:(XX.fns.get 65).isSome=true:=Kq0
theorem Zhn:(XX.fns.get 67).isSome=true:=Kq0
theorem ZMB:(XX.fns.get 68).isSome=true:=Kq0
theorem ZMA:(XX.fns.get 69).isSome=true:=Kq0
theorem ZMz:(XX.fns.get 70).isSome=true:=Kq0
theorem ZMy:(XX.fns.get 71).isSome=true:=Kq0
theorem ZMx:(XX.fns.get 72).isSome=true:=Kq0
theorem ZMw:(XX.fns.get 73).isSome=true:=Kq0
theorem ZFG:(XX.fns.get 74).isSome=true:=Kq0
theorem ZtZ:(XX.fns.get 75).isSome=true:=Kq0
theorem ZFF:(XX.fns.get 76).isSome=true:=Kq0
theorem Zy0:(XX.fns.get 77).isSome=true:=Kq0
theorem ZyZ:(XX.fns.get 78).isSome=true:=Kq0
theorem ZFE:(XX.fns.get 79).isSome=true:=Kq0
theorem ZtY:(XX.fns.get 80).isSome=true:=Kq0
theorem ZMv:(XX.fns.get 81).isSome=true:=Kq0
theorem ZMu:(XX.fns.get 82).isSome=true:=Kq0
theorem ZMt:(XX.fns.get 83).isSome=true:=Kq0
theorem ZFD:(XX.fns.get 84).isSome=true:=Kq0
theorem ZMs:(XX.fns.get 85).isSome=true:=Kq0
theorem ZMr:(XX.fns.get 86).isSome=true:=Kq0
theorem ZMq:(XX.fns.get 87).isSome=true:=Kq0
theorem ZMp:(XX.fns.get 88).isSome=true:=Kq0
theorem ZMo:(XX.fns.get 89).isSome=true:=Kq0
theorem ZMn:(XX.fns.get 90).isSome=true:=Kq0
theorem ZMm:(XX.fns.get 91).isSome=true:=Kq0
theorem ZMl:(XX.fns.get 92).isSome=true:=Kq0
theorem ZyY:(XX.fns.get 93).isSome=true:=Kq0
theorem ZFB:(XX.fns.get 94).isSome=true:=Kq0
theorem ZyX:(XX.fns.get 95).isSome=true:=Kq0
theorem ZFA:(XX.fns.get 96).isSome=true:=Kq0
theorem ZyW:(XX.fns.get 97).isSome=true:=Kq0
theorem Zja:(XX.fns.get 98).isSome=true:=Kq0
theorem ZMk:(XX.fns.get 99).isSome=true:=Kq0
theorem Zy4:(XX.fns.get 100).isSome=true:=Kq0
theorem ZHw:(XX.fns.get 101).isSome=true:=Kq0
theorem ZHv:(XX.fns.get 102).isSome=true:=Kq0
theorem Zy3:(XX.fns.get 103).isSome=true:=Kq0
theorem ZHu:(XX.fns.get 104).isSome=true:=Kq0
theorem ZHt:(XX.fns.get 105).isSome=true:=Kq0
theorem ZHs:(XX.fns.get 106).isSome=true:=Kq0
theorem ZHr:(XX.fns.get 109).isSome=true:=Kq0
end Go.Proofs.YtbmbbcaaimehkaaGreat
end
end
section
noncomputable section
namespace Go.YL
open Go.Lf
class ZcM (P:Program) (t:TypeId):Prop where
 out:YO P t=some false
class Zoe (P:Program) (t:TypeId):Prop where
 out:YO P t=some true
class SzF (P:Program) (t:TypeId) (n:outParam Nat):Prop where
 out:Yq P t=some n
class QB (P:Program) (t:TypeId) (f:Nat) (o:outParam Nat):Prop where
 out:ZK P t f o
class ZgT (P:Program) (t:TypeId) (e:outParam TypeId):Prop where
 out:P.underlying t=some (.slice e)
class ZKa (P:Program) (t:TypeId):Prop where
 out:P.underlying t=some .bool
class Zbt (P:Program) (t:TypeId) (v:outParam Value):Prop where
 out:Y1 P t=some v
theorem ia {v:Value} (h:JB v=false):JB v=false:=h
theorem Zac {fr:Fr} {t:Nat} {c:Bool} {v:Value} (h:fr.at t=cond c v undef) (ha:JB v=false) (hc:c=true):Yr fr (.tmp t)=some v:=Y4 h ha hc
section
variable {X:Ctx} {h:H} {fr:Fr} {ty:TypeId} {p':String} {af:Array Edge} {g:Option (Nat×Bool)} {d:Option Tmp} {wm:Nat} {T:Nat ->Prop} {h0:H} {G Gr:List (Ast wm)}
theorem ZPf {x:Operand} {t:TypeId} {f off b o:Nat} [hf:QB X.P t f off] (hx:Yr fr x=some (.pointer (some ⟨b,o,none⟩))):XJ X h (Yr fr) ⟨d,.fieldAddr t x f,ty,p',af,g⟩=some (.val (.pointer (some ⟨b,o + off,none⟩)),.none):=Ui hf.out hx
theorem ZTy {x:Operand} {t:TypeId} {b oo:Nat} {vs:List Value} {v:Value} [ht:ZcM X.P t] (hx:Yr fr x=some (.pointer (some ⟨b,oo,none⟩))) (hS:Sp wm T h0 G h) (pp:Pk G (bx wm b vs) Gr) (hv:vs[oo]? =some v):
 XJ X h (Yr fr) ⟨d,.load t x,ty,p',af,g⟩=some (.val v,.none):=ZW ht.out hx (hS.atB pp) (Nat.zero_add _).symm hv
theorem ZPe {x:Operand} {t:TypeId} {b oo sz:Nat} {vs ws:List Value} [ht:Zoe X.P t] [hs:SzF X.P t sz] (hx:Yr fr x=some (.pointer (some ⟨b,oo,none⟩))) (hS:Sp wm T h0 G h) (pp:Pk G (bx wm b vs) Gr) (hj:Nat.ble (oo + sz) vs.length=true) (hv:(vs.drop oo).take sz=ws):
 XJ X h (Yr fr) ⟨d,.load t x,ty,p',af,g⟩=some (.val (.agg ws.toArray),.none):=Xf ht.out hs.out hx (hS.atB pp) (Nat.zero_add _).symm hj hv
theorem ZPg {dd:Tmp} {x:Operand} {t:TypeId} {v:Value} {vs:List Value} (hx:Yr fr x=some v) (hS:Sp wm T h0 G h) (hv:v.cells.toList=vs):
 HN X wm ⟨some dd,.box t x,ty,p',af,g⟩ fr h (fun v h'=>∃ b,h.size=b∧v= .pointer (some ⟨b,0,none⟩)∧Sp wm T h0 (bx wm b vs::G) h'):=ZE3 hS hx hv
theorem ZPh {dd:Tmp} {t:TypeId} {v:Value} {vs:List Value} [hz:Zbt X.P t v] (hS:Sp wm T h0 G h) (hv:v.cells.toList=vs):
 HN X wm ⟨some dd,.alloc t,ty,p',af,g⟩ fr h (fun v h'=>∃ b,h.size=b∧v= .pointer (some ⟨b,0,none⟩)∧Sp wm T h0 (bx wm b vs::G) h'):=Zth hS hz.out hv
theorem ZTx {x y:Operand} {t:TypeId} {b o sz:Nat} {cs cs' vs:List Value} {v:Value} [hs:SzF X.P t sz] (hx:Yr fr x=some (.pointer (some ⟨b,o,none⟩))) (hS:Sp wm T h0 G h) (pk:Pk G (bx wm b cs) Gr) (hy:Yr fr y=some v)
 (hvs:v.cells.toList=vs) (hn:Nat.beq vs.length sz=true) (hl:Nat.ble (o + sz) cs.length=true) (hc:vs.all Value.oneCell'=true) (hv:splice cs o vs=cs'):
 HU X wm ⟨none,.store t x y,ty,p',af,g⟩ fr h (fun i=>i=b) (fun h'=>Sp wm T h0 (bx wm b cs'::Gr) h'):=ZaI hS pk hs.out hx hy hvs hn hl hc hv
theorem ZPd {x:Operand} {t e':TypeId} {a:Option Addr} {mm cc dd:Nat} [hu:ZgT X.P t e'] (hx:Yr fr x=some (.slice a mm cc)):
 XJ X h (Yr fr) ⟨some dd,.call {callee:= .builtin .len,args:=#[x],argTypes:=#[t]},ty,p',af,g⟩=some (.val (.int .i64 (mm:Int)),.none):=Zdd hu.out hx rfl
end
section
variable {X:Ctx} {n wm:Nat} {rd:Option Nat} {ops:Array Oper} {l:List Oper} {fr:Fr} {ds:List Deferred} {h:H} {ty:TypeId} {p:String} {af:Array Edge} {g:Option (Nat×Bool)} {sf:ST} {m:Nat}
theorem WX.w2 {Q:Fr ->H ->Prop} {d:Nat} {op:Op} {v:Value} (hg:Ym ops ⟨some d,op,ty,p,af,g⟩ fr) (hd:Nat.blt d n=true) (hM:okM ops sf m ⟨some d,op,ty,p,af,g⟩=true) (ha:XJ X h (Yr fr) ⟨some d,op,ty,p,af,g⟩=some (.val v,.none)) (k:WX X n wm rd ops sf (m + 1) h l (Tr.set fr d v) Q):
 WX X n wm rd ops sf m h (⟨some d,op,ty,p,af,g⟩::l) fr Q:=WX.w hg hd ha k hM
theorem WX.gv2 {Q:Fr ->H ->Prop} {d:Nat} {op:Op} {c:Bool} {v:Value} (hg:Zt ops ⟨some d,op,ty,p,af,g⟩ fr c) (hd:Nat.blt d n=true) (hM:okM ops sf m ⟨some d,op,ty,p,af,g⟩=true) (ha:c=true ->XJ X h (Yr fr) ⟨some d,op,ty,p,af,g⟩=some (.val v,.none)) (k:WX X n wm rd ops sf (m + 1) h l (Tr.set fr d (cond c v undef)) Q):
 WX X n wm rd ops sf m h (⟨some d,op,ty,p,af,g⟩::l) fr Q:=WX.gv hg hd ha k hM
end
structure Kp (q:Prop):Prop where
 out:q
section
variable {X:Ctx} {n wm:Nat} {rd:Option Nat} {Q:XX ->Fs ->Prop}
theorem E0 {p:Prop}(h:p:=by(focus (repeat (first | with_reducible exact fh | ((with_reducible apply Xa);exact rfl) | ((with_reducible apply Y5);exact rfl) | ((with_reducible apply YG);exact rfl) | ((with_reducible apply Zy);exact rfl) | with_reducible assumption));first|done|fail)):p:=h
theorem cn {c:Operand} {a b:Code} {t:Bool} {fr:Fr} {ds:List Deferred} {h:H} {α:Type} {x y r:α} (hL:(bif t then x else y)=r) (h1:t=true ->x=r ->WC X n wm rd a ⟨fr,ds,h,none⟩ Q) (h2:t=false ->y=r ->WC X n wm rd b ⟨fr,ds,h,none⟩ Q) (hc:Yr fr c=some (.bool t):=by(first | exact evC rfl | (apply Yi;exact E0;(first | exact ia rfl | assumption)) | (apply Zac;exact E0;(first | exact ia rfl | assumption);assumption) | fail)):WC X n wm rd (.cond c a b) ⟨fr,ds,h,none⟩ Q:=
 WC.ZOX hc (fun e=>h1 e (JL e hL)) (fun e=>h2 e (JM e hL))
theorem rt {fn:Func} {fr:Fr} {h h0:H} {T:Nat ->Prop} {G G':List (Ast wm)} {wr:Option Nat} {t:Tmp} {β:Type} {x r:β} {g:β ->Value} (hL:some x=some r) (hT:T=Qg G) (hS:Sp wm T h0 G' h) (hr:fn.results.toList= [.tmp t]:=by exact rfl) (hv:Yr fr (.tmp t)=some (g x):=by(first | exact evC rfl | (apply Yi;exact E0;(first | exact ia rfl | assumption)) | (apply Zac;exact E0;(first | exact ia rfl | assumption);assumption) | fail)):
 Yl X fn (fun e h'=>∃ v,e= .ret v∧CP (fun v Gb=>v=g r∧Gb= []) G h0 v h') .ret ⟨fr,[],h,wr⟩:=by
 cases hL;exact Yl.X0 hr (ZP hv ZA) ⟨_,⟨rfl,rfl⟩,hT ▸ hS.only .n⟩
theorem bg {f:FuncId} {fn:Func} {c:Code} {args:List Value} {n:Nat} {K:Value ->List (Ast wm) ->Prop} {G:List (Ast wm)} {h:H} {fr:Fr} (hnt:fn.ntmps=n) (Z0:wm <=h.size) (hO:Yh G h)
 (k:∀ T,T=Qg (wm:=wm) G ->Sp wm T h G h ->WC X n wm none c ⟨fr,[],h,none⟩ (Yl X fn (fun e h'=>∃ v,e= .ret v∧CP K G h v h'))) (hf:X.fns.get f=some fn:=by kernel_rfl) (hb:fn.body=some c:=by exact rfl) (hn:args.length <=n:=by simp)
 (hfr:Qf args 0 .nil=fr:=by(simp only [ZY,Z8,Nat.reduceAdd];exact rfl)):WR X f args.toArray wm h (CP K G h):=by
 subst hfr;exact WF.begin hf hb hnt hn (k _ rfl (Sp.start Z0 hO))
end
theorem lk {p:Prop} (h:p:=by(first | exact evC rfl | (apply Yi;exact E0;(first | exact ia rfl | assumption)) | (apply Zac;exact E0;(first | exact ia rfl | assumption);assumption) | fail)):p:=h
theorem lks {p:Prop} (h:p:=by
 repeat (first | exact Zz | (apply Zf;(focus (first | exact evC rfl | (apply Yi;exact E0;(first | exact ia rfl | assumption)) | (apply Zac;exact E0;(first | exact ia rfl | assumption);assumption) | fail);done)))
 done):p:=h
theorem YA {p:Prop} (h:p:=by
 repeat (first | with_reducible exact fh | ((with_reducible apply Xa);exact rfl) | ((with_reducible apply Y5);exact rfl) | ((with_reducible apply YG);exact rfl) | ((with_reducible apply Zy);exact rfl) | with_reducible assumption | refine⟨?_,?_⟩)
 done):p:=h
theorem r1 {p q:Prop} (k:q) (h:Kp q ->p:=by
 intro k
 first
 | refine WO.nil ?_
 | refine Zle.YZ ?_
 | refine WC.seq ?_
 | refine WC.region ?_
 | ((first | apply WO.w gN rfl | (apply WO.gv;(focus (first | (apply Zt.yes rfl rfl rfl;exact E0) | (apply Zt.no rfl rfl rfl;exact E0) | (apply Zt.ZkB rfl rfl rfl;exact E0) | (apply Zt.no2 rfl rfl rfl;exact E0) | fail);done);rfl;intro hg) | (apply WX.w2 gN;rfl;rfl) | (apply WX.gv2;(focus (first | (apply Zt.yes rfl rfl rfl;exact E0) | (apply Zt.no rfl rfl rfl;exact E0) | (apply Zt.ZkB rfl rfl rfl;exact E0) | (apply Zt.no2 rfl rfl rfl;exact E0) | fail);done);rfl;rfl;intro hg));(focus (first
   | ((with_reducible apply ZEv);(first | exact evC rfl | (apply Yi;exact E0;(first | exact ia rfl | assumption)) | (apply Zac;exact E0;(first | exact ia rfl | assumption);assumption) | fail))
   | ((with_reducible apply ZTy);(focus (first | exact evC rfl | (apply Yi;exact E0;(first | exact ia rfl | assumption)) | (apply Zac;exact E0;(first | exact ia rfl | assumption);assumption) | fail);done);assumption;(focus (first | exact k0 | exact k1 | exact k2 | exact k3 | exact k4 | exact k5 | exact k6 | exact k7 | (repeat (first | exact k7 | apply Pk.s)));done);rfl)
   | ((with_reducible apply ZPf);(first | exact evC rfl | (apply Yi;exact E0;(first | exact ia rfl | assumption)) | (apply Zac;exact E0;(first | exact ia rfl | assumption);assumption) | fail))
   | ((with_reducible apply Uv);(first | exact evC rfl | (apply Yi;exact E0;(first | exact ia rfl | assumption)) | (apply Zac;exact E0;(first | exact ia rfl | assumption);assumption) | fail))
   | ((with_reducible apply Uj);(focus (first | exact evC rfl | (apply Yi;exact E0;(first | exact ia rfl | assumption)) | (apply Zac;exact E0;(first | exact ia rfl | assumption);assumption) | fail);done);(focus (first | exact evC rfl | (apply Yi;exact E0;(first | exact ia rfl | assumption)) | (apply Zac;exact E0;(first | exact ia rfl | assumption);assumption) | fail);done);(first | with_reducible exact Zwi | with_reducible exact ZBx | with_reducible exact ZBt | with_reducible exact ZBs | with_reducible exact Zwd | with_reducible exact ZBv | with_reducible exact ZBw | with_reducible exact ZBu | with_reducible exact Zwg | with_reducible exact Zwh ZKa.out | with_reducible exact Zdf ZKa.out))
   | ((with_reducible apply ZPe);(focus (first | exact evC rfl | (apply Yi;exact E0;(first | exact ia rfl | assumption)) | (apply Zac;exact E0;(first | exact ia rfl | assumption);assumption) | fail);done);assumption;(focus (first | exact k0 | exact k1 | exact k2 | exact k3 | exact k4 | exact k5 | exact k6 | exact k7 | (repeat (first | exact k7 | apply Pk.s)));done);rfl;(focus simp only [Nat.zero_add,Nat.reduceAdd,List.drop_succ_cons,List.drop_zero,List.take_succ_cons,List.take_zero,List.take_nil];rfl))
   | ((with_reducible apply ZPd);(first | exact evC rfl | (apply Yi;exact E0;(first | exact ia rfl | assumption)) | (apply Zac;exact E0;(first | exact ia rfl | assumption);assumption) | fail))
   | ((with_reducible apply ZsB);(focus (first | exact evC rfl | (apply Yi;exact E0;(first | exact ia rfl | assumption)) | (apply Zac;exact E0;(first | exact ia rfl | assumption);assumption) | fail);done);rfl)
   | ((with_reducible apply Zkg);(first | exact evC rfl | (apply Yi;exact E0;(first | exact ia rfl | assumption)) | (apply Zac;exact E0;(first | exact ia rfl | assumption);assumption) | fail))
   | ((with_reducible apply Zd7);(first | exact evC rfl | (apply Yi;exact E0;(first | exact ia rfl | assumption)) | (apply Zac;exact E0;(first | exact ia rfl | assumption);assumption) | fail))
   | ((with_reducible apply Zkh);(focus (first | exact evC rfl | (apply Yi;exact E0;(first | exact ia rfl | assumption)) | (apply Zac;exact E0;(first | exact ia rfl | assumption);assumption) | fail);done);(focus (apply ZOE;exact E0);done);(first | exact evC rfl | (apply Yi;exact E0;(first | exact ia rfl | assumption)) | (apply Zac;exact E0;(first | exact ia rfl | assumption);assumption) | fail))
   | ((with_reducible apply Zqs);(focus (first | exact evC rfl | (apply Yi;exact E0;(first | exact ia rfl | assumption)) | (apply Zac;exact E0;(first | exact ia rfl | assumption);assumption) | fail);done);(focus (first | exact evC rfl | (apply Yi;exact E0;(first | exact ia rfl | assumption)) | (apply Zac;exact E0;(first | exact ia rfl | assumption);assumption) | fail);done);(apply ZOE;exact E0))
   | fail)))
 | (apply WO.hu gN;(focus (first | (((with_reducible apply ZTx));(focus (first | exact evC rfl | (apply Yi;exact E0;(first | exact ia rfl | assumption)) | (apply Zac;exact E0;(first | exact ia rfl | assumption);assumption) | fail);done);assumption;(focus (first | exact k0 | exact k1 | exact k2 | exact k3 | exact k4 | exact k5 | exact k6 | exact k7 | (repeat (first | exact k7 | apply Pk.s)));done);(focus (first | exact evC rfl | (apply Yi;exact E0;(first | exact ia rfl | assumption)) | (apply Zac;exact E0;(first | exact ia rfl | assumption);assumption) | fail);done);(focus (first | (simp only [ZgH,Zd6,Zcx,ZgF,ZgG,ZgJ,Zbm,cells_func,Zat,K4,Zcy];exact rfl) | exact rfl));exact rfl;exact rfl;exact rfl;(focus simp only [splice,List.take_succ_cons,List.take_zero,List.drop_succ_cons,List.drop_zero,List.cons_append,List.nil_append,List.append_nil,List.length_cons,List.length_nil,Nat.reduceAdd,Nat.zero_add,List.take_nil,List.drop_nil];exact rfl)) | fail)))
 | (apply WO.hn gN rfl;(focus (first | (((with_reducible apply ZPg));(focus (first | exact evC rfl | (apply Yi;exact E0;(first | exact ia rfl | assumption)) | (apply Zac;exact E0;(first | exact ia rfl | assumption);assumption) | fail);done);assumption;(focus (first | (simp only [ZgH,Zd6,Zcx,ZgF,ZgG,ZgJ,Zbm,cells_func,Zat,K4,Zcy];exact rfl) | exact rfl))) | (((with_reducible apply ZPh));assumption;(focus (first | (simp only [ZgH,Zd6,Zcx,ZgF,ZgG,ZgJ,Zbm,cells_func,Zat,K4,Zcy];exact rfl) | exact rfl))) | fail)))
 | refine WC.skip ?_
 | refine WC.ret ?_
 | refine WC.block ?_
 | refine WC.exit ?_
 | refine Zle.ret ?_
 | refine Zle.exit ?_
 | refine U4.ret ?_
 | refine U4.YZ ?_
 | refine U4.here ?_
 | refine Yc.exit ?_
 | refine Yc.ret ?_
 | refine WX.nil ?_
 | fail
 exact k.out):p:=h ⟨k⟩
theorem r2 {p q:Prop} (k:q) (h:Kp q ->p:=by
 intro k
 iterate 2 (refine r1 ?_)
 exact k.out):p:=h ⟨k⟩
theorem r3 {p q:Prop} (k:q) (h:Kp q ->p:=by
 intro k
 iterate 3 (refine r1 ?_)
 exact k.out):p:=h ⟨k⟩
theorem r4 {p q:Prop} (k:q) (h:Kp q ->p:=by
 intro k
 iterate 4 (refine r1 ?_)
 exact k.out):p:=h ⟨k⟩
theorem r6 {p q:Prop} (k:q) (h:Kp q ->p:=by
 intro k
 iterate 6 (refine r1 ?_)
 exact k.out):p:=h ⟨k⟩
theorem r8 {p q:Prop} (k:q) (h:Kp q ->p:=by
 intro k
 iterate 8 (refine r1 ?_)
 exact k.out):p:=h ⟨k⟩
theorem XA {p q:Prop} (k:q) (h:Kp q ->p:=by
 intro k
 iterate 12 (refine r1 ?_)
 exact k.out):p:=h ⟨k⟩
theorem r16 {p q:Prop} (k:q) (h:Kp q ->p:=by
 intro k
 iterate 16 (refine r1 ?_)
 exact k.out):p:=h ⟨k⟩
end Go.YL
end
end
section
noncomputable section
namespace Go.Proofs.YtbmbbcaaimehkaaGreat
open Go.YL Go.Lf
abbrev cM (x:Zr):List Value:= [.int .i64 x.msg,.int .i64 x.place,.int .i64 x.from_,.int .i64 x.age,.int .i64 x.hops]
abbrev cS (x:ZC):List Value:= [.int .i64 x.act,.int .i64 x.a,.int .i64 x.b]
abbrev cE (x:Zw):List Value:= [.bool x.here,.int .i64 x.Z9,.int .i64 x.age]
abbrev cL (x:Zd) (a:Option Addr) (c:Nat) (b:Option Addr) (d:Nat):List Value:= [.int .i64 x.kind,.int .i64 x.Z9,.int .i64 x.Ya.msg,.int .i64 x.Ya.place,.int .i64 x.Ya.from_,.int .i64 x.Ya.age,.int .i64 x.Ya.hops,.slice a x.qV.length c,.slice b x.Yj.length d,.int .i64 x.place,.int .i64 x.at_,.int .i64 x.age]
abbrev cV (a0:Option Addr) (n0 c0:Nat) (a1:Option Addr) (n1 c1:Nat) (a2:Option Addr) (n2 c2:Nat) (a3:Option Addr) (n3 c3:Nat) (a4:Option Addr) (n4 c4:Nat) (s:Int):List Value:= [.slice a0 n0 c0,.slice a1 n1 c1,.slice a2 n2 c2,.slice a3 n3 c3,.slice a4 n4 c4,.int .i64 s]
abbrev cG (a0:Option Addr) (n0 c0:Nat) (a1:Option Addr) (n1 c1:Nat) (a2:Option Addr) (n2 c2:Nat) (a3:Option Addr) (n3 c3:Nat) (a4:Option Addr) (n4 c4:Nat) (s:Int) (a5:Option Addr) (n5 c5:Nat):List Value:= [.slice a0 n0 c0,.slice a1 n1 c1,.slice a2 n2 c2,.slice a3 n3 c3,.slice a4 n4 c4,.int .i64 s,.slice a5 n5 c5]
abbrev cW (x:Zb) (a0:Option Addr) (c0:Nat) (a1:Option Addr) (c1:Nat) (a2:Option Addr) (c2:Nat) (a3:Option Addr) (c3:Nat) (a4:Option Addr) (c4:Nat):List Value:= [.slice a0 x.Zv.length c0,.slice a1 x.qK.length c1,.slice a2 x.qQ.length c2,.slice a3 x.qJ.length c3,.slice a4 x.qG.length c4,.int .i64 x.said]
abbrev cH (x:Z4) (a0:Option Addr) (c0:Nat) (a1:Option Addr) (c1:Nat) (a2:Option Addr) (c2:Nat) (a3:Option Addr) (c3:Nat) (a4:Option Addr) (c4:Nat) (a5:Option Addr) (c5:Nat):List Value:= [.slice a0 x.Za.Zv.length c0,.slice a1 x.Za.qK.length c1,.slice a2 x.Za.qQ.length c2,.slice a3 x.Za.qJ.length c3,.slice a4 x.Za.qG.length c4,.int .i64 x.Za.said,.slice a5 x.qX.length c5]
instance:ZcM XX.P 3:= ⟨Xn⟩
instance:ZcM XX.P 4:= ⟨Zwb⟩
instance:ZcM XX.P 22:= ⟨ZdA⟩
instance:ZcM XX.P 24:= ⟨ZBo⟩
instance:ZcM XX.P 25:= ⟨Zuy⟩
instance:ZcM XX.P 26:= ⟨Zux⟩
instance:ZcM XX.P 27:= ⟨ZBn⟩
instance:Zoe XX.P 29:= ⟨Zkn⟩
instance:ZcM XX.P 30:= ⟨ZbG⟩
instance:ZcM XX.P 38:= ⟨ZGa⟩
instance:Zoe XX.P 40:= ⟨ZF9⟩
instance:ZcM XX.P 41:= ⟨ZBm⟩
instance:Zoe XX.P 63:= ⟨ZlS⟩
instance:ZcM XX.P 64:= ⟨WS⟩
instance:ZcM XX.P 65:= ⟨ZPp⟩
instance:Zoe XX.P 67:= ⟨ZPo⟩
instance:ZcM XX.P 90:= ⟨ZbF⟩
instance:Zoe XX.P 92:= ⟨Zkm⟩
instance:ZcM XX.P 93:= ⟨ZPn⟩
instance:Zoe XX.P 95:= ⟨Zak⟩
instance:Zoe XX.P 104:= ⟨Zko⟩
instance:ZcM XX.P 116:= ⟨ZJZ⟩
instance:Zoe XX.P 120:= ⟨Zn3⟩
instance:ZcM XX.P 124:= ⟨ZBp⟩
instance:SzF XX.P 3 1:= ⟨YF⟩
instance:SzF XX.P 4 1:= ⟨ZoI⟩
instance:SzF XX.P 22 1:= ⟨JR⟩
instance:SzF XX.P 24 1:= ⟨ZGE⟩
instance:SzF XX.P 25 1:= ⟨ZGD⟩
instance:SzF XX.P 26 1:= ⟨ZGC⟩
instance:SzF XX.P 27 1:= ⟨Zmc⟩
instance:SzF XX.P 29 6:= ⟨Zan⟩
instance:SzF XX.P 30 1:= ⟨ZGB⟩
instance:SzF XX.P 40 3:= ⟨Zim⟩
instance:SzF XX.P 41 1:= ⟨Zmb⟩
instance:SzF XX.P 63 3:= ⟨XD⟩
instance:SzF XX.P 64 1:= ⟨Q5⟩
instance:SzF XX.P 67 5:= ⟨Zma⟩
instance:SzF XX.P 90 1:= ⟨QR⟩
instance:SzF XX.P 92 5:= ⟨JQ⟩
instance:SzF XX.P 95 12:= ⟨Y2⟩
instance:SzF XX.P 104 4:= ⟨Qe⟩
instance:SzF XX.P 116 1:= ⟨ZCw⟩
instance:SzF XX.P 120 3:= ⟨Wt⟩
instance:QB XX.P 29 0 0:= ⟨ZD1⟩
instance:QB XX.P 29 1 1:= ⟨ZD0⟩
instance:QB XX.P 29 2 2:= ⟨ZDZ⟩
instance:QB XX.P 29 3 3:= ⟨ZDY⟩
instance:QB XX.P 29 4 4:= ⟨Zh0⟩
instance:QB XX.P 29 5 5:= ⟨ZDX⟩
instance:QB XX.P 40 0 0:= ⟨ZDW⟩
instance:QB XX.P 40 1 1:= ⟨ZDV⟩
instance:QB XX.P 40 2 2:= ⟨Zuc⟩
instance:QB XX.P 63 0 0:= ⟨ZDU⟩
instance:QB XX.P 63 1 1:= ⟨ZDT⟩
instance:QB XX.P 63 2 2:= ⟨ZDS⟩
instance:QB XX.P 67 0 0:= ⟨ZDR⟩
instance:QB XX.P 67 1 1:= ⟨ZDQ⟩
instance:QB XX.P 67 2 2:= ⟨ZDP⟩
instance:QB XX.P 67 3 3:= ⟨ZDO⟩
instance:QB XX.P 67 4 4:= ⟨ZDN⟩
instance:QB XX.P 92 0 0:= ⟨ZDM⟩
instance:QB XX.P 92 1 1:= ⟨ZDL⟩
instance:QB XX.P 92 2 2:= ⟨ZDK⟩
instance:QB XX.P 92 3 3:= ⟨ZDJ⟩
instance:QB XX.P 92 4 4:= ⟨ZDI⟩
instance:QB XX.P 95 0 0:= ⟨ZDH⟩
instance:QB XX.P 95 1 1:= ⟨ZDG⟩
instance:QB XX.P 95 2 2:= ⟨ZDF⟩
instance:QB XX.P 95 3 7:= ⟨ZDE⟩
instance:QB XX.P 95 4 8:= ⟨ZmX⟩
instance:QB XX.P 95 5 9:= ⟨ZDD⟩
instance:QB XX.P 95 6 10:= ⟨Zub⟩
instance:QB XX.P 95 7 11:= ⟨Zua⟩
instance:QB XX.P 100 0 0:= ⟨Ze5⟩
instance:QB XX.P 100 1 6:= ⟨Ze4⟩
instance:QB XX.P 104 0 0:= ⟨ZAh⟩
instance:QB XX.P 104 1 1:= ⟨ZAg⟩
instance:QB XX.P 104 2 2:= ⟨ZAf⟩
instance:QB XX.P 104 3 3:= ⟨ZAe⟩
instance:QB XX.P 120 0 0:= ⟨ZAd⟩
instance:QB XX.P 120 1 1:= ⟨ZAc⟩
instance:QB XX.P 120 2 2:= ⟨ZAb⟩
instance:QB XX.P 126 0 0:= ⟨ZAa⟩
instance:QB XX.P 126 1 6:= ⟨Zz9⟩
instance:ZgT XX.P 22 3:= ⟨YE⟩
instance:ZgT XX.P 24 22:= ⟨Zbx⟩
instance:ZgT XX.P 25 64:= ⟨U6⟩
instance:ZgT XX.P 26 90:= ⟨Kb⟩
instance:ZgT XX.P 27 95:= ⟨Jj⟩
instance:ZgT XX.P 41 67:= ⟨Zs7⟩
instance:ZgT XX.P 46 40:= ⟨Zs6⟩
instance:ZgT XX.P 64 63:= ⟨U5⟩
instance:ZgT XX.P 90 92:= ⟨ZaB⟩
instance:ZgT XX.P 102 104:= ⟨WV⟩
instance:ZgT XX.P 110 4:= ⟨Zl5⟩
instance:ZgT XX.P 124 120:= ⟨Zii⟩
instance:ZKa XX.P 4:= ⟨ZCm⟩
instance:Zbt XX.P 3 (.int .i64 0):= ⟨Zbv⟩
instance:Zbt XX.P 4 (.bool false):= ⟨ZES⟩
instance:Zbt XX.P 22 (.slice none 0 0):= ⟨ZqP⟩
instance:Zbt XX.P 29 (.agg #[.slice none 0 0,.slice none 0 0,.slice none 0 0,.slice none 0 0,.slice none 0 0,.int .i64 0]):= ⟨ZqO⟩
instance:Zbt XX.P 30 (.int .i64 0):= ⟨ZGj⟩
instance:Zbt XX.P 40 (.agg #[.int .i64 0,.int .i64 0,.int .i64 0]):= ⟨ZGi⟩
instance:Zbt XX.P 63 (.agg #[.bool false,.int .i64 0,.int .i64 0]):= ⟨Zid⟩
instance:Zbt XX.P 64 (.slice none 0 0):= ⟨Zwz⟩
instance:Zbt XX.P 67 (.agg #[.int .i64 0,.int .i64 0,.int .i64 0,.int .i64 0,.int .i64 0]):= ⟨Zic⟩
instance:Zbt XX.P 90 (.slice none 0 0):= ⟨Zwy⟩
instance:Zbt XX.P 92 (.agg #[.int .i64 0,.int .i64 0,.int .i64 0,.int .i64 0,.int .i64 0]):= ⟨Zib⟩
instance:Zbt XX.P 95 (.agg #[.int .i64 0,.int .i64 0,.int .i64 0,.int .i64 0,.int .i64 0,.int .i64 0,.int .i64 0,.slice none 0 0,.slice none 0 0,.int .i64 0,.int .i64 0,.int .i64 0]):= ⟨ZdC⟩
instance:Zbt XX.P 100 (.agg #[.slice none 0 0,.slice none 0 0,.slice none 0 0,.slice none 0 0,.slice none 0 0,.int .i64 0,.slice none 0 0]):= ⟨Zs0⟩
instance:Zbt XX.P 104 (.agg #[.int .i64 0,.int .i64 0,.int .i64 0,.bool false]):= ⟨ZlV⟩
instance:Zbt XX.P 116 (.nilFunc):= ⟨ZB4⟩
instance:Zbt XX.P 120 (.agg #[.int .i64 0,.bool false,.int .i64 0]):= ⟨ZlU⟩
instance:Zbt XX.P 126 (.agg #[.slice none 0 0,.slice none 0 0,.slice none 0 0,.slice none 0 0,.slice none 0 0,.int .i64 0,.slice none 0 0]):= ⟨ZsZ⟩
instance:Zbt XX.P 142 (.nilFunc):= ⟨ZhK⟩
end Go.Proofs.YtbmbbcaaimehkaaGreat
end
end
section
namespace Go.Proofs.YtbmbbcaaimehkaaGreat
open Go.Lf
def Zgs (p0:Zb):Int ->(Int ->Option Bool) ->Option Bool:=fun v46 ZiH=>
 (bif decide (v46 < (p0.qG.length:Int)) then(ZT p0.qG v46).bind fun x49=>(bif((decide ((x49.qV.length:Int) > 20)) || (decide ((x49.Yj.length:Int) > 20))) then some false else ZiH (Xd (v46 + 1))) else some true)
def Zgt (F:Nat) (p0:Zb):Int ->(Int ->Option Bool) ->Option Bool:=fun v34 ZiJ=>
 (bif decide (v34 < (p0.qJ.length:Int)) then(ZT p0.qJ v34).bind fun x37=>(bif decide ((x37.length:Int) > 100) then some false else ZiJ (Xd (v34 + 1))) else loop F (Zgs p0) 0)
def Zgu (F:Nat) (p0:Zb):Int ->(Int ->Option Bool) ->Option Bool:=fun v21 ZxX=>
 (bif decide (v21 < (p0.qQ.length:Int)) then(ZT p0.qQ v21).bind fun x24=>(bif decide ((x24.length:Int) > 20) then some false else ZxX (Xd (v21 + 1))) else loop F (Zgt F p0) 0)
def ZjX (F:Nat) (p0:Zb):Int ->(Int ->Option Bool) ->Option Bool:=fun v8 Ue=>
 (bif decide (v8 < (p0.qK.length:Int)) then(ZT p0.qK v8).bind fun Xw=>(bif decide ((Xw.length:Int) > 100) then some false else Ue (Xd (v8 + 1))) else loop F (Zgu F p0) 0)
def ZAL (F:Nat) (p0:Zb):Option Bool:=
 (bif(((((decide ((p0.Zv.length:Int) > 20)) || (decide ((p0.qK.length:Int) > 20))) || (decide ((p0.qQ.length:Int) > 20))) || (decide ((p0.qJ.length:Int) > 20))) || (decide ((p0.qG.length:Int) > 200))) then some false else loop F (ZjX F p0) 0)
end Go.Proofs.YtbmbbcaaimehkaaGreat
end
section
set_option maxRecDepth 20000
noncomputable section
namespace Go.Proofs.YtbmbbcaaimehkaaGreat
open Go.YL Go.Lf
theorem ZJC {F wm:Nat} {h:H} {p0:Zb} {Zi:Option Addr} {Zh:Nat} {Zk:Option Addr} {Zj:Nat} {Zq:Option Addr} {Zn:Nat} {Zp:Option Addr} {Zm:Nat} {Zo:Option Addr} {Zl:Nat} {r:Bool} (Z0:wm <=h.size) (ZB:Sl (Zu .i64) wm h Zi Zh p0.Zv) (ZN:Sl (ZM (Zu .i64)) wm h Zk Zj p0.qK) (ZL:Sl (ZM Zc) wm h Zq Zn p0.qQ) (ZO:Sl (ZM Zg) wm h Zp Zm p0.qJ) (ZJ:Sl Ze wm h Zo Zl p0.qG) (hL:ZAL F p0=some r):
 WR XX 19 #[.agg [.slice Zi p0.Zv.length Zh,.slice Zk p0.qK.length Zj,.slice Zq p0.qQ.length Zn,.slice Zp p0.qJ.length Zm,.slice Zo p0.qG.length Zl,.int .i64 p0.said].toArray] wm h (CP (fun(v:Value) (Gb:List (Ast wm))=>v= .bool r∧Gb= []) [] h):=by
 refine bg Tryz.ntmps19 Z0 Yh.nil ?_;intro T hT hS;unfold ZAL at hL;refine r3 ?_;rintro _ h2 ⟨b1,eb1,rfl,hS⟩;refine r16 ?_;refine r16 ?_;refine r4 ?_;refine cn hL ?_ ?_
 ·intro hc hL;refine r6 ?_;refine r1 ?_;exact rt hL hT hS
 ·intro hc hL;refine XA ?_;refine WC.loop (WL.lift hL (fun(v8:Int) (s:Fs)=>∃ (Wo:Fr) (h3:H),s= ⟨Wo,[],h3,none⟩∧Sp wm T h [bx wm b1 (cW p0 Zi Zh Zk Zj Zq Zn Zp Zm Zo Zl)] h3∧Wo.at 1= .pointer (some ⟨b1,0,none⟩)∧Wo.at 40= .slice Zk p0.qK.length Zj∧Wo.at 41= .int .i64 (p0.qK.length:Int)∧Wo.at 42= .int .i64 v8) ⟨_,_,rfl,hS.only (.c k0 .n),YA⟩ ?_);clear hL hS;rintro Ue v8 s ZmN hL ⟨Wo,h3,rfl,hS,e5,e6,e7,e9⟩;dsimp only [ZjX] at hL;refine r6 ?_;refine cn hL ?_ ?_
  ·intro hc hL;refine r6 ?_;obtain⟨Xw,ZhC,hL⟩:=bind_some hL;obtain⟨b12,o13,⟨a14,c15⟩,ZNe,ZOj,ZNU,ZNw⟩:=Sl.at_ ZN ZhC;refine WO.w gN rfl (ZE Zbx JR lk lk rfl ZNe ZhC) ?_;have ZUo:Sl (Zu .i64) wm h a14 c15 Xw:=ZNw;refine WO.w gN rfl (ZW ZdA (Yi fh rfl) (At.fz hS.fz ZNU ZOj) (j:=0) rfl (v:= .slice a14 Xw.length c15) rfl) ?_;refine r8 ?_;refine r2 ?_;refine cn hL ?_ ?_
   ·intro hc hL;refine r8 ?_;refine r3 ?_;exact rt hL hT hS
   ·intro hc hL;refine r6 ?_;refine r1 ?_;exact Yc.YZ (ZmN _ _ hL ⟨_,_,rfl,hS.only (.c k0 .n),YA⟩)
  ·intro hc hL;refine XA ?_;refine r3 ?_;refine WC.loop (WL.lift hL (fun(v21:Int) (s:Fs)=>∃ (Ze1:Fr) (h16:H),s= ⟨Ze1,[],h16,none⟩∧Sp wm T h [bx wm b1 (cW p0 Zi Zh Zk Zj Zq Zn Zp Zm Zo Zl)] h16∧Ze1.at 1= .pointer (some ⟨b1,0,none⟩)∧Ze1.at 51= .slice Zq p0.qQ.length Zn∧Ze1.at 52= .int .i64 (p0.qQ.length:Int)∧Ze1.at 53= .int .i64 v21) ⟨_,_,rfl,hS.only (.c k0 .n),YA⟩ ?_);clear hL hS;rintro ZxX v21 s ZDr hL ⟨Ze1,h16,rfl,hS,e18,e19,e20,e22⟩;dsimp only [Zgu] at hL;refine r6 ?_;refine cn hL ?_ ?_
   ·intro hc hL;refine r6 ?_;obtain⟨x24,hx24,hL⟩:=bind_some hL;obtain⟨b25,o26,⟨a27,c28⟩,ZNd,ZOi,ZNS,ZNt⟩:=Sl.at_ ZL hx24;refine WO.w gN rfl (ZE U6 Q5 lk lk rfl ZNd hx24) ?_;have ZUm:Sl Zc wm h a27 c28 x24:=ZNt;refine WO.w gN rfl (ZW WS (Yi fh rfl) (At.fz hS.fz ZNS ZOi) (j:=0) rfl (v:= .slice a27 x24.length c28) rfl) ?_;refine r8 ?_;refine r2 ?_;refine cn hL ?_ ?_
    ·intro hc hL;refine r8 ?_;refine r3 ?_;exact rt hL hT hS
    ·intro hc hL;refine r6 ?_;refine r1 ?_;exact Yc.YZ (ZDr _ _ hL ⟨_,_,rfl,hS.only (.c k0 .n),YA⟩)
   ·intro hc hL;refine XA ?_;refine r3 ?_;refine WC.loop (WL.lift hL (fun(v34:Int) (s:Fs)=>∃ (Zdi:Fr) (h29:H),s= ⟨Zdi,[],h29,none⟩∧Sp wm T h [bx wm b1 (cW p0 Zi Zh Zk Zj Zq Zn Zp Zm Zo Zl)] h29∧Zdi.at 1= .pointer (some ⟨b1,0,none⟩)∧Zdi.at 62= .slice Zp p0.qJ.length Zm∧Zdi.at 63= .int .i64 (p0.qJ.length:Int)∧Zdi.at 64= .int .i64 v34) ⟨_,_,rfl,hS.only (.c k0 .n),YA⟩ ?_);clear hL hS;rintro ZiJ v34 s ZmG hL ⟨Zdi,h29,rfl,hS,e31,e32,e33,e35⟩;dsimp only [Zgt] at hL;refine r6 ?_;refine cn hL ?_ ?_
    ·intro hc hL;refine r6 ?_;obtain⟨x37,ZdV,hL⟩:=bind_some hL;obtain⟨b38,o39,⟨a40,c41⟩,Zjc,Zjf,Zje,ZlG⟩:=Sl.at_ ZO ZdV;refine WO.w gN rfl (ZE Kb QR lk lk rfl Zjc ZdV) ?_;have ZpB:Sl Zg wm h a40 c41 x37:=ZlG;refine WO.w gN rfl (ZW ZbF (Yi fh rfl) (At.fz hS.fz Zje Zjf) (j:=0) rfl (v:= .slice a40 x37.length c41) rfl) ?_;refine r8 ?_;refine r2 ?_;refine cn hL ?_ ?_
     ·intro hc hL;refine r8 ?_;refine r3 ?_;exact rt hL hT hS
     ·intro hc hL;refine r6 ?_;refine r1 ?_;exact Yc.YZ (ZmG _ _ hL ⟨_,_,rfl,hS.only (.c k0 .n),YA⟩)
    ·intro hc hL;refine XA ?_;refine r3 ?_;refine WC.loop (WL.lift hL (fun(v46:Int) (s:Fs)=>∃ (ZdW:Fr) (h42:H),s= ⟨ZdW,[],h42,none⟩∧Sp wm T h [] h42∧ZdW.at 73= .slice Zo p0.qG.length Zl∧ZdW.at 74= .int .i64 (p0.qG.length:Int)∧ZdW.at 75= .int .i64 v46) ⟨_,_,rfl,hS.only .n,YA⟩ ?_);clear hL hS;rintro ZiH v46 s ZmD hL ⟨ZdW,h42,rfl,hS,e44,e45,e47⟩;dsimp only [Zgs] at hL;refine r6 ?_;refine cn hL ?_ ?_
     ·intro hc hL;refine r6 ?_;obtain⟨x49,Zpr,hL⟩:=bind_some hL;obtain⟨b50,o51,⟨⟨a52,c53⟩,⟨a54,c55⟩⟩,ZpK,ZpR,Zzw,Zt5⟩:=Sl.at_ ZJ Zpr;refine WO.w gN rfl (ZE Jj Y2 lk lk rfl ZpK Zpr) ?_;have ZUk:Sl (Zu .i64) wm h a52 c53 x49.qV:=Zt5.1;have ZUj:Sl (Zu .i64) wm h a54 c55 x49.Yj:=Zt5.2;refine WO.w gN rfl (Xf Zak Y2 (Yi fh rfl) (At.fz hS.fz Zzw ZpR) (j:=0) rfl rfl (ws:= (cL x49 a52 c53 a54 c55)) rfl) ?_;refine r1 ?_;rintro _ h57 ⟨b56,ZYK,rfl,hS⟩;refine r1 ?_;rintro h58 hS;refine r16 ?_;refine cn hL ?_ ?_
      ·intro hc hL;refine r8 ?_;refine r3 ?_;exact rt hL hT hS
      ·intro hc hL;refine r6 ?_;refine r1 ?_;exact Yc.YZ (ZmD _ _ hL ⟨_,_,rfl,hS.only .n,YA⟩)
     ·intro hc hL;refine r8 ?_;refine r3 ?_;exact rt hL hT hS
end Go.Proofs.YtbmbbcaaimehkaaGreat
end
end
section
namespace Go.Proofs.YtbmbbcaaimehkaaGreat
open Go.Lf
def Znu (v13:Int) (ZdR:(Int×(List (Int×Int)) ->Option ((List (Int×Int))×Bool))) (JU:(List Int)):Int×(List (Int×Int)) ->(Int×(List (Int×Int)) ->Option ((List (Int×Int))×Bool)) ->Option ((List (Int×Int))×Bool):=fun(v34,v36) ZdQ=>
 (bif decide (v34 < (JU.length:Int)) then(ZT JU v34).bind fun x38=>ZdQ (Xd (v34 + 1),UB v36 x38 v13) else ZdR (Xd (v13 + 1),v36))
def Zns (v50:Int) (Zbc:(Int×(List (Int×Int)) ->Option ((List (Int×Int))×Bool))) (x54:(List Zr)):Int×(List (Int×Int)) ->(Int×(List (Int×Int)) ->Option ((List (Int×Int))×Bool)) ->Option ((List (Int×Int))×Bool):=fun(v70,v72) ZfU=>
 (bif decide (v70 < (x54.length:Int)) then(ZT x54 v70).bind fun x74=>ZfU (Xd (v70 + 1),UB v72 x74.msg x74.place) else Zbc (Xd (v50 + 1),v72))
def Zgn (v89:Int) (ZfR:(Int×(List (Int×Int)) ->Option ((List (Int×Int))×Bool))):(List (Int×Int)) ->Option ((List (Int×Int))×Bool):=fun Zam=>
 ZfR (Xd (v89 + 1),Zam)
def Zgm (v124:Int) (ZcW:(Int×Int×Int×(List (Int×Int)) ->Option ((List (Int×Int))×Bool))):Int×Int×(List (Int×Int)) ->Option ((List (Int×Int))×Bool):=fun(ZCh,ZCg,v139)=>
 ZcW (ZCh,ZCg,Xd (v124 + 1),v139)
def Znq (p1:(List ZC)) (p2:(List Int)):Int×Int×Int×(List (Int×Int)) ->(Int×Int×Int×(List (Int×Int)) ->Option ((List (Int×Int))×Bool)) ->Option ((List (Int×Int))×Bool):=fun(ZaA,Zl2,v124,ZfD) ZcW=>
 (bif decide (v124 < (p2.length:Int)) then(ZT p2 v124).bind fun Zoo=>(bif((decide (Zoo <=Zl2)) || (decide (Zoo >= (p1.length:Int)))) then none else(ZT p1 Zoo).bind fun ZqT=>(bif(ZqT.act==1) then(ZT p1 Zoo).bind fun ZB9=>(Zgm v124 ZcW) (Xd (ZaA + 1),Zoo,UB ZfD ZaA ZB9.b) else(Zgm v124 ZcW) (ZaA,Zoo,ZfD))) else some (ZfD,true))
def Znr (F:Nat) (p0:Zb) (p1:(List ZC)) (p2:(List Int)):Int×(List (Int×Int)) ->(Int×(List (Int×Int)) ->Option ((List (Int×Int))×Bool)) ->Option ((List (Int×Int))×Bool):=fun(v89,v91) ZfR=>
 (bif decide (v89 < (p0.qG.length:Int)) then(ZT p0.qG v89).bind fun x103=>(bif(x103.kind==1) then(Zgn v89 ZfR) (UB v91 x103.Ya.msg x103.Ya.place) else(Zgn v89 ZfR) v91) else loop F (Znq p1 p2) (p0.said,(-1),0,v91))
def Znt (F:Nat) (p0:Zb) (p1:(List ZC)) (p2:(List Int)):Int×(List (Int×Int)) ->(Int×(List (Int×Int)) ->Option ((List (Int×Int))×Bool)) ->Option ((List (Int×Int))×Bool):=fun(v50,v52) Zbc=>
 (bif decide (v50 < (p0.qJ.length:Int)) then(ZT p0.qJ v50).bind fun x54=>loop F (Zns v50 Zbc x54) (0,v52) else loop F (Znr F p0 p1 p2) (0,v52))
def Znv (F:Nat) (p0:Zb) (p1:(List ZC)) (p2:(List Int)):Int×(List (Int×Int)) ->(Int×(List (Int×Int)) ->Option ((List (Int×Int))×Bool)) ->Option ((List (Int×Int))×Bool):=fun(v13,v15) ZdR=>
 (bif decide (v13 < (p0.qK.length:Int)) then(ZT p0.qK v13).bind fun JU=>loop F (Znu v13 ZdR JU) (0,v15) else loop F (Znt F p0 p1 p2) (0,v15))
def ZAI (F:Nat) (p0:Zb) (p1:(List ZC)) (p2:(List Int)):Option ((List (Int×Int))×Bool):=
 loop F (Znv F p0 p1 p2) (0,[])
def Znn (p1:(List (Int×Int))) (v11:Int) (JS:(Int×Int ->Option Bool)) (x14:(List Int)):Int×Int ->(Int×Int ->Option Bool) ->Option Bool:=fun(v23,v31) ZxW=>
 (bif decide (v31 < (x14.length:Int)) then(ZT x14 v31).bind fun x34=>(ZxA p1 x34 0).bind fun x37=>(bif((!x37.2) || (x37.1 !=v11)) then some false else ZxW (Xd (v23 + 1),Xd (v31 + 1))) else JS (v23,Xd (v11 + 1)))
def Znm (p0:Zb) (p1:(List (Int×Int))) (v7:Int):Int ->(Int ->Option Bool) ->Option Bool:=fun v45 ZxT=>
 (bif decide (v45 < (p0.qJ.length:Int)) then(ZT p0.qJ v45).bind fun x48=>(bif decide ((x48.length:Int) > 0) then some false else ZxT (Xd (v45 + 1))) else some (((v7== (p1.length:Int)) && ((p0.qG.length:Int)==0)) && (p0.said== (p1.length:Int))))
def Zno (F:Nat) (p0:Zb) (p1:(List (Int×Int))):Int×Int ->(Int×Int ->Option Bool) ->Option Bool:=fun(v7,v11) JS=>
 (bif decide (v11 < (p0.qK.length:Int)) then(ZT p0.qK v11).bind fun x14=>loop F (Znn p1 v11 JS x14) (v7,0) else loop F (Znm p0 p1 v7) 0)
def ZvN (F:Nat) (p0:Zb) (p1:(List (Int×Int))):Option Bool:=
 loop F (Zno F p0 p1) (0,0)
def ZjR (p0:(List Int)):Int ->(Int ->Option Bool) ->Option Bool:=fun v6 Zds=>
 (bif decide (v6 < (p0.length:Int)) then(ZT p0 v6).bind fun x9=>(bif decide (x9 < 0) then some false else Zds (Xd (v6 + 1))) else some (decide ((p0.length:Int) <=80)))
def ZvM (F:Nat) (p0:(List Int)):Option Bool:=
 loop F (ZjR p0) 0
end Go.Proofs.YtbmbbcaaimehkaaGreat
end
section
set_option maxRecDepth 20000
noncomputable section
namespace Go.Proofs.YtbmbbcaaimehkaaGreat
open Go.YL Go.Lf
theorem ZJy {F wm:Nat} {h:H} {p0:Zb} {p1:(List ZC)} {p2:(List Int)} {Zi:Option Addr} {Zh:Nat} {Zk:Option Addr} {Zj:Nat} {Zq:Option Addr} {Zn:Nat} {Zp:Option Addr} {Zm:Nat} {Zo:Option Addr} {Zl:Nat} {Xi:Option Addr} {Xh:Nat} {JZ:Option Addr} {JY:Nat} {r:((List (Int×Int))×Bool)} (Z0:wm <=h.size) (ZB:Sl (Zu .i64) wm h Zi Zh p0.Zv) (ZN:Sl (ZM (Zu .i64)) wm h Zk Zj p0.qK) (ZL:Sl (ZM Zc) wm h Zq Zn p0.qQ) (ZO:Sl (ZM Zg) wm h Zp Zm p0.qJ) (ZJ:Sl Ze wm h Zo Zl p0.qG) (XM:Sl Uc wm h Xi Xh p1) (Zcg:Sl (Zu .i64) wm h JZ JY p2) (hL:ZAI F p0 p1 p2=some r):
 WR XX 29 #[.agg [.slice Zi p0.Zv.length Zh,.slice Zk p0.qK.length Zj,.slice Zq p0.qQ.length Zn,.slice Zp p0.qJ.length Zm,.slice Zo p0.qG.length Zl,.int .i64 p0.said].toArray,.slice Xi p1.length Xh,.slice JZ p2.length JY] wm h (CP (fun(v:Value) (Gb:List (Ast wm))=>∃ (ZE5:Nat),v= .tuple [.map (some ZE5),.bool r.2].toArray∧Gb= [mp wm (Value.int .i64) (Value.int .i64) (some ZE5) r.1]) [] h):=by
 refine bg Tryz.ntmps29 Z0 Yh.nil ?_;intro T hT hS;unfold ZAI at hL;refine r3 ?_;rintro _ h2 ⟨b1,eb1,rfl,hS⟩;refine r6 ?_;refine WO.hn gN rfl (ZE2 (Value.int .i64) (Value.int .i64) hS) ?_;rintro _ h3 ⟨b4,eb4,rfl,hS⟩;refine XA ?_;refine r1 ?_;refine WC.loop (WL.lift hL (fun(p:Int×(List (Int×Int))) (s:Fs)=>match p with | (v13,v15)=>∃ (fr6:Fr) (h5:H),s= ⟨fr6,[],h5,none⟩∧Sp wm T h [bx wm b1 (cW p0 Zi Zh Zk Zj Zq Zn Zp Zm Zo Zl),mp wm (Value.int .i64) (Value.int .i64) (some b4) v15] h5∧fr6.at 1= .slice Xi p1.length Xh∧fr6.at 2= .slice JZ p2.length JY∧fr6.at 3= .pointer (some ⟨b1,0,none⟩)∧fr6.at 8= .map (some b4)∧fr6.at 25= .slice Zk p0.qK.length Zj∧fr6.at 26= .int .i64 (p0.qK.length:Int)∧fr6.at 27= .int .i64 v13) ⟨_,_,rfl,hS.only (.c k1 (.c k0 .n)),YA⟩ ?_);clear hL hS;rintro ZdR ⟨v13,v15⟩ s ZmJ hL ⟨fr6,h5,rfl,hS,e7,e8,e9,e10,e11,e12,e14⟩;dsimp only [Znv] at hL;refine r6 ?_;refine cn hL ?_ ?_
 ·intro hc hL;refine r6 ?_;refine r1 ?_;obtain⟨JU,Zi3,hL⟩:=bind_some hL;obtain⟨b18,o19,⟨a20,c21⟩,Zzj,ZzU,ZzB,Zt6⟩:=Sl.at_ ZN Zi3;refine WO.w gN rfl (ZE Zbx JR lk lk rfl Zzj Zi3) ?_;have ZtR:Sl (Zu .i64) wm h a20 c21 JU:=Zt6;refine WO.w gN rfl (ZW ZdA (Yi fh rfl) (At.fz hS.fz ZzB ZzU) (j:=0) rfl (v:= .slice a20 JU.length c21) rfl) ?_;refine XA ?_;refine WC.loop (WL.lift hL (fun(p:Int×(List (Int×Int))) (s:Fs)=>match p with | (v34,v36)=>∃ (Zf6:Fr) (h22:H),s= ⟨Zf6,[],h22,none⟩∧Sp wm T h [bx wm b1 (cW p0 Zi Zh Zk Zj Zq Zn Zp Zm Zo Zl),mp wm (Value.int .i64) (Value.int .i64) (some b4) v36] h22∧Zf6.at 1= .slice Xi p1.length Xh∧Zf6.at 2= .slice JZ p2.length JY∧Zf6.at 3= .pointer (some ⟨b1,0,none⟩)∧Zf6.at 8= .map (some b4)∧Zf6.at 9= .int .i64 v13∧Zf6.at 25= .slice Zk p0.qK.length Zj∧Zf6.at 26= .int .i64 (p0.qK.length:Int)∧Zf6.at 27= .int .i64 v13∧Zf6.at 32= .slice a20 JU.length c21∧Zf6.at 33= .int .i64 (JU.length:Int)∧Zf6.at 34= .int .i64 v34) ⟨_,_,rfl,hS.only (.c k0 (.c k0 .n)),YA⟩ ?_);clear hL hS;rintro ZdQ ⟨v34,v36⟩ s ZmF hL ⟨Zf6,h22,rfl,hS,e24,e25,e26,e27,e28,e29,e30,e31,e32,e33,e35⟩;dsimp only [Znu] at hL;refine r6 ?_;refine cn hL ?_ ?_
  ·intro hc hL;refine r6 ?_;obtain⟨x38,hx38,hL⟩:=bind_some hL;obtain⟨b39,o40,_,Zzf,ZzR,Zzz,ZFR⟩:=Sl.at_ ZtR hx38;refine WO.w gN rfl (ZE YE YF lk lk rfl Zzf hx38) ?_;refine WO.w gN rfl (ZW Xn (Yi fh rfl) (At.fz hS.fz Zzz ZzR) (j:=0) rfl (v:= .int .i64 x38) rfl) ?_;refine r6 ?_;refine r1 ?_;refine WO.hu gN (ZoO (kv:= (Value.int .i64)) (vv:= (Value.int .i64)) (k:=x38) (v:=v13) hS k1 Zye Zih (Yi (YG rfl fh) rfl) (Yi (Zy rfl fh) rfl) (Yi fh rfl)) ?_;rintro h41 hS;refine r6 ?_;refine r1 ?_;exact Yc.YZ (ZmF _ _ hL ⟨_,_,rfl,hS.only (.c k1 (.c k0 .n)),YA⟩)
  ·intro hc hL;refine r8 ?_;refine r2 ?_;exact Yc.YZ (ZmJ _ _ hL ⟨_,_,rfl,hS.only (.c k0 (.c k0 .n)),YA⟩)
 ·intro hc hL;refine XA ?_;refine r3 ?_;refine WC.loop (WL.lift hL (fun(p:Int×(List (Int×Int))) (s:Fs)=>match p with | (v50,v52)=>∃ (ZdW:Fr) (h42:H),s= ⟨ZdW,[],h42,none⟩∧Sp wm T h [bx wm b1 (cW p0 Zi Zh Zk Zj Zq Zn Zp Zm Zo Zl),mp wm (Value.int .i64) (Value.int .i64) (some b4) v52] h42∧ZdW.at 1= .slice Xi p1.length Xh∧ZdW.at 2= .slice JZ p2.length JY∧ZdW.at 3= .pointer (some ⟨b1,0,none⟩)∧ZdW.at 8= .map (some b4)∧ZdW.at 44= .slice Zp p0.qJ.length Zm∧ZdW.at 45= .int .i64 (p0.qJ.length:Int)∧ZdW.at 46= .int .i64 v50) ⟨_,_,rfl,hS.only (.c k0 (.c k0 .n)),YA⟩ ?_);clear hL hS;rintro Zbc ⟨v50,v52⟩ s ZmC hL ⟨ZdW,h42,rfl,hS,e44,e45,e46,e47,e48,e49,e51⟩;dsimp only [Znt] at hL;refine r6 ?_;refine cn hL ?_ ?_
  ·intro hc hL;refine r6 ?_;obtain⟨x54,Zi2,hL⟩:=bind_some hL;obtain⟨b55,o56,⟨a57,c58⟩,Zjb,ZpQ,Zzv,Zzp⟩:=Sl.at_ ZO Zi2;refine WO.w gN rfl (ZE Kb QR lk lk rfl Zjb Zi2) ?_;have Zyy:Sl Zg wm h a57 c58 x54:=Zzp;refine WO.w gN rfl (ZW ZbF (Yi fh rfl) (At.fz hS.fz Zzv ZpQ) (j:=0) rfl (v:= .slice a57 x54.length c58) rfl) ?_;refine r8 ?_;refine r3 ?_;refine WC.loop (WL.lift hL (fun(p:Int×(List (Int×Int))) (s:Fs)=>match p with | (v70,v72)=>∃ (WY:Fr) (h59:H),s= ⟨WY,[],h59,none⟩∧Sp wm T h [bx wm b1 (cW p0 Zi Zh Zk Zj Zq Zn Zp Zm Zo Zl),mp wm (Value.int .i64) (Value.int .i64) (some b4) v72] h59∧WY.at 1= .slice Xi p1.length Xh∧WY.at 2= .slice JZ p2.length JY∧WY.at 3= .pointer (some ⟨b1,0,none⟩)∧WY.at 8= .map (some b4)∧WY.at 44= .slice Zp p0.qJ.length Zm∧WY.at 45= .int .i64 (p0.qJ.length:Int)∧WY.at 46= .int .i64 v50∧WY.at 50= .slice a57 x54.length c58∧WY.at 51= .int .i64 (x54.length:Int)∧WY.at 52= .int .i64 v70) ⟨_,_,rfl,hS.only (.c k0 (.c k0 .n)),YA⟩ ?_);clear hL hS;rintro ZfU ⟨v70,v72⟩ s ZhY hL ⟨WY,h59,rfl,hS,e61,e62,e63,e64,e65,e66,e67,e68,e69,e71⟩;dsimp only [Zns] at hL;refine r6 ?_;refine cn hL ?_ ?_
   ·intro hc hL;refine r6 ?_;obtain⟨x74,Zrw,hL⟩:=bind_some hL;obtain⟨b75,o76,_,Zy6,ZzG,ZFT,ZNi⟩:=Sl.at_ Zyy Zrw;refine WO.w gN rfl (ZE ZaB JQ lk lk rfl Zy6 Zrw) ?_;refine WO.w gN rfl (Xf Zkm JQ (Yi fh rfl) (At.fz hS.fz ZFT ZzG) (j:=0) rfl rfl (ws:= (cM x74)) rfl) ?_;refine r1 ?_;rintro _ h78 ⟨b77,ZSQ,rfl,hS⟩;refine r1 ?_;rintro h79 hS;refine r8 ?_;refine WO.hu gN (ZoO (kv:= (Value.int .i64)) (vv:= (Value.int .i64)) (k:=x74.msg) (v:=x74.place) hS k2 Zye Zih (Yi (Y5 rfl fh) rfl) (Yi (YG rfl fh) rfl) (Yi fh rfl)) ?_;rintro h80 hS;refine r6 ?_;refine r1 ?_;exact Yc.YZ (ZhY _ _ hL ⟨_,_,rfl,hS.only (.c k2 (.c k0 .n)),YA⟩)
   ·intro hc hL;refine r8 ?_;refine r2 ?_;exact Yc.YZ (ZmC _ _ hL ⟨_,_,rfl,hS.only (.c k0 (.c k0 .n)),YA⟩)
  ·intro hc hL;refine XA ?_;refine r3 ?_;refine WC.loop (WL.lift hL (fun(p:Int×(List (Int×Int))) (s:Fs)=>match p with | (v89,v91)=>∃ (ZmU:Fr) (h81:H),s= ⟨ZmU,[],h81,none⟩∧Sp wm T h [bx wm b1 (cW p0 Zi Zh Zk Zj Zq Zn Zp Zm Zo Zl),mp wm (Value.int .i64) (Value.int .i64) (some b4) v91] h81∧ZmU.at 1= .slice Xi p1.length Xh∧ZmU.at 2= .slice JZ p2.length JY∧ZmU.at 3= .pointer (some ⟨b1,0,none⟩)∧ZmU.at 8= .map (some b4)∧ZmU.at 64= .slice Zo p0.qG.length Zl∧ZmU.at 65= .int .i64 (p0.qG.length:Int)∧ZmU.at 66= .int .i64 v89) ⟨_,_,rfl,hS.only (.c k0 (.c k0 .n)),YA⟩ ?_);clear hL hS;rintro ZfR ⟨v89,v91⟩ s ZC6 hL ⟨ZmU,h81,rfl,hS,e83,e84,e85,e86,e87,e88,e90⟩;dsimp only [Znr] at hL;refine r6 ?_;refine cn hL ?_ ?_
   ·intro hc hL;refine r2 ?_;refine WC.Za5 (r:=r) (fun(Zam:(List (Int×Int))) (s:Fs)=>∃ (ZmT:Fr) (h93:H),s= ⟨ZmT,[],h93,none⟩∧Sp wm T h [bx wm b1 (cW p0 Zi Zh Zk Zj Zq Zn Zp Zm Zo Zl),mp wm (Value.int .i64) (Value.int .i64) (some b4) Zam] h93∧ZmT.at 1= .slice Xi p1.length Xh∧ZmT.at 2= .slice JZ p2.length JY∧ZmT.at 3= .pointer (some ⟨b1,0,none⟩)∧ZmT.at 8= .map (some b4)∧ZmT.at 64= .slice Zo p0.qG.length Zl∧ZmT.at 65= .int .i64 (p0.qG.length:Int)∧ZmT.at 66= .int .i64 v89) (Zgn v89 ZfR) ?_ ?_
    ·clear hL hS;rintro Zam s hL ⟨ZmT,h93,rfl,hS,e95,e96,e97,e98,e99,e100,ZD9⟩;dsimp only [Zgn] at hL;refine r4 ?_;exact Yc.YZ (ZC6 _ _ hL ⟨_,_,rfl,hS.only (.c k0 (.c k0 .n)),YA⟩)
    ·skip;refine r3 ?_;obtain⟨x103,ZFt,hL⟩:=bind_some hL;obtain⟨Z0F,ZWU,⟨⟨Zks,c107⟩,⟨Zn9,c109⟩⟩,ZHV,ZIM,ZIi,Zzt⟩:=Sl.at_ ZJ ZFt;refine WO.w gN rfl (ZE Jj Y2 lk lk rfl ZHV ZFt) ?_;have ZRC:Sl (Zu .i64) wm h Zks c107 x103.qV:=Zzt.1;have ZRB:Sl (Zu .i64) wm h Zn9 c109 x103.Yj:=Zzt.2;refine WO.w gN rfl (Xf Zak Y2 (Yi fh rfl) (At.fz hS.fz ZIi ZIM) (j:=0) rfl rfl (ws:= (cL x103 Zks c107 Zn9 c109)) rfl) ?_;refine r1 ?_;rintro _ ZYm ⟨b110,ZVp,rfl,hS⟩;refine r1 ?_;rintro h112 hS;refine r8 ?_;refine r1 ?_;refine cn hL ?_ ?_
     ·intro hc hL;refine r8 ?_;refine WO.hu gN (ZoO (kv:= (Value.int .i64)) (vv:= (Value.int .i64)) (k:=x103.Ya.msg) (v:=x103.Ya.place) hS k2 Zye Zih (Yi (Y5 rfl (YG rfl fh)) rfl) (Yi (YG rfl (Zy rfl fh)) rfl) (Yi fh rfl)) ?_;rintro ZOy hS;refine r2 ?_;exact Y9.YZ _ hL ⟨_,_,rfl,hS.only (.c k2 (.c k0 .n)),YA⟩
     ·intro hc hL;refine r2 ?_;exact Y9.YZ _ hL ⟨_,_,rfl,hS.only (.c k1 (.c k1 .n)),YA⟩
   ·intro hc hL;refine r16 ?_;refine r6 ?_;refine WC.loop (WL.lift hL (fun(p:Int×Int×Int×(List (Int×Int))) (s:Fs)=>match p with | (ZaA,Zl2,v124,ZfD)=>∃ (Ze3:Fr) (ZzZ:H),s= ⟨Ze3,[],ZzZ,none⟩∧Sp wm T h [mp wm (Value.int .i64) (Value.int .i64) (some b4) ZfD] ZzZ∧Ze3.at 1= .slice Xi p1.length Xh∧Ze3.at 8= .map (some b4)∧Ze3.at 19= .int .i64 ZaA∧Ze3.at 20= .int .i64 Zl2∧Ze3.at 83= .slice JZ p2.length JY∧Ze3.at 84= .int .i64 (p2.length:Int)∧Ze3.at 85= .int .i64 v124) ⟨_,_,rfl,hS.only (.c k1 .n),YA⟩ ?_);clear hL hS;rintro ZcW ⟨ZaA,Zl2,v124,ZfD⟩ s ZyJ hL ⟨Ze3,ZzZ,rfl,hS,e116,e117,e119,ZTa,ZS9,ZS8,e125⟩;dsimp only [Znq] at hL;refine r6 ?_;refine cn hL ?_ ?_
    ·intro hc hL;refine r2 ?_;refine WC.Za5 (r:=r) (fun(p:Int×Int×(List (Int×Int))) (s:Fs)=>match p with | (ZCh,ZCg,v139)=>∃ (Ze2:Fr) (h128:H),s= ⟨Ze2,[],h128,none⟩∧Sp wm T h [mp wm (Value.int .i64) (Value.int .i64) (some b4) v139] h128∧Ze2.at 1= .slice Xi p1.length Xh∧Ze2.at 8= .map (some b4)∧Ze2.at 19= .int .i64 ZCh∧Ze2.at 20= .int .i64 ZCg∧Ze2.at 83= .slice JZ p2.length JY∧Ze2.at 84= .int .i64 (p2.length:Int)∧Ze2.at 85= .int .i64 v124) (Zgm v124 ZcW) ?_ ?_
     ·clear hL hS;rintro⟨ZCh,ZCg,v139⟩ s hL ⟨Ze2,h128,rfl,hS,ZZA,ZZz,ZS7,ZS6,ZZw,e137,e138⟩;dsimp only [Zgm] at hL;refine r4 ?_;exact Yc.YZ (ZyJ _ _ hL ⟨_,_,rfl,hS.only (.c k0 .n),YA⟩)
     ·skip;refine r3 ?_;obtain⟨Zoo,ZtM,hL⟩:=bind_some hL;obtain⟨Z0t,ZWI,_,ZHK,ZIA,ZH6,ZSd⟩:=Sl.at_ Zcg ZtM;refine WO.w gN rfl (ZE YE YF lk lk rfl ZHK ZtM) ?_;refine WO.w gN rfl (ZW Xn (Yi fh rfl) (At.fz hS.fz ZH6 ZIA) (j:=0) rfl (v:= .int .i64 Zoo) rfl) ?_;refine r16 ?_;refine r1 ?_;refine cn hL ?_ ?_
      ·intro hc hL;cases hL
      ·intro hc hL;refine XA ?_;obtain⟨ZqT,Zpv,hL⟩:=bind_some hL;obtain⟨ZTA,ZQU,_,ZrJ,ZrO,ZH5,ZHX⟩:=Sl.at_ XM Zpv;refine WO.w gN rfl (ZE Zs6 Zim lk lk rfl ZrJ Zpv) ?_;refine r1 ?_;refine WO.w gN rfl (ZW ZGa (Yi fh rfl) (At.fz hS.fz ZH5 ZrO) (j:=0) rfl (v:= .int .i64 ZqT.act) rfl) ?_;refine r3 ?_;refine cn hL ?_ ?_
       ·intro hc hL;refine r6 ?_;obtain⟨ZB9,ZFm,hL⟩:=bind_some hL;obtain⟨Z0r,ZWG,_,ZHI,ZIy,ZH3,ZSc⟩:=Sl.at_ XM ZFm;refine WO.w gN rfl (ZE Zs6 Zim lk lk rfl ZHI ZFm) ?_;refine r1 ?_;refine WO.w gN rfl (ZW Xn (Yi fh rfl) (At.fz hS.fz ZH3 ZIy) (j:=2) rfl (v:= .int .i64 ZB9.b) rfl) ?_;refine WO.hu gN (ZoO (kv:= (Value.int .i64)) (vv:= (Value.int .i64)) (k:=ZaA) (v:=ZB9.b) hS k0 Zye Zih (Yi (Y5 rfl (YG rfl fh)) rfl) (Yi (Y5 rfl (Zy rfl fh)) rfl) (Yi fh rfl)) ?_;rintro ZYd hS;refine r8 ?_;exact Y9.YZ _ hL ⟨_,_,rfl,hS.only (.c k0 .n),YA⟩
       ·intro hc hL;refine r2 ?_;exact Y9.YZ _ hL ⟨_,_,rfl,hS.only (.c k0 .n),YA⟩
    ·intro hc hL;refine XA ?_;refine r1 ?_;have hr:=Oi0 hL;subst hr;exact Yl.gen (vs:= [.map (some b4),.bool true]) rfl (ZP lk (ZP lk ZA)) rfl ⟨_,⟨b4,rfl,rfl⟩,hT ▸ hS.only (.c k0 .n)⟩
theorem ZJv {F wm:Nat} {h:H} {p0:Zb} {p1:(List (Int×Int))} {Zi:Option Addr} {Zh:Nat} {Zk:Option Addr} {Zj:Nat} {Zq:Option Addr} {Zn:Nat} {Zp:Option Addr} {Zm:Nat} {Zo:Option Addr} {Zl:Nat} {Zhe:Option Nat} {r:Bool} (Z0:wm <=h.size) (ZB:Sl (Zu .i64) wm h Zi Zh p0.Zv) (ZN:Sl (ZM (Zu .i64)) wm h Zk Zj p0.qK) (ZL:Sl (ZM Zc) wm h Zq Zn p0.qQ) (ZO:Sl (ZM Zg) wm h Zp Zm p0.qJ) (ZJ:Sl Ze wm h Zo Zl p0.qG) (XM:Zoa (Value.int .i64) (Value.int .i64) wm h Zhe p1) (hL:ZvN F p0 p1=some r):
 WR XX 31 #[.agg [.slice Zi p0.Zv.length Zh,.slice Zk p0.qK.length Zj,.slice Zq p0.qQ.length Zn,.slice Zp p0.qJ.length Zm,.slice Zo p0.qG.length Zl,.int .i64 p0.said].toArray,.map Zhe] wm h (CP (fun(v:Value) (Gb:List (Ast wm))=>v= .bool r∧Gb= []) [] h):=by
 refine bg Tryz.ntmps31 Z0 Yh.nil ?_;intro T hT hS;unfold ZvN at hL;refine r3 ?_;rintro _ h2 ⟨b1,eb1,rfl,hS⟩;refine r16 ?_;refine r2 ?_;refine WC.loop (WL.lift hL (fun(p:Int×Int) (s:Fs)=>match p with | (v7,v11)=>∃ (Wo:Fr) (h3:H),s= ⟨Wo,[],h3,none⟩∧Sp wm T h [bx wm b1 (cW p0 Zi Zh Zk Zj Zq Zn Zp Zm Zo Zl)] h3∧Wo.at 1= .map Zhe∧Wo.at 2= .pointer (some ⟨b1,0,none⟩)∧Wo.at 5= .int .i64 v7∧Wo.at 15= .slice Zk p0.qK.length Zj∧Wo.at 16= .int .i64 (p0.qK.length:Int)∧Wo.at 17= .int .i64 v11) ⟨_,_,rfl,hS.only (.c k0 .n),YA⟩ ?_);clear hL hS;rintro JS ⟨v7,v11⟩ s Kt hL ⟨Wo,h3,rfl,hS,e5,e6,e8,e9,e10,e12⟩;dsimp only [Zno] at hL;refine r6 ?_;refine cn hL ?_ ?_
 ·intro hc hL;refine r6 ?_;refine r1 ?_;obtain⟨x14,ZeT,hL⟩:=bind_some hL;obtain⟨b15,o16,⟨a17,c18⟩,ZeV,ZeY,ZeX,ZeW⟩:=Sl.at_ ZN ZeT;refine WO.w gN rfl (ZE Zbx JR lk lk rfl ZeV ZeT) ?_;have ZeU:Sl (Zu .i64) wm h a17 c18 x14:=ZeW;refine WO.w gN rfl (ZW ZdA (Yi fh rfl) (At.fz hS.fz ZeX ZeY) (j:=0) rfl (v:= .slice a17 x14.length c18) rfl) ?_;refine XA ?_;refine WC.loop (WL.lift hL (fun(p:Int×Int) (s:Fs)=>match p with | (v23,v31)=>∃ (ZhD:Fr) (h19:H),s= ⟨ZhD,[],h19,none⟩∧Sp wm T h [bx wm b1 (cW p0 Zi Zh Zk Zj Zq Zn Zp Zm Zo Zl)] h19∧ZhD.at 1= .map Zhe∧ZhD.at 2= .pointer (some ⟨b1,0,none⟩)∧ZhD.at 5= .int .i64 v23∧ZhD.at 6= .int .i64 v11∧ZhD.at 15= .slice Zk p0.qK.length Zj∧ZhD.at 16= .int .i64 (p0.qK.length:Int)∧ZhD.at 17= .int .i64 v11∧ZhD.at 22= .slice a17 x14.length c18∧ZhD.at 23= .int .i64 (x14.length:Int)∧ZhD.at 24= .int .i64 v31) ⟨_,_,rfl,hS.only (.c k0 .n),YA⟩ ?_);clear hL hS;rintro ZxW ⟨v23,v31⟩ s ZDp hL ⟨ZhD,h19,rfl,hS,e21,e22,e24,e25,e26,e27,e28,e29,e30,e32⟩;dsimp only [Znn] at hL;refine r6 ?_;refine cn hL ?_ ?_
  ·intro hc hL;refine r6 ?_;obtain⟨x34,hx34,hL⟩:=bind_some hL;obtain⟨b35,o36,_,ZNa,ZOe,ZNP,ZUN⟩:=Sl.at_ ZeU hx34;refine WO.w gN rfl (ZE YE YF lk lk rfl ZNa hx34) ?_;refine WO.w gN rfl (ZW Xn (Yi fh rfl) (At.fz hS.fz ZNP ZOe) (j:=0) rfl (v:= .int .i64 x34) rfl) ?_;refine r8 ?_;obtain⟨x37,ZdV,hL⟩:=bind_some hL;refine WO.w gN rfl (ZA8 (kv:= (Value.int .i64)) (vv:= (Value.int .i64)) (k:=x34) (z:=0) Zye Zih Zbv (Yi (Zy rfl fh) rfl) (Yi fh rfl) (hS.ms XM).at_ ZdV (w:= .int .i64 x37.1) rfl) ?_;refine r16 ?_;refine r2 ?_;refine cn hL ?_ ?_
   ·intro hc hL;refine r16 ?_;exact rt hL hT hS
   ·intro hc hL;refine XA ?_;refine r1 ?_;exact Yc.YZ (ZDp _ _ hL ⟨_,_,rfl,hS.only (.c k0 .n),YA⟩)
  ·intro hc hL;refine r8 ?_;refine r2 ?_;exact Yc.YZ (Kt _ _ hL ⟨_,_,rfl,hS.only (.c k0 .n),YA⟩)
 ·intro hc hL;refine XA ?_;refine r3 ?_;refine WC.loop (WL.lift hL (fun(v45:Int) (s:Fs)=>∃ (ZpV:Fr) (h38:H),s= ⟨ZpV,[],h38,none⟩∧Sp wm T h [bx wm b1 (cW p0 Zi Zh Zk Zj Zq Zn Zp Zm Zo Zl)] h38∧ZpV.at 1= .map Zhe∧ZpV.at 2= .pointer (some ⟨b1,0,none⟩)∧ZpV.at 5= .int .i64 v7∧ZpV.at 46= .slice Zp p0.qJ.length Zm∧ZpV.at 47= .int .i64 (p0.qJ.length:Int)∧ZpV.at 48= .int .i64 v45) ⟨_,_,rfl,hS.only (.c k0 .n),YA⟩ ?_);clear hL hS;rintro ZxT v45 s ZDl hL ⟨ZpV,h38,rfl,hS,e40,e41,e42,e43,e44,e46⟩;dsimp only [Znm] at hL;refine r6 ?_;refine cn hL ?_ ?_
  ·intro hc hL;refine r6 ?_;obtain⟨x48,ZLC,hL⟩:=bind_some hL;obtain⟨b49,o50,⟨a51,c52⟩,ZM6,ZOa,ZNL,ZNp⟩:=Sl.at_ ZO ZLC;refine WO.w gN rfl (ZE Kb QR lk lk rfl ZM6 ZLC) ?_;have ZUl:Sl Zg wm h a51 c52 x48:=ZNp;refine WO.w gN rfl (ZW ZbF (Yi fh rfl) (At.fz hS.fz ZNL ZOa) (j:=0) rfl (v:= .slice a51 x48.length c52) rfl) ?_;refine r8 ?_;refine r2 ?_;refine cn hL ?_ ?_
   ·intro hc hL;refine r8 ?_;refine r3 ?_;exact rt hL hT hS
   ·intro hc hL;refine r6 ?_;refine r1 ?_;exact Yc.YZ (ZDl _ _ hL ⟨_,_,rfl,hS.only (.c k0 .n),YA⟩)
  ·intro hc hL;refine r8 ?_;refine r1 ?_;refine WO.w gN rfl (Zuv Zih lk (hS.ms XM).at_) ?_;refine r8 ?_;refine r3 ?_;refine WO.gv (Zt.yes rfl rfl rfl (YG rfl (Zy rfl fh))) rfl (fun hg=>(Zuv Zih (Y4 fh rfl hg) (hS.ms XM).at_)) ?_;refine r6 ?_;exact rt hL hT hS
theorem ZJw {F:Nat} {h:H} {p0:Zb} {p1:(List (Int×Int))} {Zi:Option Addr} {Zh:Nat} {Zk:Option Addr} {Zj:Nat} {Zq:Option Addr} {Zn:Nat} {Zp:Option Addr} {Zm:Nat} {Zo:Option Addr} {Zl:Nat} {Zhe:Option Nat} {r:Bool} (ZB:Sl (Zu .i64) h.size h Zi Zh p0.Zv) (ZN:Sl (ZM (Zu .i64)) h.size h Zk Zj p0.qK) (ZL:Sl (ZM Zc) h.size h Zq Zn p0.qQ) (ZO:Sl (ZM Zg) h.size h Zp Zm p0.qJ) (ZJ:Sl Ze h.size h Zo Zl p0.qG) (XM:Zoa (Value.int .i64) (Value.int .i64) h.size h Zhe p1) (hL:ZvN F p0 p1=some r):Pure XX 31 #[.agg [.slice Zi p0.Zv.length Zh,.slice Zk p0.qK.length Zj,.slice Zq p0.qQ.length Zn,.slice Zp p0.qJ.length Zm,.slice Zo p0.qG.length Zl,.int .i64 p0.said].toArray,.map Zhe] h (.bool r):=
 WR.Qy rfl (ZJv (Nat.le_refl _) ZB ZN ZL ZO ZJ XM hL)
theorem ZJt {F wm:Nat} {h:H} {p0:(List Int)} {Zi:Option Addr} {Zh:Nat} {r:Bool} (Z0:wm <=h.size) (ZB:Sl (Zu .i64) wm h Zi Zh p0) (hL:ZvM F p0=some r):
 WR XX 41 #[.slice Zi p0.length Zh] wm h (CP (fun(v:Value) (Gb:List (Ast wm))=>v= .bool r∧Gb= []) [] h):=by
 refine bg Tryz.ntmps41 Z0 Yh.nil ?_;intro T hT hS;unfold ZvM at hL;refine XA ?_;refine r2 ?_;refine WC.loop (WL.lift hL (fun(v6:Int) (s:Fs)=>∃ (Qr:Fr) (h1:H),s= ⟨Qr,[],h1,none⟩∧Sp wm T h [] h1∧Qr.at 0= .slice Zi p0.length Zh∧Qr.at 5= .slice Zi p0.length Zh∧Qr.at 6= .int .i64 (p0.length:Int)∧Qr.at 7= .int .i64 v6) ⟨_,_,rfl,hS.only .n,YA⟩ ?_);clear hL hS;rintro Zds v6 s Zi5 hL ⟨Qr,h1,rfl,hS,e3,e4,e5,e7⟩;dsimp only [ZjR] at hL;refine r6 ?_;refine cn hL ?_ ?_
 ·intro hc hL;refine r6 ?_;obtain⟨x9,hx9,hL⟩:=bind_some hL;obtain⟨b10,o11,_,Zjd,Zjg,ZpP,Zt8⟩:=Sl.at_ ZB hx9;refine WO.w gN rfl (ZE YE YF lk lk rfl Zjd hx9) ?_;refine WO.w gN rfl (ZW Xn (Yi fh rfl) (At.fz hS.fz ZpP Zjg) (j:=0) rfl (v:= .int .i64 x9) rfl) ?_;refine r8 ?_;refine r1 ?_;refine cn hL ?_ ?_
  ·intro hc hL;refine r8 ?_;refine r3 ?_;exact rt hL hT hS
  ·intro hc hL;refine r6 ?_;refine r1 ?_;exact Yc.YZ (Zi5 _ _ hL ⟨_,_,rfl,hS.only .n,YA⟩)
 ·intro hc hL;refine XA ?_;refine r2 ?_;exact rt hL hT hS
end Go.Proofs.YtbmbbcaaimehkaaGreat
end
end
section
namespace Go.Proofs.YtbmbbcaaimehkaaGreat
open Go.Lf
def Znl:Unit ->Option Bool:=fun _=>
 some false
def ZjQ (p0:Zb) (p1:ZC):Unit ->Option Bool:=fun _=>
 some ((decide (p1.a >=0)) && (decide (p1.a < (p0.Zv.length:Int))))
def Zsh (p0:Zb) (p1:ZC):Option Bool:=
 (bif(p1.act==1) then(bif((decide (p1.a >=0)) && (decide (p1.a < (p0.qQ.length:Int)))) then some ((decide (p1.b >=0)) && (decide (p1.b < (p0.Zv.length:Int)))) else some false) else(bif(p1.act==2) then(bif((decide (p1.a >=0)) && (decide (p1.a < (p0.Zv.length:Int)))) then some ((decide (p1.b >=0)) && (decide (p1.b < (p0.qQ.length:Int)))) else some false) else(bif(p1.act==3) then(bif(!((decide (p1.b >=0)) && (decide (p1.b < (p0.Zv.length:Int))))) then some false else(ZjQ p0 p1) ()) else(bif(p1.act==4) then(ZjQ p0 p1) () else(bif(p1.act==5) then some ((decide (p1.a >=0)) && (decide (p1.a < (p0.qG.length:Int)))) else(Znl) ())))))
def ZjL (v16:Int) (Wn:(Int×Int×Int×Int×Int×Bool ->Option (XI×Bool))):Int×Int×Int×Int×Bool ->Option (XI×Bool):=fun(v29,v33,v34,v35,v36)=>
 Wn (v29,Xd (v16 + 1),v33,v34,v35,v36)
def ZjK (v94:Int) (ZcY:(Int×Int×Int×Int×Int×Bool ->Option (XI×Bool))):Int×Int×Int×Int×Bool ->Option (XI×Bool):=fun(ZCl,ZuM,v117,ZaA,ZCk)=>
 ZcY (ZCl,Xd (v94 + 1),ZuM,v117,ZaA,ZCk)
def Zne (p1:Int) (v63:Int) (Zml:(Int×Int×Int×Int×Int×Bool ->Option (XI×Bool))) (x70:Zd):Int×Int×Int×Int×Int×Bool ->(Int×Int×Int×Int×Int×Bool ->Option (XI×Bool)) ->Option (XI×Bool):=fun(v85,v94,v96,v97,v98,v99) ZcY=>
 (bif decide (v94 < (x70.qV.length:Int)) then(ZT x70.qV v94).bind fun ZGr=>(bif((ZGr==p1) && (decide (v94 < (x70.Yj.length:Int)))) then(ZT x70.Yj v94).bind fun ZkD=>(ZjK v94 ZcY) (Xd (v85 + 1),x70.Z9,ZkD,v63,false) else(ZjK v94 ZcY) (v85,v96,v97,v98,v99)) else Zml (v85,Xd (v63 + 1),v96,v97,v98,v99))
def ZjM (F:Nat) (p0:Zb) (p1:Int):Int×Int×Int×Int×Int×Bool ->(Int×Int×Int×Int×Int×Bool ->Option (XI×Bool)) ->Option (XI×Bool):=fun(v59,v63,v65,v66,v67,v68) Zml=>
 (bif decide (v63 < (p0.qG.length:Int)) then(ZT p0.qG v63).bind fun x70=>loop F (Zne p1 v63 Zml x70) (v59,0,v65,v66,v67,v68) else some ((XI.mk v65 v66 v67 v68),(v59==1)))
def Znf (F:Nat) (p0:Zb) (p1:Int):Int×Int×Int×Int×Int×Bool ->(Int×Int×Int×Int×Int×Bool ->Option (XI×Bool)) ->Option (XI×Bool):=fun(v13,v16,v18,v19,v20,v21) Wn=>
 (bif decide (v16 < (p0.qQ.length:Int)) then(ZT p0.qQ v16).bind fun x37=>(ZT x37 p1).bind fun x42=>(bif x42.here then(ZT p0.qQ v16).bind fun Wi=>(ZT Wi p1).bind fun x50=>(ZjL v16 Wn) (Xd (v13 + 1),v16,x50.age,(-1),true) else(ZjL v16 Wn) (v13,v18,v19,v20,v21)) else loop F (ZjM F p0 p1) (v13,0,v18,v19,v20,v21))
def ZAA (F:Nat) (p0:Zb) (p1:Int):Option (XI×Bool):=
 loop F (Znf F p0 p1) (0,0,0,0,0,false)
def Znd (p0:Zb) (p1:Int) (p2:XI) (p3:Int) (p4:Int):Option Bool:=
 (bif((((decide (p3 < 0)) || (decide (p3 >= (p0.qQ.length:Int)))) || (decide (p4 < 0))) || (decide (p4 > p2.age))) then some false else(bif(p4==p2.age) then some (p2.at_==p3) else(ZT p0.qQ p3).bind fun x5=>(ZT x5 p1).bind fun x10=>some (decide (x10.age > p4))))
def Zp1 (p0:Zb) (p1:(List XI)) (p2:Zr) (p3:Int) (p4:Bool):Option Bool:=
 (bif((((((((decide (p2.place < 0)) || (decide (p2.place >= (p0.Zv.length:Int)))) || (decide (p2.from_ < 0))) || (decide (p2.from_ >= (p0.qQ.length:Int)))) || (decide (p2.age < 0))) || (decide (p2.age > 30))) || (decide (p2.hops < 1))) || (decide (p2.hops > (Xd (p2.age + 1))))) then some false else(ZT p1 p2.place).bind fun x5=>(bif p4 then some (((!x5.is) && (x5.at_==p3)) && (x5.age==p2.age)) else(Znd p0 p2.place x5 p3 p2.age).bind fun Xw=>some Xw))
end Go.Proofs.YtbmbbcaaimehkaaGreat
end
section
set_option maxRecDepth 20000
noncomputable section
namespace Go.Proofs.YtbmbbcaaimehkaaGreat
open Go.YL Go.Lf
theorem ZJr {wm:Nat} {h:H} {p0:Zb} {p1:ZC} {Zi:Option Addr} {Zh:Nat} {Zk:Option Addr} {Zj:Nat} {Zq:Option Addr} {Zn:Nat} {Zp:Option Addr} {Zm:Nat} {Zo:Option Addr} {Zl:Nat} {r:Bool} (Z0:wm <=h.size) (ZB:Sl (Zu .i64) wm h Zi Zh p0.Zv) (ZN:Sl (ZM (Zu .i64)) wm h Zk Zj p0.qK) (ZL:Sl (ZM Zc) wm h Zq Zn p0.qQ) (ZO:Sl (ZM Zg) wm h Zp Zm p0.qJ) (ZJ:Sl Ze wm h Zo Zl p0.qG) (hL:Zsh p0 p1=some r):
 WR XX 47 #[.agg [.slice Zi p0.Zv.length Zh,.slice Zk p0.qK.length Zj,.slice Zq p0.qQ.length Zn,.slice Zp p0.qJ.length Zm,.slice Zo p0.qG.length Zl,.int .i64 p0.said].toArray,.agg [.int .i64 p1.act,.int .i64 p1.a,.int .i64 p1.b].toArray] wm h (CP (fun(v:Value) (Gb:List (Ast wm))=>v= .bool r∧Gb= []) [] h):=by
 refine bg Tryz.ntmps47 Z0 Yh.nil ?_;intro T hT hS;unfold Zsh at hL;refine r3 ?_;rintro _ h2 ⟨b1,eb1,rfl,hS⟩;refine r1 ?_;rintro _ h4 ⟨b3,eb3,rfl,hS⟩;refine r4 ?_;refine r1 ?_;refine WO.w gN rfl (Zbq (Zf lk Zz)) ?_;refine r4 ?_;refine r1 ?_;refine WO.w gN rfl (Zbq (Zf lk Zz)) ?_;refine r3 ?_;refine WC.Za5 (r:=r) (fun(_:Unit) (s:Fs)=>∃ (fr6:Fr) (h5:H),s= ⟨fr6,[],h5,none⟩∧Sp wm T h [] h5) (Znl) ?_ ?_
 ·clear hL hS;rintro _ s hL ⟨fr6,h5,rfl,hS⟩;dsimp only [Znl] at hL;refine r6 ?_;exact rt hL hT hS
 ·skip;refine r8 ?_;refine r1 ?_;refine WC.Za5 (r:=r) (fun(_:Unit) (s:Fs)=>∃ (fr8:Fr) (h7:H),s= ⟨fr8,[],h7,none⟩∧Sp wm T h [bx wm b3 (cS p1),bx wm b1 (cW p0 Zi Zh Zk Zj Zq Zn Zp Zm Zo Zl)] h7∧fr8.at 3= .pointer (some ⟨b3,0,none⟩)∧fr8.at 5= .func (.func 75) #[] [.pointer (some ⟨b1,0,none⟩)].toArray) (ZjQ p0 p1) ?_ ?_
  ·clear hL hS;rintro _ s hL ⟨fr8,h7,rfl,hS,e9,e10⟩;dsimp only [ZjQ] at hL;refine r6 ?_;refine WO.inl gN rfl (Xm.clo (first:= []) (cap:= [.pointer (some ⟨b1,0,none⟩)]) lk ZtZ lks rfl) (WF.begin (args:= [_,_]) (fn:=Tryz.f75) Kq0 (by exact rfl) Tryz.ntmps75 (by simp) ?_);simp only [ZY,Z8,Nat.reduceAdd];refine r16 ?_;refine r4 ?_;refine Yl.X0 rfl (ZP lk ZA) ?_;refine r8 ?_;refine Y9.ret ?_;exact rt hL hT hS
  ·skip;refine XA ?_;refine r3 ?_;refine cn hL ?_ ?_
   ·intro hc hL;refine r8 ?_;refine r3 ?_;refine WO.inl gN rfl (Xm.clo (first:= []) (cap:= [.pointer (some ⟨b1,0,none⟩)]) lk ZFF lks rfl) (WF.begin (args:= [_,_]) (fn:=Tryz.f76) Kq0 (by exact rfl) Tryz.ntmps76 (by simp) ?_);simp only [ZY,Z8,Nat.reduceAdd];refine r16 ?_;refine r4 ?_;refine Yl.X0 rfl (ZP lk ZA) ?_;refine r4 ?_;refine WO.Zbh (Zt.yes rfl rfl rfl (YG rfl (Zy rfl fh))) (fun ZmP=>?_) (fun ZmP=>?_)
    ·replace hL:=JL ZmP hL;refine WO.inl (Zt.on (Zt.yes rfl rfl rfl (YG rfl (Zy rfl fh))) ZmP) rfl (Xm.clo (first:= []) (cap:= [.pointer (some ⟨b1,0,none⟩)]) (Y4 (YG rfl fh) rfl ZmP) ZtZ (Zf (Y4 fh rfl ZmP) Zz) rfl) (WF.begin (args:= [_,_]) (fn:=Tryz.f75) Kq0 (by exact rfl) Tryz.ntmps75 (by simp) ?_);simp only [ZY,Z8,Nat.reduceAdd];refine r16 ?_;refine r4 ?_;refine Yl.X0 rfl (ZP lk ZA) ?_;refine WO.w gN rfl (ZcB lk ZmP lk) ?_;refine r8 ?_;refine r2 ?_;refine Y9.ret ?_;refine r3 ?_;refine Y9.ret ?_;exact rt hL hT hS
    ·replace hL:=JM ZmP hL;refine WO.ZbK (Zt.yes rfl rfl rfl (YG rfl (Zy rfl fh))) ZmP rfl ?_;refine WO.w gN rfl (ZcC lk ZmP lk) ?_;refine r8 ?_;refine r2 ?_;refine Y9.ret ?_;refine r3 ?_;refine Y9.ret ?_;exact rt hL hT hS
   ·intro hc hL;refine r8 ?_;refine r1 ?_;refine cn hL ?_ ?_
    ·intro hc hL;refine r3 ?_;refine U4.other rfl ?_;refine r8 ?_;refine r1 ?_;refine WO.inl gN rfl (Xm.clo (first:= []) (cap:= [.pointer (some ⟨b1,0,none⟩)]) lk ZtZ lks rfl) (WF.begin (args:= [_,_]) (fn:=Tryz.f75) Kq0 (by exact rfl) Tryz.ntmps75 (by simp) ?_);simp only [ZY,Z8,Nat.reduceAdd];refine r16 ?_;refine r4 ?_;refine Yl.X0 rfl (ZP lk ZA) ?_;refine r4 ?_;refine WO.Zbh (Zt.yes rfl rfl rfl (YG rfl (Zy rfl fh))) (fun ZmO=>?_) (fun ZmO=>?_)
     ·replace hL:=JL ZmO hL;refine WO.inl (Zt.on (Zt.yes rfl rfl rfl (YG rfl (Zy rfl fh))) ZmO) rfl (Xm.clo (first:= []) (cap:= [.pointer (some ⟨b1,0,none⟩)]) (Y4 (YG rfl fh) rfl ZmO) ZFF (Zf (Y4 fh rfl ZmO) Zz) rfl) (WF.begin (args:= [_,_]) (fn:=Tryz.f76) Kq0 (by exact rfl) Tryz.ntmps76 (by simp) ?_);simp only [ZY,Z8,Nat.reduceAdd];refine r16 ?_;refine r4 ?_;refine Yl.X0 rfl (ZP lk ZA) ?_;refine WO.w gN rfl (ZcB lk ZmO lk) ?_;refine r8 ?_;refine Y9.ret ?_;refine r3 ?_;refine Y9.ret ?_;exact rt hL hT hS
     ·replace hL:=JM ZmO hL;refine WO.ZbK (Zt.yes rfl rfl rfl (YG rfl (Zy rfl fh))) ZmO rfl ?_;refine WO.w gN rfl (ZcC lk ZmO lk) ?_;refine r8 ?_;refine Y9.ret ?_;refine r3 ?_;refine Y9.ret ?_;exact rt hL hT hS
    ·intro hc hL;refine r8 ?_;refine r1 ?_;refine cn hL ?_ ?_
     ·intro hc hL;refine r3 ?_;refine U4.other rfl ?_;refine r1 ?_;refine U4.other rfl ?_;refine r8 ?_;refine WO.inl gN rfl (Xm.clo (first:= []) (cap:= [.pointer (some ⟨b1,0,none⟩)]) lk ZtZ lks rfl) (WF.begin (args:= [_,_]) (fn:=Tryz.f75) Kq0 (by exact rfl) Tryz.ntmps75 (by simp) ?_);simp only [ZY,Z8,Nat.reduceAdd];refine r16 ?_;refine r4 ?_;refine Yl.X0 rfl (ZP lk ZA) ?_;refine r3 ?_;refine cn hL ?_ ?_
      ·intro hc hL;refine r6 ?_;refine r1 ?_;refine Y9.ret ?_;refine r3 ?_;refine Y9.ret ?_;exact rt hL hT hS
      ·intro hc hL;refine r2 ?_;exact Y9.YZ _ hL ⟨_,_,rfl,hS.only (.c k0 (.c k0 .n)),YA⟩
     ·intro hc hL;refine r8 ?_;refine r1 ?_;refine cn hL ?_ ?_
      ·intro hc hL;refine r3 ?_;refine U4.other rfl ?_;refine r1 ?_;refine U4.other rfl ?_;refine r1 ?_;refine U4.other rfl ?_;refine r2 ?_;exact Y9.YZ _ hL ⟨_,_,rfl,hS.only (.c k0 (.c k0 .n)),YA⟩
      ·intro hc hL;refine r8 ?_;refine cn hL ?_ ?_
       ·intro hc hL;refine r2 ?_;refine U4.other rfl ?_;refine r1 ?_;refine U4.other rfl ?_;refine r1 ?_;refine U4.other rfl ?_;refine r1 ?_;refine U4.other rfl ?_;refine Y9.exit ?_;refine r16 ?_;refine r6 ?_;refine Y9.ret ?_;exact rt hL hT hS
       ·intro hc hL;refine r3 ?_;refine U4.other rfl ?_;refine r1 ?_;refine U4.other rfl ?_;refine r1 ?_;refine U4.other rfl ?_;refine r1 ?_;refine U4.other rfl ?_;refine Y9.exit ?_;refine U4.other rfl ?_;refine r2 ?_;exact Y9.YZ _ hL ⟨_,_,rfl,hS.only .n⟩
theorem ZJs {h:H} {p0:Zb} {p1:ZC} {Zi:Option Addr} {Zh:Nat} {Zk:Option Addr} {Zj:Nat} {Zq:Option Addr} {Zn:Nat} {Zp:Option Addr} {Zm:Nat} {Zo:Option Addr} {Zl:Nat} {r:Bool} (ZB:Sl (Zu .i64) h.size h Zi Zh p0.Zv) (ZN:Sl (ZM (Zu .i64)) h.size h Zk Zj p0.qK) (ZL:Sl (ZM Zc) h.size h Zq Zn p0.qQ) (ZO:Sl (ZM Zg) h.size h Zp Zm p0.qJ) (ZJ:Sl Ze h.size h Zo Zl p0.qG) (hL:Zsh p0 p1=some r):Pure XX 47 #[.agg [.slice Zi p0.Zv.length Zh,.slice Zk p0.qK.length Zj,.slice Zq p0.qQ.length Zn,.slice Zp p0.qJ.length Zm,.slice Zo p0.qG.length Zl,.int .i64 p0.said].toArray,.agg [.int .i64 p1.act,.int .i64 p1.a,.int .i64 p1.b].toArray] h (.bool r):=
 WR.Qy rfl (ZJr (Nat.le_refl _) ZB ZN ZL ZO ZJ hL)
theorem ZJm {F wm:Nat} {h:H} {p0:Zb} {p1:Int} {Zi:Option Addr} {Zh:Nat} {Zk:Option Addr} {Zj:Nat} {Zq:Option Addr} {Zn:Nat} {Zp:Option Addr} {Zm:Nat} {Zo:Option Addr} {Zl:Nat} {r:(XI×Bool)} (Z0:wm <=h.size) (ZB:Sl (Zu .i64) wm h Zi Zh p0.Zv) (ZN:Sl (ZM (Zu .i64)) wm h Zk Zj p0.qK) (ZL:Sl (ZM Zc) wm h Zq Zn p0.qQ) (ZO:Sl (ZM Zg) wm h Zp Zm p0.qJ) (ZJ:Sl Ze wm h Zo Zl p0.qG) (hL:ZAA F p0 p1=some r):
 WR XX 52 #[.agg [.slice Zi p0.Zv.length Zh,.slice Zk p0.qK.length Zj,.slice Zq p0.qQ.length Zn,.slice Zp p0.qJ.length Zm,.slice Zo p0.qG.length Zl,.int .i64 p0.said].toArray,.int .i64 p1] wm h (CP (fun(v:Value) (Gb:List (Ast wm))=>v= .tuple [.agg [.int .i64 r.1.at_,.int .i64 r.1.age,.int .i64 r.1.letter,.bool r.1.is].toArray,.bool r.2].toArray∧Gb= []) [] h):=by
 refine bg Tryz.ntmps52 Z0 Yh.nil ?_;intro T hT hS;unfold ZAA at hL;refine r3 ?_;rintro _ h2 ⟨b1,eb1,rfl,hS⟩;refine r1 ?_;rintro _ h4 ⟨b3,eb3,rfl,hS⟩;refine r6 ?_;rintro _ h6 ⟨b5,eb5,rfl,hS⟩;refine r16 ?_;refine r1 ?_;refine WC.loop (WL.lift hL (fun(p:Int×Int×Int×Int×Int×Bool) (s:Fs)=>match p with | (v13,v16,v18,v19,v20,v21)=>∃ (fr8:Fr) (h7:H),s= ⟨fr8,[],h7,none⟩∧Sp wm T h [bx wm b1 (cW p0 Zi Zh Zk Zj Zq Zn Zp Zm Zo Zl),bx wm b3 [.int .i64 0,.int .i64 0,.int .i64 0,.bool false],bx wm b5 [.int .i64 v18,.int .i64 v19,.int .i64 v20,.bool v21]] h7∧fr8.at 1= .int .i64 p1∧fr8.at 2= .pointer (some ⟨b1,0,none⟩)∧fr8.at 4= .pointer (some ⟨b3,0,none⟩)∧fr8.at 6= .pointer (some ⟨b5,0,none⟩)∧fr8.at 7= .int .i64 v13∧fr8.at 15= .int .i64 (p0.qQ.length:Int)∧fr8.at 16= .int .i64 v16) ⟨_,_,rfl,hS.only (.c k2 (.c k1 (.c k0 .n))),YA⟩ ?_);clear hL hS;rintro Wn ⟨v13,v16,v18,v19,v20,v21⟩ s ZmI hL ⟨fr8,h7,rfl,hS,e9,e10,e11,e12,e14,e15,e17⟩;dsimp only [Znf] at hL;refine r6 ?_;refine cn hL ?_ ?_
 ·intro hc hL;refine r2 ?_;refine WC.Za5 (r:=r) (fun(p:Int×Int×Int×Int×Bool) (s:Fs)=>match p with | (v29,v33,v34,v35,v36)=>∃ (U2:Fr) (h23:H),s= ⟨U2,[],h23,none⟩∧Sp wm T h [bx wm b1 (cW p0 Zi Zh Zk Zj Zq Zn Zp Zm Zo Zl),bx wm b3 [.int .i64 0,.int .i64 0,.int .i64 0,.bool false],bx wm b5 [.int .i64 v33,.int .i64 v34,.int .i64 v35,.bool v36]] h23∧U2.at 1= .int .i64 p1∧U2.at 2= .pointer (some ⟨b1,0,none⟩)∧U2.at 4= .pointer (some ⟨b3,0,none⟩)∧U2.at 6= .pointer (some ⟨b5,0,none⟩)∧U2.at 7= .int .i64 v29∧U2.at 15= .int .i64 (p0.qQ.length:Int)∧U2.at 16= .int .i64 v16) (ZjL v16 Wn) ?_ ?_
  ·clear hL hS;rintro⟨v29,v33,v34,v35,v36⟩ s hL ⟨U2,h23,rfl,hS,e25,e26,e27,e28,e30,e31,e32⟩;dsimp only [ZjL] at hL;refine r4 ?_;exact Yc.YZ (ZmI _ _ hL ⟨_,_,rfl,hS.only (.c k0 (.c k0 (.c k0 .n))),YA⟩)
  ·skip;refine XA ?_;obtain⟨x37,ZdV,hL⟩:=bind_some hL;obtain⟨b38,o39,⟨a40,c41⟩,Zjc,Zjf,Zje,ZlG⟩:=Sl.at_ ZL ZdV;refine WO.w gN rfl (ZE U6 Q5 lk lk rfl Zjc ZdV) ?_;have ZpB:Sl Zc wm h a40 c41 x37:=ZlG;refine WO.w gN rfl (ZW WS (Yi fh rfl) (At.fz hS.fz Zje Zjf) (j:=0) rfl (v:= .slice a40 x37.length c41) rfl) ?_;refine r1 ?_;obtain⟨x42,Zrx,hL⟩:=bind_some hL;obtain⟨b43,o44,_,Zzd,ZzP,Zzx,ZNr⟩:=Sl.at_ ZpB Zrx;refine WO.w gN rfl (ZE U5 XD lk lk rfl Zzd Zrx) ?_;refine r1 ?_;refine WO.w gN rfl (ZW Zwb (Yi fh rfl) (At.fz hS.fz Zzx ZzP) (j:=0) rfl (v:= .bool x42.here) rfl) ?_;refine r2 ?_;refine cn hL ?_ ?_
   ·intro hc hL;refine r6 ?_;obtain⟨Wi,Zps,hL⟩:=bind_some hL;obtain⟨b46,o47,⟨a48,c49⟩,ZpL,ZpS,ZpO,ZpN⟩:=Sl.at_ ZL Zps;refine WO.w gN rfl (ZE U6 Q5 lk lk rfl ZpL Zps) ?_;have ZpA:Sl Zc wm h a48 c49 Wi:=ZpN;refine WO.w gN rfl (ZW WS (Yi fh rfl) (At.fz hS.fz ZpO ZpS) (j:=0) rfl (v:= .slice a48 Wi.length c49) rfl) ?_;refine r1 ?_;obtain⟨x50,ZLB,hL⟩:=bind_some hL;obtain⟨b51,o52,_,ZM5,ZN9,ZNK,ZUJ⟩:=Sl.at_ ZpA ZLB;refine WO.w gN rfl (ZE U5 XD lk lk rfl ZM5 ZLB) ?_;refine r1 ?_;refine WO.w gN rfl (ZW Xn (Yi fh rfl) (At.fz hS.fz ZNK ZN9) (j:=2) rfl (v:= .int .i64 x50.age) rfl) ?_;refine WO.w gN rfl (XP ZA2 (ZG lk (ZG lk (ZG lk (ZG lk Yf)))) rfl (cs':= [.int .i64 v16,.int .i64 x50.age,.int .i64 (-1),.bool true]) rfl) ?_;refine r1 ?_;rintro h53 hS;refine r8 ?_;exact Y9.YZ _ hL ⟨_,_,rfl,hS.only (.c k1 (.c k1 (.c k0 .n))),YA⟩
   ·intro hc hL;refine r2 ?_;exact Y9.YZ _ hL ⟨_,_,rfl,hS.only (.c k0 (.c k0 (.c k0 .n))),YA⟩
 ·intro hc hL;refine XA ?_;refine r3 ?_;refine WC.loop (WL.lift hL (fun(p:Int×Int×Int×Int×Int×Bool) (s:Fs)=>match p with | (v59,v63,v65,v66,v67,v68)=>∃ (Zdh:Fr) (h54:H),s= ⟨Zdh,[],h54,none⟩∧Sp wm T h [bx wm b3 [.int .i64 0,.int .i64 0,.int .i64 0,.bool false],bx wm b5 [.int .i64 v65,.int .i64 v66,.int .i64 v67,.bool v68]] h54∧Zdh.at 1= .int .i64 p1∧Zdh.at 4= .pointer (some ⟨b3,0,none⟩)∧Zdh.at 6= .pointer (some ⟨b5,0,none⟩)∧Zdh.at 7= .int .i64 v59∧Zdh.at 43= .slice Zo p0.qG.length Zl∧Zdh.at 44= .int .i64 (p0.qG.length:Int)∧Zdh.at 45= .int .i64 v63) ⟨_,_,rfl,hS.only (.c k1 (.c k1 .n)),YA⟩ ?_);clear hL hS;rintro Zml ⟨v59,v63,v65,v66,v67,v68⟩ s ZDd hL ⟨Zdh,h54,rfl,hS,e56,e57,e58,e60,e61,e62,e64⟩;dsimp only [ZjM] at hL;refine r6 ?_;refine cn hL ?_ ?_
  ·intro hc hL;refine r6 ?_;refine r1 ?_;obtain⟨x70,Zyj,hL⟩:=bind_some hL;obtain⟨b71,o72,⟨⟨a73,c74⟩,⟨a75,c76⟩⟩,Zy7,ZzI,ZFU,Zzo⟩:=Sl.at_ ZJ Zyj;refine WO.w gN rfl (ZE Jj Y2 lk lk rfl Zy7 Zyj) ?_;have ZLV:Sl (Zu .i64) wm h a73 c74 x70.qV:=Zzo.1;have ZLU:Sl (Zu .i64) wm h a75 c76 x70.Yj:=Zzo.2;refine WO.w gN rfl (Xf Zak Y2 (Yi fh rfl) (At.fz hS.fz ZFU ZzI) (j:=0) rfl rfl (ws:= (cL x70 a73 c74 a75 c76)) rfl) ?_;refine r1 ?_;rintro _ h78 ⟨b77,ZSQ,rfl,hS⟩;refine r2 ?_;rintro h79 hS;refine r8 ?_;refine r3 ?_;refine WC.loop (WL.lift hL (fun(p:Int×Int×Int×Int×Int×Bool) (s:Fs)=>match p with | (v85,v94,v96,v97,v98,v99)=>∃ (Zab:Fr) (h80:H),s= ⟨Zab,[],h80,none⟩∧Sp wm T h [bx wm b3 [.int .i64 0,.int .i64 0,.int .i64 0,.bool false],bx wm b5 [.int .i64 v96,.int .i64 v97,.int .i64 v98,.bool v99],bx wm b77 (cL x70 a73 c74 a75 c76)] h80∧Zab.at 1= .int .i64 p1∧Zab.at 4= .pointer (some ⟨b3,0,none⟩)∧Zab.at 6= .pointer (some ⟨b5,0,none⟩)∧Zab.at 7= .int .i64 v85∧Zab.at 9= .int .i64 v63∧Zab.at 10= .pointer (some ⟨b77,0,none⟩)∧Zab.at 43= .slice Zo p0.qG.length Zl∧Zab.at 44= .int .i64 (p0.qG.length:Int)∧Zab.at 45= .int .i64 v63∧Zab.at 51= .slice a73 x70.qV.length c74∧Zab.at 52= .int .i64 (x70.qV.length:Int)∧Zab.at 53= .int .i64 v94) ⟨_,_,rfl,hS.only (.c k1 (.c k1 (.c k0 .n))),YA⟩ ?_);clear hL hS;rintro ZcY ⟨v85,v94,v96,v97,v98,v99⟩ s ZyR hL ⟨Zab,h80,rfl,hS,e82,e83,e84,e86,e87,e88,e89,e90,e91,e92,e93,e95⟩;dsimp only [Zne] at hL;refine r6 ?_;refine cn hL ?_ ?_
   ·intro hc hL;refine r2 ?_;refine WC.Za5 (r:=r) (fun(p:Int×Int×Int×Int×Bool) (s:Fs)=>match p with | (ZCl,ZuM,v117,ZaA,ZCk)=>∃ (Zai:Fr) (Zvv:H),s= ⟨Zai,[],Zvv,none⟩∧Sp wm T h [bx wm b3 [.int .i64 0,.int .i64 0,.int .i64 0,.bool false],bx wm b5 [.int .i64 ZuM,.int .i64 v117,.int .i64 ZaA,.bool ZCk],bx wm b77 (cL x70 a73 c74 a75 c76)] Zvv∧Zai.at 1= .int .i64 p1∧Zai.at 4= .pointer (some ⟨b3,0,none⟩)∧Zai.at 6= .pointer (some ⟨b5,0,none⟩)∧Zai.at 7= .int .i64 ZCl∧Zai.at 9= .int .i64 v63∧Zai.at 10= .pointer (some ⟨b77,0,none⟩)∧Zai.at 43= .slice Zo p0.qG.length Zl∧Zai.at 44= .int .i64 (p0.qG.length:Int)∧Zai.at 45= .int .i64 v63∧Zai.at 51= .slice a73 x70.qV.length c74∧Zai.at 52= .int .i64 (x70.qV.length:Int)∧Zai.at 53= .int .i64 v94) (ZjK v94 ZcY) ?_ ?_
    ·clear hL hS;rintro⟨ZCl,ZuM,v117,ZaA,ZCk⟩ s hL ⟨Zai,Zvv,rfl,hS,ZOQ,ZTe,ZJJ,ZOP,e108,e109,ZOO,ZZC,ZTc,ZTb,ZJI,e115⟩;dsimp only [ZjK] at hL;refine r4 ?_;exact Yc.YZ (ZyR _ _ hL ⟨_,_,rfl,hS.only (.c k0 (.c k0 (.c k0 .n))),YA⟩)
    ·skip;refine r4 ?_;obtain⟨ZGr,ZFq,hL⟩:=bind_some hL;obtain⟨Z0z,ZWN,_,ZHN,ZID,ZIb,ZSh⟩:=Sl.at_ ZLV ZFq;refine WO.w gN rfl (ZE YE YF lk lk rfl ZHN ZFq) ?_;refine WO.w gN rfl (ZW Xn (Yi fh rfl) (At.fz hS.fz ZIb ZID) (j:=0) rfl (v:= .int .i64 ZGr) rfl) ?_;refine r16 ?_;refine r2 ?_;refine cn hL ?_ ?_
     ·intro hc hL;refine r1 ?_;refine WC.Xx mixed Kq0 ?_;refine r4 ?_;refine r1 ?_;obtain⟨ZkD,Zpy,hL⟩:=bind_some hL;obtain⟨ZPj,ZQW,_,ZrL,ZrQ,ZrN,ZHY⟩:=Sl.at_ ZLU Zpy;refine WX.w gN rfl (ZE YE YF lk lk rfl ZrL Zpy) ?_ rfl;refine WX.w gN rfl (ZW Xn (Yi fh rfl) (At.fz hS.fz ZrN ZrQ) (j:=0) rfl (v:= .int .i64 ZkD) rfl) ?_ rfl;refine r1 ?_;refine WX.w gN rfl (XP ZA2 (ZG lk (ZG lk (ZG lk (ZG lk Yf)))) rfl (cs':= [.int .i64 x70.Z9,.int .i64 ZkD,.int .i64 v63,.bool false]) rfl) ?_ rfl;refine WX.hu gN (ZaI hS k1 Qe lk lk (vs:= [.int .i64 x70.Z9,.int .i64 ZkD,.int .i64 v63,.bool false]) rfl rfl rfl rfl (cs':= [.int .i64 x70.Z9,.int .i64 ZkD,.int .i64 v63,.bool false]) rfl) ?_ rfl rfl [] Kq0 YV.e;rintro ZOx hS;refine r8 ?_;exact Y9.YZ _ hL ⟨_,_,rfl,hS.only (.c k1 (.c k0 (.c k0 .n))),YA⟩
     ·intro hc hL;refine r2 ?_;exact Y9.YZ _ hL ⟨_,_,rfl,hS.only (.c k0 (.c k0 (.c k0 .n))),YA⟩
   ·intro hc hL;refine r8 ?_;refine r2 ?_;exact Yc.YZ (ZDd _ _ hL ⟨_,_,rfl,hS.only (.c k0 (.c k0 .n)),YA⟩)
  ·intro hc hL;refine r8 ?_;refine r3 ?_;rintro h127 hS;refine r4 ?_;have hr:=Oi0 hL;subst hr;exact Yl.gen (vs:= [.agg [.int .i64 v65,.int .i64 v66,.int .i64 v67,.bool v68].toArray,.bool (v59==1)]) rfl (Y6 (Y5 rfl (Zy rfl e57)) (UA Zko Qe (hS.atB k0) (j:=0) rfl rfl (ws:= [.int .i64 v65,.int .i64 v66,.int .i64 v67,.bool v68]) rfl) (ZP lk ZA)) rfl ⟨_,⟨rfl,rfl⟩,hT ▸ hS.only .n⟩
theorem ZJl {wm:Nat} {h:H} {p0:Zb} {p1:Int} {p2:XI} {p3 p4:Int} {Zi:Option Addr} {Zh:Nat} {Zk:Option Addr} {Zj:Nat} {Zq:Option Addr} {Zn:Nat} {Zp:Option Addr} {Zm:Nat} {Zo:Option Addr} {Zl:Nat} {r:Bool} (Z0:wm <=h.size) (ZB:Sl (Zu .i64) wm h Zi Zh p0.Zv) (ZN:Sl (ZM (Zu .i64)) wm h Zk Zj p0.qK) (ZL:Sl (ZM Zc) wm h Zq Zn p0.qQ) (ZO:Sl (ZM Zg) wm h Zp Zm p0.qJ) (ZJ:Sl Ze wm h Zo Zl p0.qG) (hL:Znd p0 p1 p2 p3 p4=some r):
 WR XX 53 #[.agg [.slice Zi p0.Zv.length Zh,.slice Zk p0.qK.length Zj,.slice Zq p0.qQ.length Zn,.slice Zp p0.qJ.length Zm,.slice Zo p0.qG.length Zl,.int .i64 p0.said].toArray,.int .i64 p1,.agg [.int .i64 p2.at_,.int .i64 p2.age,.int .i64 p2.letter,.bool p2.is].toArray,.int .i64 p3,.int .i64 p4] wm h (CP (fun(v:Value) (Gb:List (Ast wm))=>v= .bool r∧Gb= []) [] h):=by
 refine bg Tryz.ntmps53 Z0 Yh.nil ?_;intro T hT hS;unfold Znd at hL;refine r3 ?_;rintro _ h2 ⟨b1,eb1,rfl,hS⟩;refine r1 ?_;rintro _ h4 ⟨b3,eb3,rfl,hS⟩;refine r16 ?_;refine r8 ?_;refine r3 ?_;refine cn hL ?_ ?_
 ·intro hc hL;refine r6 ?_;refine r1 ?_;exact rt hL hT hS
 ·intro hc hL;refine r8 ?_;refine r3 ?_;refine cn hL ?_ ?_
  ·intro hc hL;refine r8 ?_;refine r3 ?_;exact rt hL hT hS
  ·intro hc hL;refine r6 ?_;refine r1 ?_;obtain⟨x5,hx5,hL⟩:=bind_some hL;obtain⟨b6,o7,⟨a8,c9⟩,ZHx,ZIk,ZH1,ZNl⟩:=Sl.at_ ZL hx5;refine WO.w gN rfl (ZE U6 Q5 lk lk rfl ZHx hx5) ?_;have ZRy:Sl Zc wm h a8 c9 x5:=ZNl;refine WO.w gN rfl (ZW WS (Yi fh rfl) (At.fz hS.fz ZH1 ZIk) (j:=0) rfl (v:= .slice a8 x5.length c9) rfl) ?_;refine r1 ?_;obtain⟨x10,ZLO,hL⟩:=bind_some hL;obtain⟨b11,o12,_,ZNf,ZOk,ZNV,ZUR⟩:=Sl.at_ ZRy ZLO;refine WO.w gN rfl (ZE U5 XD lk lk rfl ZNf ZLO) ?_;refine r1 ?_;refine WO.w gN rfl (ZW Xn (Yi fh rfl) (At.fz hS.fz ZNV ZOk) (j:=2) rfl (v:= .int .i64 x10.age) rfl) ?_;refine r6 ?_;exact rt hL hT hS
theorem Zse {h:H} {p0:Zb} {p1:Int} {p2:XI} {p3 p4:Int} {Zi:Option Addr} {Zh:Nat} {Zk:Option Addr} {Zj:Nat} {Zq:Option Addr} {Zn:Nat} {Zp:Option Addr} {Zm:Nat} {Zo:Option Addr} {Zl:Nat} {r:Bool} (ZB:Sl (Zu .i64) h.size h Zi Zh p0.Zv) (ZN:Sl (ZM (Zu .i64)) h.size h Zk Zj p0.qK) (ZL:Sl (ZM Zc) h.size h Zq Zn p0.qQ) (ZO:Sl (ZM Zg) h.size h Zp Zm p0.qJ) (ZJ:Sl Ze h.size h Zo Zl p0.qG) (hL:Znd p0 p1 p2 p3 p4=some r):Pure XX 53 #[.agg [.slice Zi p0.Zv.length Zh,.slice Zk p0.qK.length Zj,.slice Zq p0.qQ.length Zn,.slice Zp p0.qJ.length Zm,.slice Zo p0.qG.length Zl,.int .i64 p0.said].toArray,.int .i64 p1,.agg [.int .i64 p2.at_,.int .i64 p2.age,.int .i64 p2.letter,.bool p2.is].toArray,.int .i64 p3,.int .i64 p4] h (.bool r):=
 WR.Qy rfl (ZJl (Nat.le_refl _) ZB ZN ZL ZO ZJ hL)
theorem ZJk {wm:Nat} {h:H} {p0:Zb} {p1:(List XI)} {p2:Zr} {p3:Int} {p4:Bool} {Zi:Option Addr} {Zh:Nat} {Zk:Option Addr} {Zj:Nat} {Zq:Option Addr} {Zn:Nat} {Zp:Option Addr} {Zm:Nat} {Zo:Option Addr} {Zl:Nat} {Xi:Option Addr} {Xh:Nat} {r:Bool} (Z0:wm <=h.size) (ZB:Sl (Zu .i64) wm h Zi Zh p0.Zv) (ZN:Sl (ZM (Zu .i64)) wm h Zk Zj p0.qK) (ZL:Sl (ZM Zc) wm h Zq Zn p0.qQ) (ZO:Sl (ZM Zg) wm h Zp Zm p0.qJ) (ZJ:Sl Ze wm h Zo Zl p0.qG) (XM:Sl Zb5 wm h Xi Xh p1) (hL:Zp1 p0 p1 p2 p3 p4=some r):
 WR XX 54 #[.agg [.slice Zi p0.Zv.length Zh,.slice Zk p0.qK.length Zj,.slice Zq p0.qQ.length Zn,.slice Zp p0.qJ.length Zm,.slice Zo p0.qG.length Zl,.int .i64 p0.said].toArray,.slice Xi p1.length Xh,.agg [.int .i64 p2.msg,.int .i64 p2.place,.int .i64 p2.from_,.int .i64 p2.age,.int .i64 p2.hops].toArray,.int .i64 p3,.bool p4] wm h (CP (fun(v:Value) (Gb:List (Ast wm))=>v= .bool r∧Gb= []) [] h):=by
 refine bg Tryz.ntmps54 Z0 Yh.nil ?_;intro T hT hS;unfold Zp1 at hL;refine r3 ?_;rintro _ h2 ⟨b1,eb1,rfl,hS⟩;refine r1 ?_;rintro _ h4 ⟨b3,eb3,rfl,hS⟩;refine r16 ?_;refine r16 ?_;refine r16 ?_;refine r6 ?_;refine r1 ?_;refine cn hL ?_ ?_
 ·intro hc hL;refine r6 ?_;refine r1 ?_;exact rt hL hT hS
 ·intro hc hL;refine r6 ?_;refine r1 ?_;obtain⟨x5,hx5,hL⟩:=bind_some hL;obtain⟨b6,o7,_,ZHx,ZIk,ZH1,ZNl⟩:=Sl.at_ XM hx5;refine WO.w gN rfl (ZE WV Qe lk lk rfl ZHx hx5) ?_;refine WO.w gN rfl (Xf Zko Qe (Yi fh rfl) (At.fz hS.fz ZH1 ZIk) (j:=0) rfl rfl (ws:= [.int .i64 x5.at_,.int .i64 x5.age,.int .i64 x5.letter,.bool x5.is]) rfl) ?_;refine r1 ?_;rintro _ h9 ⟨b8,eb8,rfl,hS⟩;refine r1 ?_;rintro h10 hS;refine r8 ?_;refine cn hL ?_ ?_
  ·intro hc hL;refine r16 ?_;refine r6 ?_;refine r1 ?_;exact rt hL hT hS
  ·intro hc hL;refine r8 ?_;refine r3 ?_;obtain⟨Xw,ZhC,hL⟩:=bind_some hL;refine WO.cp gN rfl (Xm.fn Zy1 (Zf lk (Zf lk (Zf lk (Zf lk (Zf lk Zz)))))) (Zse (hS.Y0 ZB) (hS.Y0 ZN) (hS.Y0 ZL) (hS.Y0 ZO) (hS.Y0 ZJ) ZhC) ?_;refine r4 ?_;exact rt hL hT hS
theorem ZAz {h:H} {p0:Zb} {p1:(List XI)} {p2:Zr} {p3:Int} {p4:Bool} {Zi:Option Addr} {Zh:Nat} {Zk:Option Addr} {Zj:Nat} {Zq:Option Addr} {Zn:Nat} {Zp:Option Addr} {Zm:Nat} {Zo:Option Addr} {Zl:Nat} {Xi:Option Addr} {Xh:Nat} {r:Bool} (ZB:Sl (Zu .i64) h.size h Zi Zh p0.Zv) (ZN:Sl (ZM (Zu .i64)) h.size h Zk Zj p0.qK) (ZL:Sl (ZM Zc) h.size h Zq Zn p0.qQ) (ZO:Sl (ZM Zg) h.size h Zp Zm p0.qJ) (ZJ:Sl Ze h.size h Zo Zl p0.qG) (XM:Sl Zb5 h.size h Xi Xh p1) (hL:Zp1 p0 p1 p2 p3 p4=some r):Pure XX 54 #[.agg [.slice Zi p0.Zv.length Zh,.slice Zk p0.qK.length Zj,.slice Zq p0.qQ.length Zn,.slice Zp p0.qJ.length Zm,.slice Zo p0.qG.length Zl,.int .i64 p0.said].toArray,.slice Xi p1.length Xh,.agg [.int .i64 p2.msg,.int .i64 p2.place,.int .i64 p2.from_,.int .i64 p2.age,.int .i64 p2.hops].toArray,.int .i64 p3,.bool p4] h (.bool r):=
 WR.Qy rfl (ZJk (Nat.le_refl _) ZB ZN ZL ZO ZJ XM hL)
end Go.Proofs.YtbmbbcaaimehkaaGreat
end
end
section
namespace Go.Proofs.YtbmbbcaaimehkaaGreat
open Go.Lf
def Znb (v35:Int) (ZdQ:((List Int)×Int ->Option (List Int))) (x38:(List Zr)):(List Int)×Int ->((List Int)×Int ->Option (List Int)) ->Option (List Int):=fun(v46,v56) ZxQ=>
 (bif decide (v56 < (x38.length:Int)) then(ZT x38 v56).bind fun x59=>(app 8 v46 [x59.msg]).bind fun z67=>ZxQ (z67,Xd (v56 + 1)) else ZdQ (v46,Xd (v35 + 1)))
def ZjH (v80:Int) (ZfS:((List Int)×Int ->Option (List Int))):(List Int) ->Option (List Int):=fun v85=>
 ZfS (v85,Xd (v80 + 1))
def ZjI (p0:Zb):(List Int)×Int ->((List Int)×Int ->Option (List Int)) ->Option (List Int):=fun(v73,v80) ZfS=>
 (bif decide (v80 < (p0.qG.length:Int)) then(ZT p0.qG v80).bind fun x93=>(bif(x93.kind==1) then(app 8 v73 [x93.Ya.msg]).bind fun z105=>(ZjH v80 ZfS) z105 else(ZjH v80 ZfS) v73) else some v73)
def ZjJ (F:Nat) (p0:Zb):(List Int)×Int ->((List Int)×Int ->Option (List Int)) ->Option (List Int):=fun(v28,v35) ZdQ=>
 (bif decide (v35 < (p0.qJ.length:Int)) then(ZT p0.qJ v35).bind fun x38=>loop F (Znb v35 ZdQ x38) (v28,0) else loop F (ZjI p0) (v28,0))
def Znc (F:Nat) (p0:Zb):(List Int)×Int ->((List Int)×Int ->Option (List Int)) ->Option (List Int):=fun(v6,v13) ZiK=>
 (bif decide (v13 < (p0.qK.length:Int)) then(ZT p0.qK v13).bind fun x16=>(app 8 v6 x16).bind fun z21=>ZiK (z21,Xd (v13 + 1)) else loop F (ZjJ F p0) (v6,0))
def ZAy (F:Nat) (p0:Zb):Option (List Int):=
 loop F (Znc F p0) ([],0)
end Go.Proofs.YtbmbbcaaimehkaaGreat
end
section
set_option maxRecDepth 20000
set_option maxHeartbeats 4000000
noncomputable section
namespace Go.Proofs.YtbmbbcaaimehkaaGreat
open Go.YL Go.Lf
theorem ZJj {F wm:Nat} {h:H} {p0:Zb} {Zi:Option Addr} {Zh:Nat} {Zk:Option Addr} {Zj:Nat} {Zq:Option Addr} {Zn:Nat} {Zp:Option Addr} {Zm:Nat} {Zo:Option Addr} {Zl:Nat} {r:(List Int)} (Z0:wm <=h.size) (ZB:Sl (Zu .i64) wm h Zi Zh p0.Zv) (ZN:Sl (ZM (Zu .i64)) wm h Zk Zj p0.qK) (ZL:Sl (ZM Zc) wm h Zq Zn p0.qQ) (ZO:Sl (ZM Zg) wm h Zp Zm p0.qJ) (ZJ:Sl Ze wm h Zo Zl p0.qG) (hL:ZAy F p0=some r):
 WR XX 55 #[.agg [.slice Zi p0.Zv.length Zh,.slice Zk p0.qK.length Zj,.slice Zq p0.qQ.length Zn,.slice Zp p0.qJ.length Zm,.slice Zo p0.qG.length Zl,.int .i64 p0.said].toArray] wm h (CP (fun(v:Value) (Gb:List (Ast wm))=>∃ (X7:Option Addr) (X5:Nat) (X6:Nat),v= .slice X7 X5 X6∧Gb= [ow wm (Zu .i64) X7 X5 X6 r]) [] h):=by
 refine bg Tryz.ntmps55 Z0 Yh.nil ?_;intro T hT hS;unfold ZAy at hL;refine r3 ?_;rintro _ h2 ⟨b1,eb1,rfl,hS⟩;refine r16 ?_;refine r2 ?_;have hS:=hS.nil (e:= (Zu .i64));refine WC.loop (WL.lift hL (fun(p:(List Int)×Int) (s:Fs)=>match p with | (v6,v13)=>∃ (Wo:Fr) (h3:H) (a7:Option Addr) (c8:Nat) (n9:Nat),s= ⟨Wo,[],h3,none⟩∧Sp wm T h [ow wm (Zu .i64) a7 n9 c8 v6,bx wm b1 (cW p0 Zi Zh Zk Zj Zq Zn Zp Zm Zo Zl)] h3∧Wo.at 1= .pointer (some ⟨b1,0,none⟩)∧Wo.at 3= .slice a7 n9 c8∧Wo.at 13= .slice Zk p0.qK.length Zj∧Wo.at 14= .int .i64 (p0.qK.length:Int)∧Wo.at 15= .int .i64 v13) ⟨_,_,none,0,0,rfl,hS.only (.c k0 (.c k0 .n)),YA⟩ ?_);clear hL hS;rintro ZiK ⟨v6,v13⟩ s ZmK hL ⟨Wo,h3,a7,c8,n9,rfl,hS,e5,e10,e11,e12,e14⟩;obtain rfl:=hS.on k0;dsimp only [Znc] at hL;refine r6 ?_;refine cn hL ?_ ?_
 ·intro hc hL;refine r6 ?_;obtain⟨x16,hx16,hL⟩:=bind_some hL;obtain⟨b17,o18,⟨a19,c20⟩,Zzk,ZzV,ZzC,Zt7⟩:=Sl.at_ ZN hx16;refine WO.w gN rfl (ZE Zbx JR lk lk rfl Zzk hx16) ?_;have ZtS:Sl (Zu .i64) wm h a19 c20 x16:=Zt7;refine WO.w gN rfl (ZW ZdA (Yi fh rfl) (At.fz hS.fz ZzC ZzV) (j:=0) rfl (v:= .slice a19 x16.length c20) rfl) ?_;refine r6 ?_;obtain⟨z21,ZRc,hL⟩:=bind_some hL;refine WO.hv gN rfl (Ko (e:= (Zu .i64)) hS k0 QX lk lk (Sl.src (hS.sl ZtS)) rfl ZRc) ?_;rintro _ h24 ⟨a22,c23,rfl,hS⟩;refine r8 ?_;exact Yc.YZ (ZmK _ _ hL ⟨_,_,a22,c23,z21.length,rfl,hS.only (.c k0 (.c k0 .n)),YA⟩)
 ·intro hc hL;refine XA ?_;refine r3 ?_;refine WC.loop (WL.lift hL (fun(p:(List Int)×Int) (s:Fs)=>match p with | (v28,v35)=>∃ (Zr2:Fr) (h25:H) (a29:Option Addr) (c30:Nat) (n31:Nat),s= ⟨Zr2,[],h25,none⟩∧Sp wm T h [ow wm (Zu .i64) a29 n31 c30 v28,bx wm b1 (cW p0 Zi Zh Zk Zj Zq Zn Zp Zm Zo Zl)] h25∧Zr2.at 1= .pointer (some ⟨b1,0,none⟩)∧Zr2.at 3= .slice a29 n31 c30∧Zr2.at 24= .slice Zp p0.qJ.length Zm∧Zr2.at 25= .int .i64 (p0.qJ.length:Int)∧Zr2.at 26= .int .i64 v35) ⟨_,_,a7,c8,v6.length,rfl,hS.only (.c k0 (.c k0 .n)),YA⟩ ?_);clear hL hS;rintro ZdQ ⟨v28,v35⟩ s ZmF hL ⟨Zr2,h25,a29,c30,n31,rfl,hS,e27,e32,e33,e34,e36⟩;obtain rfl:=hS.on k0;dsimp only [ZjJ] at hL;refine r6 ?_;refine cn hL ?_ ?_
  ·intro hc hL;refine r6 ?_;obtain⟨x38,hx38,hL⟩:=bind_some hL;obtain⟨b39,o40,⟨a41,c42⟩,Zzf,ZzR,Zzz,ZFR⟩:=Sl.at_ ZO hx38;refine WO.w gN rfl (ZE Kb QR lk lk rfl Zzf hx38) ?_;have ZL0:Sl Zg wm h a41 c42 x38:=ZFR;refine WO.w gN rfl (ZW ZbF (Yi fh rfl) (At.fz hS.fz Zzz ZzR) (j:=0) rfl (v:= .slice a41 x38.length c42) rfl) ?_;refine r8 ?_;refine r3 ?_;refine WC.loop (WL.lift hL (fun(p:(List Int)×Int) (s:Fs)=>match p with | (v46,v56)=>∃ (ZkU:Fr) (h43:H) (a47:Option Addr) (c48:Nat) (n49:Nat),s= ⟨ZkU,[],h43,none⟩∧Sp wm T h [ow wm (Zu .i64) a47 n49 c48 v46,bx wm b1 (cW p0 Zi Zh Zk Zj Zq Zn Zp Zm Zo Zl)] h43∧ZkU.at 1= .pointer (some ⟨b1,0,none⟩)∧ZkU.at 3= .slice a47 n49 c48∧ZkU.at 24= .slice Zp p0.qJ.length Zm∧ZkU.at 25= .int .i64 (p0.qJ.length:Int)∧ZkU.at 26= .int .i64 v35∧ZkU.at 30= .slice a41 x38.length c42∧ZkU.at 31= .int .i64 (x38.length:Int)∧ZkU.at 32= .int .i64 v56) ⟨_,_,a29,c30,v28.length,rfl,hS.only (.c k0 (.c k0 .n)),YA⟩ ?_);clear hL hS;rintro ZxQ ⟨v46,v56⟩ s ZDi hL ⟨ZkU,h43,a47,c48,n49,rfl,hS,e45,e50,e51,e52,e53,e54,e55,e57⟩;obtain rfl:=hS.on k0;dsimp only [Znb] at hL;refine r6 ?_;refine cn hL ?_ ?_
   ·intro hc hL;refine r6 ?_;obtain⟨x59,ZLz,hL⟩:=bind_some hL;obtain⟨b60,o61,_,ZM3,ZN6,ZNF,ZUG⟩:=Sl.at_ ZL0 ZLz;refine WO.w gN rfl (ZE ZaB JQ lk lk rfl ZM3 ZLz) ?_;refine WO.w gN rfl (Xf Zkm JQ (Yi fh rfl) (At.fz hS.fz ZNF ZN6) (j:=0) rfl rfl (ws:= (cM x59)) rfl) ?_;refine r1 ?_;rintro _ h63 ⟨b62,ZYI,rfl,hS⟩;refine r1 ?_;rintro h64 hS;refine r6 ?_;refine WO.hn gN rfl (K9 (e:= (Zu .i64)) hS YE YF Zbv rfl rfl rfl (ZG lk Yf) rfl [((),x59.msg)] rfl (xs:= [x59.msg]) rfl (by intro q hq;simp only [List.mem_cons,List.not_mem_nil,or_false] at hq;subst hq;exact trivial) rfl) ?_;rintro _ h66 ⟨b65,ZYG,rfl,hS⟩;obtain⟨z67,ZQ6,hL⟩:=bind_some hL;refine WO.hv gN rfl (Ko (e:= (Zu .i64)) hS k2 QX lk lk (hS.QE k0) (hS.on k0) ZQ6) ?_;rintro _ h70 ⟨a68,c69,rfl,hS⟩;refine r8 ?_;exact Yc.YZ (ZDi _ _ hL ⟨_,_,a68,c69,z67.length,rfl,hS.only (.c k0 (.c k2 .n)),YA⟩)
   ·intro hc hL;refine r8 ?_;refine r2 ?_;exact Yc.YZ (ZmF _ _ hL ⟨_,_,a47,c48,v46.length,rfl,hS.only (.c k0 (.c k0 .n)),YA⟩)
  ·intro hc hL;refine XA ?_;refine r3 ?_;refine WC.loop (WL.lift hL (fun(p:(List Int)×Int) (s:Fs)=>match p with | (v73,v80)=>∃ (ZvA:Fr) (h71:H) (a74:Option Addr) (c75:Nat) (n76:Nat),s= ⟨ZvA,[],h71,none⟩∧Sp wm T h [ow wm (Zu .i64) a74 n76 c75 v73] h71∧ZvA.at 3= .slice a74 n76 c75∧ZvA.at 44= .slice Zo p0.qG.length Zl∧ZvA.at 45= .int .i64 (p0.qG.length:Int)∧ZvA.at 46= .int .i64 v80) ⟨_,_,a29,c30,v28.length,rfl,hS.only (.c k0 .n),YA⟩ ?_);clear hL hS;rintro ZfS ⟨v73,v80⟩ s ZC9 hL ⟨ZvA,h71,a74,c75,n76,rfl,hS,e77,e78,e79,e81⟩;obtain rfl:=hS.on k0;dsimp only [ZjI] at hL;refine r6 ?_;refine cn hL ?_ ?_
   ·intro hc hL;refine r2 ?_;refine WC.Za5 (r:=r) (fun(v85:(List Int)) (s:Fs)=>∃ (Zvz:Fr) (h83:H) (a86:Option Addr) (c87:Nat) (n88:Nat),s= ⟨Zvz,[],h83,none⟩∧Sp wm T h [ow wm (Zu .i64) a86 n88 c87 v85] h83∧Zvz.at 3= .slice a86 n88 c87∧Zvz.at 44= .slice Zo p0.qG.length Zl∧Zvz.at 45= .int .i64 (p0.qG.length:Int)∧Zvz.at 46= .int .i64 v80) (ZjH v80 ZfS) ?_ ?_
    ·clear hL hS;rintro v85 s hL ⟨Zvz,h83,a86,c87,n88,rfl,hS,e89,e90,e91,e92⟩;obtain rfl:=hS.on k0;dsimp only [ZjH] at hL;refine r4 ?_;exact Yc.YZ (ZC9 _ _ hL ⟨_,_,a86,c87,v85.length,rfl,hS.only (.c k0 .n),YA⟩)
    ·skip;refine r3 ?_;obtain⟨x93,hx93,hL⟩:=bind_some hL;obtain⟨b94,o95,⟨⟨a96,c97⟩,⟨a98,c99⟩⟩,Zy5,ZzF,Zzu,ZpM⟩:=Sl.at_ ZJ hx93;refine WO.w gN rfl (ZE Jj Y2 lk lk rfl Zy5 hx93) ?_;have ZLR:Sl (Zu .i64) wm h a96 c97 x93.qV:=ZpM.1;have ZLQ:Sl (Zu .i64) wm h a98 c99 x93.Yj:=ZpM.2;refine WO.w gN rfl (Xf Zak Y2 (Yi fh rfl) (At.fz hS.fz Zzu ZzF) (j:=0) rfl rfl (ws:= (cL x93 a96 c97 a98 c99)) rfl) ?_;refine r1 ?_;rintro _ Zvv ⟨Zcz,ZF1,rfl,hS⟩;refine r1 ?_;rintro ZOA hS;refine r8 ?_;refine r1 ?_;refine cn hL ?_ ?_
     ·intro hc hL;refine r4 ?_;refine r1 ?_;refine WO.hn gN rfl (K9 (e:= (Zu .i64)) hS YE YF Zbv rfl rfl rfl (ZG lk Yf) rfl [((),x93.Ya.msg)] rfl (xs:= [x93.Ya.msg]) rfl (by intro q hq;simp only [List.mem_cons,List.not_mem_nil,or_false] at hq;subst hq;exact trivial) rfl) ?_;rintro _ ZOz ⟨ZTE,ZOM,rfl,hS⟩;obtain⟨z105,Zyh,hL⟩:=bind_some hL;refine WO.hv gN rfl (Ko (e:= (Zu .i64)) hS k2 QX lk lk (hS.QE k0) (hS.on k0) Zyh) ?_;rintro _ ZSI ⟨Zks,c107,rfl,hS⟩;refine r3 ?_;exact Y9.YZ _ hL ⟨_,_,Zks,c107,z105.length,rfl,hS.only (.c k0 .n),YA⟩
     ·intro hc hL;refine r2 ?_;exact Y9.YZ _ hL ⟨_,_,a74,c75,v73.length,rfl,hS.only (.c k1 .n),YA⟩
   ·intro hc hL;refine XA ?_;have hr:=Oi0 hL;subst hr;exact Yl.X0 rfl (ZP lk ZA) ⟨_,⟨a74,v73.length,c75,rfl,rfl⟩,hT ▸ hS.only (.c k0 .n)⟩
end Go.Proofs.YtbmbbcaaimehkaaGreat
end
end
