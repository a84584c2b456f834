/- Part 9. -/
import Derived.Test.YtcnahmgekicbdaaGreatBa8
set_option linter.all false
set_option maxHeartbeats 2000000
section
noncomputable section
namespace Go.YH
open Go.Lf
section
variable {X:Ctx} {n wm:Nat} {rd:Option Nat} {ops:Array Oper} {ol:List Oper} {fr:Fr} {ds:List Deferred} {h h0:H} {ty:TypeId} {p:String} {af:Array Edge} {g:Option (Nat×Bool)} {T:Nat ->Prop} {G Gr:List (Ast wm)} {d l df:Nat} {LO:XH} {ps:Array Tmp} {YA bd:Code}
theorem Zmt {α β:Type} {body:α ->(α ->Option β) ->Option β} (C:α ->β ->Prop) (hb:∀ next:α ->Option β,(∀ x r,next x=some r ->C x r) ->∀ x r,body x next=some r ->C x r):∀ F x r,loop F body x=some r ->C x r:=by
 intro F
 induction F with
 | zero=>intro x r h;cases h
 | succ F ih=>intro x r h;exact hb _ ih x r h
def dne (c:Code):XH ->XH
 | .loop _ _ fr n ps YA bd df=>.loop .done (some c) fr n ps YA bd df
 | A=>A
def lst (b:Bool) (c:Code) (A:XH):XH:=bif b then dne c A else A
inductive ZrE:XX ->Code ->Prop
 | ret:ZrE .ret .ret
 | exit (id:Nat):ZrE (.exit id) (.exit id)
structure BdS (n lo l:Nat) (fr:Fr) (ps:Array Tmp) (YA bd:Code) (df:Nat) (R:Bool ->H ->Prop) (e:XX) (s:Fs):Prop where
 out:s.h.at l= .loop .busy none fr n ps YA bd df∧
  ((e= .normal∧∀ h',(lo <=l ->Up lo (fun i=>i=l) s.h h') ->h'.at l= .loop .ready none fr n ps YA bd df ->R true h')∨
   (∃ c,ZrE e c∧∀ h',(lo <=l ->Up lo (fun i=>i=l) s.h h') ->h'.at l= .loop .done (some c) fr n ps YA bd df ->R false h'))
structure AsS (X:Ctx) (n wm lo l:Nat) (fr:Fr) (ps:Array Tmp) (YA bd:Code) (df:Nat) (R:Bool ->H ->Prop) (e:XX) (s:Fs):Prop where
 out:e= .normal∧s.h.at l= .loop .ready none fr n ps YA bd df∧∀ h1,(lo <=l ->Up lo (fun i=>i=l) s.h h1) ->h1.at l= .loop .busy none fr n ps YA bd df ->WC X n wm (some l) bd ⟨s.fr,s.ds,h1,s.wr⟩ (BdS n lo l fr ps YA bd df R)
theorem Zp7.mkS {l:Nat} {args:List Value} {fr fr1:Fr} {ps:Array Tmp} {YA bd:Code} {df:Nat} {R:Bool ->H ->Prop} (lo:Nat) (hat:h.at l= .loop .ready none fr n ps YA bd df) (hw:wm <=l) (hl:Nat.beq args.length ps.toList.length=true) (hs:Qy (ps.toList.zip args) n fr=some fr1)
 (k:WC X n wm (some l) YA ⟨fr1,[],h,none⟩ (AsS X n wm lo l fr ps YA bd df R)):Zp7 X l args.toArray wm h R:=by
 obtain⟨e1,s1,⟨rfl,h1,k1⟩,j1⟩:=k;have o1:(s1.h.at l).own=true:=by rw [h1];rfl
 have s1l:=Qc h1 rfl;obtain⟨e2,s2,⟨h2,k2⟩,j2⟩:=k1 (s1.h.put l (.loop .busy none fr n ps YA bd df)) (fun hl=>Up.put hl o1) (YX s1l _);have o2:(s2.h.at l).own=true:=by rw [h2];rfl
 have s2l:=Qc h2 rfl
 have key:∃ b A,R b (s2.h.put l A)∧Wp l e2 s2=some (.fin (.ret (.bool b)) (s2.h.put l A)):=by
  rcases k2 with⟨rfl,k2⟩ | ⟨c,hx,k2⟩
  ·refine⟨true,_,k2 _ (fun hl=>Up.put hl o2) (YX s2l _),?_⟩;unfold Wp;rw [h2]
  ·refine⟨false,_,k2 _ (fun hl=>Up.put hl o2) (YX s2l _),?_⟩;unfold Wp;rw [h2];cases hx <;> rfl
 obtain⟨b,A,hR,hev⟩:=key;refine⟨b,s2.h.put l A,hR,?_⟩
 classical
 let ih:Jc ->Option Y3:=fun j=>if j= .code YA n wm (some l) ⟨fr1,[],h,none⟩ then some (.code .normal s1) else K5 (.code bd n wm (some l) {s1 with h:=s1.h.put l (.loop .busy none fr n ps YA bd df)}) (.code e2 s2) j
 have HI:∀ j r,ih j=some r ->YZ X j r:=by
  intro j r e;dsimp only [ih] at e;split at e
  ·rename_i hj;cases e;rw [hj];exact j1
  ·exact Uh (X:=X) j2 j r e
 refine K9 (C:=cfg X fun _=>false) (ih:=ih) HI ?_;unfold Zct;rw [hat];have hl':Nat.beq args.toArray.toList.length ps.toList.length=true:=hl;dsimp only;rw [Nm0 hw,hl'];simp only [Bool.and_self,Cq1];have hs':Qy (ps.toList.zip args.toArray.toList) n fr=some fr1:=hs;rw [hs'];dsimp only;have i1:ih (.code YA n wm (some l) {fr:=fr1,ds:= [],h:=h})=some (.code .normal s1):=by dsimp only [ih];rw [if_pos rfl]
 rw [i1];show Ky ih l bd n wm .normal s1=_;unfold Ky;dsimp only;rw [h1];dsimp only
 have i2:ih (.code bd n wm (some l) {s1 with h:=s1.h.put l (.loop .busy none fr n ps YA bd df)})=some (.code e2 s2):=by
  dsimp only [ih];split
  ·rename_i hj;exfalso;injection hj with _ _ _ _ hs
   have:({s1 with h:=s1.h.put l (.loop .busy none fr n ps YA bd df)}:Fs).h.at l=h.at l:=by rw [hs]
   dsimp only at this;rw [YX s1l,hat] at this;cases this
  ·exact Ui _ _
 rw [i2];exact hev
theorem WO.ZHU {Q:XX ->Fs ->Prop} {fo:Operand} {xs:Array Operand} {ts:Array TypeId} {vs:List Value} {n2:Nat} {Um fr1:Fr} {as2 bd2:Code} (hg:Yw ops ⟨some d,.call {callee:= .value fo,args:=xs,argTypes:=ts},ty,p,af,g⟩ fr) (hd:Nat.blt d n=true) (hf:Yx fr fo=some (.func (.yield l) #[] #[])) (hx:evs (Yx fr) xs.toList=some vs)
 (hS:Sp wm T h0 G h) (pk:Pk G (ob wm l LO) Gr) (hLO:LO= .loop .ready none Um n2 ps as2 bd2 df) (hl:Nat.beq vs.length ps.toList.length=true) (hs:Qy (ps.toList.zip vs) n2 Um=some fr1)
 (k:WC X n2 wm (some l) as2 ⟨fr1,[],h,none⟩ (AsS X n2 wm wm l Um ps as2 bd2 df (fun b h'=>WO X n wm rd ops ol ⟨Tr.set fr d (.bool b),ds,h',none⟩ Q))):
 WO X n wm rd ops (⟨some d,.call {callee:= .value fo,args:=xs,argTypes:=ts},ty,p,af,g⟩::ol) ⟨fr,ds,h,none⟩ Q:=by
 obtain⟨h1,h2,h3⟩:=hS.get pk;have hat:=h1.trans hLO;exact WO.yld hg hd hf hx hat (Nb0 hl) (Zp7.mkS (lo:=wm) hat h2 hl hs k) fun b h' hk=>hk
theorem AsS.sp {Um:Fr} {R:Bool ->H ->Prop} (hLO:LO= .loop .ready none fr n ps YA bd df) (hS:Sp wm T h0 G h) (pk:Pk G (ob wm l LO) Gr) (k:∀ h1,Sp wm T h0 (ob wm l (bsy LO)::Gr) h1 ->WC X n wm (some l) bd ⟨Um,ds,h1,none⟩ (BdS n wm l fr ps YA bd df R)):AsS X n wm wm l fr ps YA bd df R .normal ⟨Um,ds,h,none⟩:=by
 obtain⟨h1,h2,h3⟩:=hS.get pk;refine⟨⟨rfl,h1.trans hLO,fun h' u e=>k h' ?_⟩⟩;exact hS.one pk (u h2) (fun _ q=>q) ⟨by rw [e,hLO];rfl,h2,by rw [hLO];rfl⟩ fun _ q=>.inl q
theorem BdS.sp {Um:Fr} {R:Bool ->H ->Prop} (hLO:LO= .loop .ready none fr n ps YA bd df) (hS:Sp wm T h0 G h) (pk:Pk G (ob wm l (bsy LO)) Gr) (k:∀ h1,Sp wm T h0 (ob wm l LO::Gr) h1 ->R true h1):BdS n wm l fr ps YA bd df R .normal ⟨Um,ds,h,none⟩:=by
 obtain⟨h1,h2,h3⟩:=hS.get pk;refine⟨⟨h1.trans (by rw [hLO];rfl),.inl ⟨rfl,fun h' u e=>k h' ?_⟩⟩⟩;exact hS.one pk (u h2) (fun _ q=>q) ⟨by rw [e,hLO],h2,by rw [hLO];rfl⟩ fun _ q=>.inl q
theorem BdS.stop {Um:Fr} {R:Bool ->H ->Prop} {e:XX} {c:Code} (hx:ZrE e c) (hLO:LO= .loop .ready none fr n ps YA bd df) (hS:Sp wm T h0 G h) (pk:Pk G (ob wm l (bsy LO)) Gr) (k:∀ h1,Sp wm T h0 (ob wm l (lst true c LO)::Gr) h1 ->R false h1):BdS n wm l fr ps YA bd df R e ⟨Um,ds,h,none⟩:=by
 obtain⟨h1,h2,h3⟩:=hS.get pk;refine⟨⟨h1.trans (by rw [hLO];rfl),.inr ⟨c,hx,fun h' u e=>k h' ?_⟩⟩⟩;exact hS.one pk (u h2) (fun _ q=>q) ⟨by rw [e,hLO];rfl,h2,by rw [hLO];rfl⟩ fun _ q=>.inl q
structure RgS (X:Ctx) (wm l:Nat) (fr:Fr) (n:Nat) (ps:Array Tmp) (YA bd:Code) (df:Nat) (ds:List Deferred) (Q:XX ->Fs ->Prop) (h:H):Prop where
 low:wm <=l
 k:(h.at l= .loop .ready none fr n ps YA bd df∧∀ h',Up wm (fun i=>i=l) h h' ->Q .normal ⟨fr,⟨.collected df,#[]⟩::ds,h',none⟩)∨
  (∃ c,h.at l= .loop .done (some c) fr n ps YA bd df∧∀ h',Up wm (fun i=>i=l) h h' ->WC X n wm none c ⟨fr,⟨.collected df,#[]⟩::ds,h',none⟩ Q)
theorem RgS.sp {Q:XX ->Fs ->Prop} (hLO:LO= .loop .ready none fr n ps YA bd df) (hS:Sp wm T h0 G h) (pk:Pk G (ob wm l LO) Gr) (k:∀ h',Sp wm T h0 Gr h' ->Q .normal ⟨fr,⟨.collected df,#[]⟩::ds,h',none⟩):RgS X wm l fr n ps YA bd df ds Q h:=by
 obtain⟨h1,h2,h3⟩:=hS.get pk;refine⟨h2,.inl ⟨h1.trans hLO,fun h' u=>k h' ?_⟩⟩;exact Sp.step (Ga:= [ob wm l LO]) (Gb:= []) (hS.perm pk.perm) u (fun i e=>⟨_,List.mem_singleton.2 rfl,e⟩) Z9.nil fun i ⟨A,m,f⟩=>by simp at m
theorem RgS.stop {Q:XX ->Fs ->Prop} {c:Code} (hLO:LO= .loop .ready none fr n ps YA bd df) (hS:Sp wm T h0 G h) (pk:Pk G (ob wm l (lst true c LO)) Gr) (k:∀ h',Sp wm T h0 Gr h' ->WC X n wm none c ⟨fr,⟨.collected df,#[]⟩::ds,h',none⟩ Q):RgS X wm l fr n ps YA bd df ds Q h:=by
 obtain⟨h1,h2,h3⟩:=hS.get pk;refine⟨h2,.inr ⟨c,h1.trans (by rw [hLO];rfl),fun h' u=>k h' ?_⟩⟩;exact Sp.step (Ga:= [ob wm l (lst true c LO)]) (Gb:= []) (hS.perm pk.perm) u (fun i e=>⟨_,List.mem_singleton.2 rfl,e⟩) Z9.nil fun i ⟨A,m,f⟩=>by simp at m
theorem WC.ZuB {Q:XX ->Fs ->Prop} {gg:Operand} {f:FuncId} {first cap:List Value} (hS:Sp wm T h0 G h) (hg:Yx fr gg=some (.func (.func f) first.toArray cap.toArray)) (hf:(X.fns.get f).isSome=true)
 (k:∀ h' l df LO,LO=XH.loop .ready none fr n ps YA bd df ->Sp wm T h0 (ob wm l LO::ob wm df .deferred::G) h' ->WR X f (first ++ ([Value.func (.yield l) #[] #[]] ++ cap)).toArray wm h' (fun _ h2=>RgS X wm l fr n ps YA bd df ds Q h2)):
 WC X n wm none (.rangeFunc gg ps YA bd) ⟨fr,ds,h,none⟩ Q:=by
 have s1:Sp wm T h0 (ob wm h.size .deferred::G) (h.push .deferred):=Zkt rfl hS
 have s2:Sp wm T h0 (ob wm (h.size + 1) (.loop .ready none fr n ps YA bd h.size)::ob wm h.size .deferred::G) ((h.push .deferred).push (.loop .ready none fr n ps YA bd h.size)):=by
  have:=Zkt (A:= .loop .ready none fr n ps YA bd h.size) rfl s1
  rwa [H.size_push] at this
 obtain⟨fn,hf⟩:=Option.isSome_iff_exists.1 hf;obtain⟨e,h3,⟨v,rfl,hr⟩,hj⟩:=k _ _ _ _ rfl s2
 have hac:WG (cfg X fun _=>false).X ((h.push .deferred).push (.loop .ready none fr n ps YA bd h.size)) (.func (.func f) first.toArray cap.toArray) [Value.func (.yield (h.size + 1)) #[] #[]]=some (.enter f (first ++ ([Value.func (.yield (h.size + 1)) #[] #[]] ++ cap)).toArray,.none):=by
  unfold WG;have:(cfg X fun _=>false).X.fns.get f=some fn:=hf;dsimp only;rw [this];simp only [List.append_assoc]
 rcases hr.k with⟨hat,hk⟩ | ⟨c,hat,hk⟩
 ·refine⟨.normal,_,hk (h3.put (h.size + 1) (.loop .exhausted none fr n ps YA bd h.size)) (Up.put hr.low (by rw [hat];rfl)),?_⟩;refine XY.2 (U7 (C:=cfg X fun _=>false) (ih:=K5 (.call f _ wm _) (.fin (.ret v) h3)) (Uh hj) ?_);show QF (cfg X fun _=>false) _ gg n wm none (h.size + 1) ⟨fr,⟨.collected h.size,#[]⟩::ds,(h.push .deferred).push (.loop .ready none fr n ps YA bd h.size),none⟩=_;unfold QF;dsimp only;rw [hg];dsimp only;rw [hac];dsimp only;unfold UF;rw [Ui];dsimp only;rw [hat]
  rfl
 ·obtain⟨e2,s2,hq,hj2⟩:=hk (h3.put (h.size + 1) (.loop .exhausted (some c) fr n ps YA bd h.size)) (Up.put hr.low (by rw [hat];rfl));refine⟨e2,s2,hq,?_⟩
  classical
  let ih:Jc ->Option Y3:=fun j=>if j= .code c n wm none ⟨fr,⟨.collected h.size,#[]⟩::ds,h3.put (h.size + 1) (.loop .exhausted (some c) fr n ps YA bd h.size),none⟩ then some (.code e2 s2) else K5 (.call f (first ++ ([Value.func (.yield (h.size + 1)) #[] #[]] ++ cap)).toArray wm ((h.push .deferred).push (.loop .ready none fr n ps YA bd h.size))) (.fin (.ret v) h3) j
  have HI:∀ j r,ih j=some r ->YZ X j r:=by
   intro j r e;dsimp only [ih] at e;split at e
   ·rename_i hj';cases e;rw [hj'];exact hj2
   ·exact Uh (X:=X) hj j r e
  refine XY.2 (U7 (C:=cfg X fun _=>false) (ih:=ih) HI ?_);show QF (cfg X fun _=>false) _ gg n wm none (h.size + 1) ⟨fr,⟨.collected h.size,#[]⟩::ds,(h.push .deferred).push (.loop .ready none fr n ps YA bd h.size),none⟩=_;unfold QF;dsimp only;rw [hg];dsimp only;rw [hac];dsimp only;unfold UF
  have i1:ih (.call f (first ++ ([Value.func (.yield (h.size + 1)) #[] #[]] ++ cap)).toArray wm ((h.push .deferred).push (.loop .ready none fr n ps YA bd h.size)))=some (.fin (.ret v) h3):=by
   dsimp only [ih];split
   ·rename_i hj';cases hj'
   ·exact Ui _ _
  rw [i1];dsimp only;rw [hat];show ih (.code c n wm none _)=_;dsimp only [ih];rw [if_pos rfl]
theorem Zmn {κ ν:Type} [DecidableEq κ] {kv:κ ->Value} {vv:ν ->Value} {kt vt:TypeId} {i:Nat} {ll:List (κ×ν)} {t:TypeId} {x y z:Operand} {k:κ} {v:ν} (hS:Sp wm T h0 G h) (pk:Pk G (mp wm kv vv (some i) ll) Gr) (K:ZdA X.P kt kv) (hu:X.P.underlying t=some (.map kt vt)) (hx:Yx fr x=some (.map (some i))) (hy:Yx fr y=some (kv k)) (hz:Yx fr z=some (vv v)):
 HU X wm ⟨none,.insert t x y z,ty,p,af,g⟩ fr h (fun j=>j=i) (fun h'=>Sp wm T h0 (mp wm kv vv (some i) (Zhp ll k v)::Gr) h'):=
 ZBl (ty:=ty) (p:=p) (af:=af) (g:=g) hS pk K hu hx hy hz
section
variable {sf:ST} {m:Nat}
theorem WX.Zdj {Q:Fr ->H ->Prop} {o:Oper} {c:Bool} (_:Zi ops o fr c) (h1:c=true ->WX X n wm rd ops sf m h (o::ol) fr Q) (h2:c=false ->WX X n wm rd ops sf m h (o::ol) fr Q):WX X n wm rd ops sf m h (o::ol) fr Q:=by
 cases c
 ·exact h2 rfl
 ·exact h1 rfl
theorem Sp.djs {T0:Nat ->Prop} {G Ga Gr:List (Ast wm)} {B:Ast wm} (s:Sp wm T0 h0 G h) (p:Sel G (B::Ga) Gr):∀ x,Qf Ga x ->¬ B.fp x:=fun x ⟨A,hA,fa⟩ fb=>
 (List.pairwise_cons.1 (s.Zgp p).dis).1 A hA x fb fa
theorem WX.JG {Q:Fr ->H ->Prop} {op:Op} {c:Bool} (hg:Zi ops ⟨some d,op,ty,p,af,g⟩ fr c) (hc:c=false) (hd:Nat.blt d n=true) (k:WX X n wm rd ops sf (m + 1) h ol (Tr.set fr d undef) Q) (hM:okM ops sf m ⟨some d,op,ty,p,af,g⟩=true):WX X n wm rd ops sf m h (⟨some d,op,ty,p,af,g⟩::ol) fr Q:=WX.off (hg.off hc) hd k hM
end
theorem Zrv {β:Type} {b:Bool} {x:Option β} {r:β} (h:(bif b then none else x)=some r):b=false∧x=some r:=by
 cases b
 ·exact⟨rfl,h⟩
 ·cases h
theorem J9 (b:Bool):b=true∨b=false:=by cases b <;> simp
end
section
def ZMs (L:List Nat):List Deferred:=L.map fun r=>⟨.collected r,#[]⟩
def cds (wm:Nat) (L:List Nat):Ast wm where
 P:=fun h=>(∀ r ∈ L,h.at r= .deferred∧wm <=r)∧L.Nodup
 fp:=fun i=>i ∈ L
 loc:=fun _ k ⟨h1,h2⟩=>⟨fun r hr=>⟨by rw [k r hr];exact(h1 r hr).1,(h1 r hr).2⟩,h2⟩
 own:=fun⟨h1,_⟩ e=>⟨(h1 _ e).2,by rw [(h1 _ e).1];rfl⟩
section
variable {X:Ctx} {n wm:Nat} {G G1 G2 Gr:List (Ast wm)} {h h0:H} {T:Nat ->Prop} {df:Nat} {L:List Nat} {fr:Fr} {ds:List Deferred}
theorem Sp.ZRL (s:Sp wm T h0 G h):Sp wm T h0 (cds wm []::G) h:=s.add ⟨fun r hr=>(by cases hr),List.nodup_nil⟩ (fun i hi=>(by cases hi))
theorem Sp.ZRK (s:Sp wm T h0 G h) (p:Pk G (ob wm df .deferred) G1) (q:Pk G1 (cds wm L) G2):Sp wm T h0 (cds wm (df::L)::G2) h:=by
 have s:=s.perm (p.perm.trans (List.Perm.cons _ q.perm));have h1:=s.hold.all (ob wm df .deferred) (by simp);have h2:=s.hold.all (cds wm L) (by simp);have d:=s.hold.dis;rw [List.pairwise_cons,List.pairwise_cons] at d;obtain⟨d1,d2,d3⟩:=d;refine⟨s.wl,s.fz,s.keep,⟨fun A m=>?_,List.pairwise_cons.2 ⟨fun B m i f f'=>?_,d3⟩⟩,fun i f=>?_⟩
 ·rcases List.mem_cons.1 m with m | m
  ·rw [m];refine⟨fun r hr=>?_,List.nodup_cons.2 ⟨fun z=>d1 (cds wm L) (by simp) df rfl z,h2.2⟩⟩;rcases List.mem_cons.1 hr with e | e
   ·rw [e];exact⟨h1.1,h1.2.1⟩
   ·exact h2.1 r e
  ·exact s.hold.all A (by simp [m])
 ·rcases List.mem_cons.1 f with e | e
  ·exact d1 B (by simp [m]) i e f'
  ·exact d2 B m i e f'
 ·obtain⟨A,m,f⟩:=f;rcases List.mem_cons.1 m with m | m
  ·rw [m] at f;rcases List.mem_cons.1 f with e | e
   ·exact s.inn i ⟨ob wm df .deferred,by simp,e⟩
   ·exact s.inn i ⟨cds wm L,by simp,e⟩
  ·exact s.inn i ⟨A,by simp [m],f⟩
theorem QM.Zxv {fn:Func} {R:WW ->H ->Prop}:∀ {L:List Nat} {G:List (Ast wm)} {h:H} (_:Sp wm T h0 G h) (_:Pk G (cds wm L) Gr) (_:∀ h',Sp wm T h0 Gr h' ->QM X fn wm R .ret ⟨fr,ds,h',none⟩),QM X fn wm R .ret ⟨fr,ZMs L ++ ds,h,none⟩
 | [],_,h,hS,pk,k=>k h (hS.drop pk)
 | r::L,G,h,hS,pk,k=>by
   obtain⟨h1,h2⟩:=hS.get pk;have hr:=h1 r (by simp);have hn:=List.nodup_cons.1 h2;refine QM.col wm hr.2 hr.1 hr.2 fun h' u=>?_
   have s:Sp wm T h0 (cds wm L::Gr) h':=Sp.step (Ga:= [cds wm (r::L)]) (Gb:= [cds wm L]) (hS.perm pk.perm) u (fun i e=>⟨_,List.mem_singleton.2 rfl,by rw [e];exact List.mem_cons_self⟩)
    (Z9.one ⟨fun x hx=>⟨by rw [u.keep x (Qc (h1 x (by simp [hx])).1 rfl) (fun e=>hn.1 (e ▸ hx))];exact(h1 x (by simp [hx])).1,(h1 x (by simp [hx])).2⟩,hn.2⟩)
    fun i ⟨A,m,f⟩=>.inl ⟨_,List.mem_singleton.2 rfl,by rw [List.mem_singleton.1 m] at f;exact List.mem_cons_of_mem _ f⟩
   exact QM.Zxv s .z k
end
end
section
variable {X:Ctx} {n wm wm':Nat} {rd:Option Nat} {ops:Array Oper} {ol:List Oper} {m:Nat} {sf:ST} {fr:Fr} {h h0:H} {ty:TypeId} {p:String} {af:Array Edge} {g:Option (Nat×Bool)} {T:Nat ->Prop} {G Gr:List (Ast wm)} {d:Nat}
theorem ZSS {a b:Bool} (ha:a=true) (h:(a && b)=false):b=false:=by cases a <;> simp_all
section
variable {α:Type} {e:JO α} {a a1 a2:Option Addr} {nn c n1 c1 n2 c2:Nat} {ps:Nat ->Option Addr×Nat×Nat} {xs:List (List α)}
theorem Sp.ZIK {x1 x2:List α} (s:Sp wm T h0 G h) (pk:Pk G (ow wm (Zkn 1 Nat.one_pos) a nn c [⟨[.slice a1 n1 c1],rfl,rfl⟩,⟨[.slice a2 n2 c2],rfl,rfl⟩]) Gr) (k1:n1=x1.length) (s1:Sl e h.size h a1 c1 x1) (k2:n2=x2.length) (s2:Sl e h.size h a2 c2 x2):Sl (XK e) h.size h a c [x1,x2]:=by
 obtain⟨h1,so⟩:=s.get pk;have hm:=so.max;have hc:=so.cap;refine⟨hm,hc,so.nl,.inr ?_⟩;rcases so.mem with⟨_,_,q⟩ | ⟨i,o,cs,q1,q2,q3,q4,q5,q6⟩
 ·cases q
 ·refine⟨i,o,cs,true,_,q1,q3,.inl (Qc q3 rfl),⟨q6.len,fun k x hk=>?_⟩⟩
  match k with
  | 0=>
    obtain⟨_,g1,_⟩:=q6.get 0 _ rfl;simp at hk;subst hk;exact⟨(a1,c1),by rw [k1] at g1;exact g1,s1⟩
  | 1=>
    obtain⟨_,g1,_⟩:=q6.get 1 _ rfl;simp at hk;subst hk;exact⟨(a2,c2),by rw [k2] at g1;exact g1,s2⟩
  | k + 2=>simp at hk
end
section
variable {α:Type} {e:JO α} {t el:TypeId} {x:Operand} {a:Option Addr} {nn c:Nat} {xs zs:List α} {a1:Int}
theorem X4.cases {α:Type} {e:JO α} {a:Option Addr} {c:Nat} {xs:List α} (s:X4 e wm wm' h a c xs):(a=none∧c=0∧xs= [])∨∃ q,a=some q:=by
 rcases s.mem with⟨h1,h2,h3⟩ | ⟨i,o,cs,h1,_⟩
 ·exact .inl ⟨h1,h2,h3⟩
 ·exact .inr ⟨_,h1⟩
theorem Zs4 {P:Program} {t:TypeId} {x y:Operand} {k k':IntKind} {a b c:Int} (hb:0 <=b) (hc:c=a.fdiv (2 ^ (min b.toNat k.bits))):Jq P .shr t x y (.int k a) (.int k' b)=some (.val (.int k c),.none):=by
 have hp:(plain (.int k a) && plain (.int k' b))=true:=rfl;unfold Jq;rw [hp,Cq1]
 have e1:binOp .shr t (.int k a) (.int k' b)=pure (.int k c):=by
  show Op.shift .shr k a k' b=_;unfold Op.shift;rw [if_neg (by omega),hc]
 have hg:(do eqGuard .shr t x y (.int k a) (.int k' b);binOp .shr t (.int k a) (.int k' b):Sem Value)=pure (.int k c):=by
  rw [e1];rfl
 rw [hg];rfl
theorem Zs5 {P:Program} {t:TypeId} {x y:Operand} {a:Int}:Jq P .shr t x y (.int .u64 a) (.int .u64 1)=some (.val (.int .u64 (a / 2)),.none):=
 Zs4 (by decide) (by
  show a / 2=a.fdiv 2;rw [Int.fdiv_eq_ediv_of_nonneg a (by decide)])
theorem ZC9 {lo:Operand} {kk:IntKind} (so:Sl e wm' h a c xs) (hev:c % 2=0) (hn:nn=xs.length) (hu:X.P.underlying t=some (.slice el)) (hs:Yr X.P el=some e.sz) (hx:Yx fr x=some (.slice a nn c))
 (hlo:Yx fr lo=some (.int kk a1)) (hz:slL xs a1 xs.length=some zs):
 HE X ⟨some d,.slice t x (some lo) none none,ty,p,af,g⟩ fr h (fun v=>∃ a' c',v= .slice a' zs.length c'∧Zn1 e a c xs a' c' zs):=by
 obtain⟨l,k,rfl,hk,hlk,hkx,rfl⟩:=Kq hz;have hk:k=xs.length:=by omega
 subst hk hn;have hlen:((xs.take xs.length).drop l).length=xs.length - l:=by rw [List.length_drop,List.length_take];omega
 have e1:∀ q,obN (some (.int kk (l:Int))) q=some l:=fun q=>rfl
 have e2:obN none xs.length=some xs.length:=rfl;have hcap:=so.cap;rcases so.nl with⟨rfl,rfl⟩ | ⟨rfl,rfl⟩ | ⟨i,o,rfl⟩
 ·have hx0:xs= []:=List.length_eq_zero_iff.1 (by omega);subst hx0;have hl0:l=0:=by simpa using hlk
  subst hl0;refine⟨.slice none 0 0,QU hx (XA hlo) rfl rfl ?_,none,0,rfl,Zgh rfl⟩
  have:aslice X.P h t (.slice none 0 0) (some (.int kk ((0:Nat):Int))) none none=some (.slice none 0 0):=by
   unfold aslice;simp only [hu,hs]
   rfl
  exact this
 ·have hx0:xs= []:=List.length_eq_zero_iff.1 (by omega);subst hx0;have hl0:l=0:=by simpa using hlk
  subst hl0;refine⟨.slice (some ⟨0,0,some 0⟩) 0 0,QU hx (XA hlo) rfl rfl ?_,_,0,rfl,Zgh rfl⟩
  have:aslice X.P h t (.slice (some ⟨0,0,some 0⟩) 0 0) (some (.int kk ((0:Nat):Int))) none none=some (.slice (some ⟨0,0,some 0⟩) 0 0):=by
   unfold aslice;simp only [hu,hs]
   rfl
  exact this
 ·have hb:Nat.beq (c % 2) 0=true:=by rw [hev];rfl
  have hd:(Nat.ble l xs.length && Nat.ble xs.length (c / 2))=true:=by rw [Nm0 hlk,Nm0 hcap];rfl
  refine⟨.slice (some ⟨i,bif Nat.beq (c / 2) l then o else o + l * e.sz,none⟩) (xs.length - l) (2 * (c / 2 - l)),QU hx (XA hlo) rfl rfl ?_,_,_,by rw [hlen],ZgM hlk (Nat.le_refl _) ?_⟩
  ·unfold aslice;simp only [hu,hs,e1,e2,hd,hb,Cq1]
  ·cases hcl:Nat.beq (c / 2) l with
   | true=>right;have:=Nb0 hcl;exact⟨rfl,this,by omega⟩
   | false=>left;exact⟨rfl,by omega⟩
end
end
end Go.YH
end
end
section
set_option maxRecDepth 100000
noncomputable section
namespace Go.Proofs.YtcnahmgekicbdaaGreat
section
structure ZJ where
 at_:Int
 Ul:Int
 deriving DecidableEq,Inhabited
structure Zc where
 qG:Int
 Ze:(List ZJ)
 deriving DecidableEq,Inhabited
structure Zk where
 kZ:Int
 kV:Int
 kX:Int
 n:Int
 deriving DecidableEq,Inhabited
structure Zd where
 kW:Int
 kV:Int
 kX:Int
 n:Int
 qX:(List Int)
 deriving DecidableEq,Inhabited
structure Zl where
 ZM:Int
 kG:(List Zd)
 deriving DecidableEq,Inhabited
structure Zh where
 qV:(List Int)
 qX:(List (List Int))
 qZ:(List (List Int))
 Zm:(List (List Int))
 Zu:(List (List Zd))
 kQ:(List Zl)
 kK:Int
 deriving DecidableEq,Inhabited
structure ZB where
 Za:Zh
 qK:Zc
 kU:(List Zk)
 deriving DecidableEq,Inhabited
structure Z8 where
 act:Int
 a:Int
 b:Int
 deriving DecidableEq,Inhabited
structure X5 where
 e0:Int
 e1:Int
 deriving DecidableEq,Inhabited
def ZGs:Option Bool:=some true
def Znb (p0:List Int) (k:Int) (p2:List Int):Option (List Int):=bif Nat.ble p0.length 1000000 && (Nat.beq p2.length 1 && (decide (0 <=k) && decide (k <= (p0.length:Int)))) then some (p0.take k.toNat ++ p2 ++ p0.drop k.toNat) else none
end
section
open Go.YH Go.Lf
def Zg:JO ZJ where
 sz:=2
 pos:=by decide
 Kj:=Unit
 dflt:= ()
 sh:=fun _ x=>[.int .i64 x.at_,.int .i64 x.Ul]
 len:=fun _ _=>rfl
 one:=fun _ _=>rfl
 F:=fun _ _ _ _=>True
 mono:=fun _ x=>x
 up:=fun _ x=>x
def Zop:JO Zc where
 sz:=2
 pos:=by decide
 Kj:= (Option Addr×Nat)
 dflt:= (none,0)
 sh:=fun p x=>[.int .i64 x.qG,.slice p.1 x.Ze.length p.2]
 len:=fun _ _=>rfl
 one:=fun _ _=>rfl
 F:=fun wm h p x=>Sl Zg wm h p.1 p.2 x.Ze
 mono:=fun f x=>x.mono f
 up:=fun f x=>x.up f
def Zy:JO Zk where
 sz:=4
 pos:=by decide
 Kj:=Unit
 dflt:= ()
 sh:=fun _ x=>[.int .i64 x.kZ,.int .i64 x.kV,.int .i64 x.kX,.int .i64 x.n]
 len:=fun _ _=>rfl
 one:=fun _ _=>rfl
 F:=fun _ _ _ _=>True
 mono:=fun _ x=>x
 up:=fun _ x=>x
def Zj:JO Zd where
 sz:=5
 pos:=by decide
 Kj:= (Option Addr×Nat)
 dflt:= (none,0)
 sh:=fun p x=>[.int .i64 x.kW,.int .i64 x.kV,.int .i64 x.kX,.int .i64 x.n,.slice p.1 x.qX.length p.2]
 len:=fun _ _=>rfl
 one:=fun _ _=>rfl
 F:=fun wm h p x=>Sl (Zn .i64) wm h p.1 p.2 x.qX
 mono:=fun f x=>x.mono f
 up:=fun f x=>x.up f
def Ka:JO Zl where
 sz:=2
 pos:=by decide
 Kj:= (Option Addr×Nat)
 dflt:= (none,0)
 sh:=fun p x=>[.int .i64 x.ZM,.slice p.1 x.kG.length p.2]
 len:=fun _ _=>rfl
 one:=fun _ _=>rfl
 F:=fun wm h p x=>Sl Zj wm h p.1 p.2 x.kG
 mono:=fun f x=>x.mono f
 up:=fun f x=>x.up f
def Ug:JO Z8 where
 sz:=3
 pos:=by decide
 Kj:=Unit
 dflt:= ()
 sh:=fun _ x=>[.int .i64 x.act,.int .i64 x.a,.int .i64 x.b]
 len:=fun _ _=>rfl
 one:=fun _ _=>rfl
 F:=fun _ _ _ _=>True
 mono:=fun _ x=>x
 up:=fun _ x=>x
def Uc (x:X5):Value:= .agg [.int .i64 x.e0,.int .i64 x.e1].toArray
def Zw:Ne Zl where
 sz:=2
 pos:=by decide
 Kj:=Option Addr×Nat×Nat
 dflt:= (none,0,0)
 sh:=fun p x=>[.int .i64 x.ZM,.slice p.1 p.2.1 p.2.2]
 len:=fun _ _=>rfl
 one:=fun _ _=>rfl
 «YA»:=fun wm p x=>[ow wm Zj p.1 p.2.1 p.2.2 x.kG]
theorem ZdT {wm:Nat}:(∀ h:H,Z9 (Zw.YA wm (none,0,0) (default:Zl)) h)∧∀ i,¬ Qf (Zw.YA wm (none,0,0) (default:Zl)) i:=ZoH (e:=Zj)
theorem _root_.Go.YH.Sp.ZaE {wm:Nat} {h h0:H} {T:Nat ->Prop} {G Gr:List (Ast wm)} {a a1:Option Addr} {nn c n1 c1:Nat} {ps:Nat ->Option Addr×Nat×Nat} {xs:List Zl} {k:Int} {x:Zl} (s:Sp wm T h0 G h) (pk:Pk G (Yc wm Zw a nn c ps xs) Gr) (hk:ZK xs k=some x) (hp:ps k.toNat= (a1,n1,c1)):Sp wm T h0 (nsh wm Zw a nn c ps xs k.toNat [.int .i64 x.ZM,.slice a1 n1 c1]::ow wm Zj a1 n1 c1 x.kG::Gr) h:=by
 have:=s.take pk hk;rw [hp] at this;exact this
theorem _root_.Go.YH.Sp.ZaP {wm:Nat} {h h0:H} {T:Nat ->Prop} {G Gr:List (Ast wm)} {a a1:Option Addr} {nn c n1 c1:Nat} {ps:Nat ->Option Addr×Nat×Nat} {xs:List Zl} {k:Int} {x0:Zl} {v0:Int} {y:List Zd} (s:Sp wm T h0 G h) (sel:Sel G [nsh wm Zw a nn c ps xs k.toNat [.int .i64 v0,.slice a1 n1 c1],ow wm Zj a1 n1 c1 y] Gr) (hk:ZK xs k=some x0):∃ ps':Nat ->Option Addr×Nat×Nat,ps' k.toNat= (a1,n1,c1)∧Sp wm T h0 (Yc wm Zw a nn c ps' (YP xs k ⟨v0,y⟩)::Gr) h:=
 ⟨_,upd_same ps k.toNat (a1,n1,c1),Sp.fill (e:=Zw) (a1,n1,c1) ⟨v0,y⟩ s hk sel rfl⟩
theorem _root_.Go.YH.Sp.ZaN {wm:Nat} {h h0:H} {T:Nat ->Prop} {G Gr:List (Ast wm)} {a a1:Option Addr} {nn c n1 c1:Nat} {ps:Nat ->Option Addr×Nat×Nat} {xs:List Zl} {k:Int} {x:Zl} (s:Sp wm T h0 G h) (pk:Pk G (Yc wm Zw a nn c ps xs) Gr) (hk:ZK xs k=some x) (hp:ps k.toNat= (a1,n1,c1)):n1=x.kG.length∧Src Zj wm h a1 c1 x.kG∧Sl Zj h.size h a1 c1 x.kG:=by
 have:= (s.inN pk hk hp).get (A:=ow wm Zj a1 n1 c1 x.kG) .z;exact⟨this.1,this.2.src,this.2.src.sl s.hw⟩
theorem _root_.Go.YH.Sp.ZaU {wm:Nat} {h h0:H} {T:Nat ->Prop} {G Gr:List (Ast wm)} {a:Option Addr} {nn c:Nat} {ps:Nat ->Option Addr×Nat×Nat} {xs:List Zl} {k:Int} {x:Zl} (s:Sp wm T h0 G h) (pk:Pk G (Yc wm Zw a nn c ps xs) Gr) (hk:ZK xs k=some x):∃ b o a1 n1 c1,ps k.toNat= (a1,n1,c1)∧a=some ⟨b,o,none⟩∧At h b (o + k.toNat * 2) [.int .i64 x.ZM,.slice a1 n1 c1]:=by
 obtain⟨b,o,⟨a1,n1,c1⟩,h1,h2,h3⟩:=s.atN pk hk;exact⟨b,o,a1,n1,c1,h1,h2,h3⟩
theorem Z7:NeR Zw Ka:= ⟨rfl,fun{wm h p x} hw hh=>by
 obtain⟨h1,h2⟩:=hh.get (A:=ow wm Zj p.1 p.2.1 p.2.2 x.kG) .z;exact⟨(p.1,p.2.2),by show([.int .i64 x.ZM,.slice p.1 p.2.1 p.2.2]:List Value)= [.int .i64 x.ZM,.slice p.1 x.kG.length p.2.2];rw [h1],h2.src.sl hw⟩⟩
theorem ZIt:XX.P.underlying 3=some (.int .i64):=Kq0
theorem ZN0:XX.P.underlying 4=some .bool:=Kq0
theorem ZIv:XX.P.underlying 22=some (.slice 66):=Kq0
theorem ZIu:XX.P.underlying 25=some (.slice 74):=Kq0
theorem Zua:XX.P.underlying 28=some (.slice 71):=Kq0
theorem KJ:XX.P.underlying 29=some (.slice 35):=Kq0
theorem Zqe:XX.P.underlying 30=some (.slice 69):=Kq0
theorem Zt9:XX.P.underlying 31=some (.slice 99):=Kq0
theorem ZBi:XX.P.underlying 34=some (.slice 64):=Kq0
theorem Ud:XX.P.underlying 35=some (.slice 3):=Kq0
theorem Zqd:XX.P.underlying 60=some (.slice 4):=Kq0
theorem ZBh:XX.P.underlying 61=some (.map 67 4):=Kq0
theorem Uy:XX.P.underlying 69=some (.slice 121):=Kq0
theorem Zub:XX.P.underlying 132=some (.int .u64):=Kq0
theorem KZ:XX.P.underlying 138=some (.map 119 124):=Kq0
theorem Zer:YL XX.P 3=some false:=Kq0
theorem ZG6:YL XX.P 4=some false:=Kq0
theorem ZCF:YL XX.P 22=some false:=Kq0
theorem ZrC:YL XX.P 24=some true:=Kq0
theorem ZCE:YL XX.P 28=some false:=Kq0
theorem ZnT:YL XX.P 29=some false:=Kq0
theorem ZxZ:YL XX.P 30=some false:=Kq0
theorem ZCD:YL XX.P 31=some false:=Kq0
theorem Zis:YL XX.P 33=some true:=Kq0
theorem ZCC:YL XX.P 34=some false:=Kq0
theorem ZrB:YL XX.P 35=some false:=Kq0
theorem ZnS:YL XX.P 36=some false:=Kq0
theorem ZMX:YL XX.P 62=some false:=Kq0
theorem ZxY:YL XX.P 64=some true:=Kq0
theorem ZnR:YL XX.P 66=some true:=Kq0
theorem ZxX:YL XX.P 69=some false:=Kq0
theorem ZCB:YL XX.P 71=some false:=Kq0
theorem ZMW:YL XX.P 72=some false:=Kq0
theorem ZCA:YL XX.P 74=some true:=Kq0
theorem ZCz:YL XX.P 87=some false:=Kq0
theorem ZCy:YL XX.P 99=some true:=Kq0
theorem ZG9:YL XX.P 106=some true:=Kq0
theorem ZG8:YL XX.P 112=some false:=Kq0
theorem ZG7:YL XX.P 119=some false:=Kq0
theorem ZlS:YL XX.P 121=some true:=Kq0
theorem Uf:Yr XX.P 3=some 1:=Kq0
theorem Zmh:Yr XX.P 4=some 1:=Kq0
theorem Zki:Yr XX.P 24=some 2:=Kq0
theorem ZC6:Yr XX.P 28=some 1:=Kq0
theorem Zul:Yr XX.P 29=some 1:=Kq0
theorem ZC5:Yr XX.P 30=some 1:=Kq0
theorem ZC4:Yr XX.P 31=some 1:=Kq0
theorem Zbt:Yr XX.P 33=some 7:=Kq0
theorem ZC3:Yr XX.P 34=some 1:=Kq0
theorem QS:Yr XX.P 35=some 1:=Kq0
theorem ZC2:Yr XX.P 36=some 1:=Kq0
theorem ZC1:Yr XX.P 62=some 1:=Kq0
theorem Zkh:Yr XX.P 64=some 4:=Kq0
theorem ZgP:Yr XX.P 66=some 2:=Kq0
theorem Zbs:Yr XX.P 69=some 1:=Kq0
theorem ZgO:Yr XX.P 71=some 1:=Kq0
theorem Zuk:Yr XX.P 74=some 3:=Kq0
theorem Zkg:Yr XX.P 99=some 2:=Kq0
theorem ZyW:Yr XX.P 106=some 3:=Kq0
theorem ZyV:Yr XX.P 112=some 1:=Kq0
theorem QN:Yr XX.P 121=some 5:=Kq0
theorem ZkW:ZE XX.P 24 0 0:=ZE.of Kq0
theorem Zz4:ZE XX.P 24 1 1:=ZE.of Kq0
theorem Zz3:ZE XX.P 33 0 0:=ZE.of Kq0
theorem Zra:ZE XX.P 33 1 1:=ZE.of Kq0
theorem Zz2:ZE XX.P 33 2 2:=ZE.of Kq0
theorem Zz1:ZE XX.P 33 3 3:=ZE.of Kq0
theorem Zz0:ZE XX.P 33 4 4:=ZE.of Kq0
theorem Zq9:ZE XX.P 33 5 5:=ZE.of Kq0
theorem ZzZ:ZE XX.P 33 6 6:=ZE.of Kq0
theorem ZzY:ZE XX.P 64 0 0:=ZE.of Kq0
theorem ZzX:ZE XX.P 64 1 1:=ZE.of Kq0
theorem ZzW:ZE XX.P 64 2 2:=ZE.of Kq0
theorem ZzV:ZE XX.P 64 3 3:=ZE.of Kq0
theorem ZzU:ZE XX.P 66 0 0:=ZE.of Kq0
theorem ZzT:ZE XX.P 66 1 1:=ZE.of Kq0
theorem ZzS:ZE XX.P 74 0 0:=ZE.of Kq0
theorem ZzR:ZE XX.P 74 1 1:=ZE.of Kq0
theorem ZzQ:ZE XX.P 74 2 2:=ZE.of Kq0
theorem ZkV:ZE XX.P 91 0 0:=ZE.of Kq0
theorem ZkU:ZE XX.P 91 1 7:=ZE.of Kq0
theorem ZzP:ZE XX.P 91 2 9:=ZE.of Kq0
theorem ZzO:ZE XX.P 96 0 0:=ZE.of Kq0
theorem ZzN:ZE XX.P 96 1 2:=ZE.of Kq0
theorem ZzM:ZE XX.P 96 2 9:=ZE.of Kq0
theorem Zq8:ZE XX.P 99 0 0:=ZE.of Kq0
theorem ZkT:ZE XX.P 99 1 1:=ZE.of Kq0
theorem ZwW:ZE XX.P 106 0 0:=ZE.of Kq0
theorem ZwV:ZE XX.P 106 1 2:=ZE.of Kq0
theorem ZwU:ZE XX.P 121 0 0:=ZE.of Kq0
theorem ZwT:ZE XX.P 121 1 1:=ZE.of Kq0
theorem ZwS:ZE XX.P 121 2 2:=ZE.of Kq0
theorem ZwR:ZE XX.P 121 3 3:=ZE.of Kq0
theorem Zm6:ZE XX.P 121 4 4:=ZE.of Kq0
theorem ZdB:Y5 XX.P 3=some (.int .i64 0):=Kq0
theorem ZtE:Y5 XX.P 4=some (.bool false):=Kq0
theorem ZtF:Y5 XX.P 33=some (.agg #[.slice none 0 0,.slice none 0 0,.slice none 0 0,.slice none 0 0,.slice none 0 0,.slice none 0 0,.int .i64 0]):=Kq0
theorem Zc8:Y5 XX.P 35=some (.slice none 0 0):=Kq0
theorem ZCP:Y5 XX.P 36=some (.int .i64 0):=Kq0
theorem Zn6:Y5 XX.P 64=some (.agg #[.int .i64 0,.int .i64 0,.int .i64 0,.int .i64 0]):=Kq0
theorem ZCO:Y5 XX.P 66=some (.agg #[.int .i64 0,.int .i64 0]):=Kq0
theorem ZtD:Y5 XX.P 67=some (.agg #[.int .i64 0,.int .i64 0]):=Kq0
theorem ZtC:Y5 XX.P 69=some (.slice none 0 0):=Kq0
theorem ZtB:Y5 XX.P 71=some (.int .i64 0):=Kq0
theorem ZtA:Y5 XX.P 74=some (.agg #[.int .i64 0,.int .i64 0,.int .i64 0]):=Kq0
theorem Ztz:Y5 XX.P 91=some (.agg #[.slice none 0 0,.slice none 0 0,.slice none 0 0,.slice none 0 0,.slice none 0 0,.slice none 0 0,.int .i64 0,.int .i64 0,.slice none 0 0,.slice none 0 0]):=Kq0
theorem ZCN:Y5 XX.P 96=some (.agg #[.int .i64 0,.slice none 0 0,.slice none 0 0,.slice none 0 0,.slice none 0 0,.slice none 0 0,.slice none 0 0,.slice none 0 0,.int .i64 0,.slice none 0 0]):=Kq0
theorem Zty:Y5 XX.P 99=some (.agg #[.int .i64 0,.slice none 0 0]):=Kq0
theorem Zyv:Y5 XX.P 106=some (.agg #[.int .i64 0,.slice none 0 0,.slice none 0 0]):=Kq0
theorem Zyu:Y5 XX.P 112=some (.nilFunc):=Kq0
theorem ZaB:Y5 XX.P 121=some (.agg #[.int .i64 0,.int .i64 0,.int .i64 0,.int .i64 0,.slice none 0 0]):=Kq0
theorem Zca:Y5 XX.P 124=some (.nilFunc):=Kq0
theorem ZCt:ZcF XX.P 33 [.slice none 0 0,.slice none 0 0,.slice none 0 0,.slice none 0 0,.slice none 0 0,.slice none 0 0,.int .i64 0] [(0,1),(1,1),(2,1),(3,1),(4,1),(5,1),(6,1)]:= ⟨_,_,ZtF,rfl,Tryz.underlying33,by kernel_rfl⟩
theorem ZMG:ZcF XX.P 64 [.int .i64 0,.int .i64 0,.int .i64 0,.int .i64 0] [(0,1),(1,1),(2,1),(3,1)]:= ⟨_,_,Zn6,rfl,Tryz.underlying64,by kernel_rfl⟩
theorem ZCs:ZrG XX.P 67 [.int .i64 0,.int .i64 0] 1:= ⟨_,_,_,ZtD,rfl,Tryz.underlying67,by kernel_rfl⟩
theorem ZMF:ZcF XX.P 74 [.int .i64 0,.int .i64 0,.int .i64 0] [(0,1),(1,1),(2,1)]:= ⟨_,_,ZtA,rfl,Tryz.underlying74,by kernel_rfl⟩
theorem ZME:ZcF XX.P 91 [.slice none 0 0,.slice none 0 0,.slice none 0 0,.slice none 0 0,.slice none 0 0,.slice none 0 0,.int .i64 0,.int .i64 0,.slice none 0 0,.slice none 0 0] [(0,7),(7,2),(9,1)]:= ⟨_,_,Ztz,rfl,Tryz.underlying91,by kernel_rfl⟩
theorem Zik:ZcF XX.P 121 [.int .i64 0,.int .i64 0,.int .i64 0,.int .i64 0,.slice none 0 0] [(0,1),(1,1),(2,1),(3,1),(4,1)]:= ⟨_,_,ZaB,rfl,Tryz.underlying121,by kernel_rfl⟩
theorem ZxQ:Zc7 XX.P #[28,28] 1 8:= ⟨71,.int .i64 0,by kernel_rfl⟩
theorem Ziq:Zc7 XX.P #[29,29] 1 24:= ⟨35,.slice none 0 0,by kernel_rfl⟩
theorem ZxP:Zc7 XX.P #[34,34] 4 32:= ⟨64,.agg #[.int .i64 0,.int .i64 0,.int .i64 0,.int .i64 0],by kernel_rfl⟩
theorem Zb2:Zc7 XX.P #[35,35] 1 8:= ⟨3,.int .i64 0,by kernel_rfl⟩
theorem Zeo:Zc7 XX.P #[69,69] 5 56:= ⟨121,.agg #[.int .i64 0,.int .i64 0,.int .i64 0,.int .i64 0,.slice none 0 0],by kernel_rfl⟩
theorem ZBE:ZdA XX.P 67 Uc:=ZdA.ZSQ (et:=3) Kq0 Kq0 Kq0 (fun x=>x.e0) (fun x=>x.e1) (fun _=>rfl) (fun x y=>by cases x;cases y;simp)
theorem K7:ZdA XX.P 119 (Value.int .i64):=ZdA.int Kq0
theorem ZMD:KD XX.P 3=some 8:=Kq0
theorem ZMC:KD XX.P 4=some 1:=Kq0
theorem ZGW:KD XX.P 69=some 24:=Kq0
theorem ZGV:KD XX.P 99=some 32:=Kq0
theorem ZK3:(XX.fns.get 14).isSome=true:=Kq0
theorem ZB0:(XX.fns.get 15).isSome=true:=Kq0
theorem ZK2:(XX.fns.get 17).isSome=true:=Kq0
theorem ZK1:(XX.fns.get 23).isSome=true:=Kq0
theorem ZK0:(XX.fns.get 24).isSome=true:=Kq0
theorem ZKZ:(XX.fns.get 29).isSome=true:=Kq0
theorem ZKY:(XX.fns.get 30).isSome=true:=Kq0
theorem ZKX:(XX.fns.get 31).isSome=true:=Kq0
theorem ZBZ:(XX.fns.get 33).isSome=true:=Kq0
theorem ZKW:(XX.fns.get 34).isSome=true:=Kq0
theorem ZKV:(XX.fns.get 38).isSome=true:=Kq0
theorem ZKU:(XX.fns.get 41).isSome=true:=Kq0
theorem ZKT:(XX.fns.get 42).isSome=true:=Kq0
theorem ZKS:(XX.fns.get 46).isSome=true:=Kq0
theorem ZKR:(XX.fns.get 47).isSome=true:=Kq0
theorem ZBY:(XX.fns.get 48).isSome=true:=Kq0
theorem Zwr:(XX.fns.get 54).isSome=true:=Kq0
theorem Zq5:(XX.fns.get 55).isSome=true:=Kq0
theorem ZBX:(XX.fns.get 57).isSome=true:=Kq0
theorem ZKQ:(XX.fns.get 60).isSome=true:=Kq0
theorem ZKP:(XX.fns.get 68).isSome=true:=Kq0
theorem ZjE:(XX.fns.get 69).isSome=true:=Kq0
theorem ZBW:(XX.fns.get 70).isSome=true:=Kq0
theorem ZBV:(XX.fns.get 71).isSome=true:=Kq0
theorem ZBU:(XX.fns.get 72).isSome=true:=Kq0
theorem Zwq:(XX.fns.get 73).isSome=true:=Kq0
theorem ZKO:(XX.fns.get 74).isSome=true:=Kq0
theorem ZKN:(XX.fns.get 75).isSome=true:=Kq0
theorem Zq4:(XX.fns.get 84).isSome=true:=Kq0
theorem ZBT:(XX.fns.get 85).isSome=true:=Kq0
theorem ZmX:(XX.fns.get 89).isSome=true:=Kq0
theorem JW:(XX.fns.get 94).isSome=true:=Kq0
theorem ZmW:(XX.fns.get 95).isSome=true:=Kq0
theorem ZBS:(XX.fns.get 96).isSome=true:=Kq0
theorem ZBR:(XX.fns.get 97).isSome=true:=Kq0
theorem Zwp:(XX.fns.get 98).isSome=true:=Kq0
theorem Zwo:(XX.fns.get 99).isSome=true:=Kq0
theorem ZFJ:(XX.fns.get 100).isSome=true:=Kq0
theorem ZFI:(XX.fns.get 101).isSome=true:=Kq0
theorem ZFH:(XX.fns.get 102).isSome=true:=Kq0
theorem ZFG:(XX.fns.get 103).isSome=true:=Kq0
theorem Zo9:(XX.fns.get 104).isSome=true:=Kq0
theorem ZFF:(XX.fns.get 105).isSome=true:=Kq0
theorem ZFE:(XX.fns.get 106).isSome=true:=Kq0
theorem ZFD:(XX.fns.get 107).isSome=true:=Kq0
theorem ZFB:(XX.fns.get 108).isSome=true:=Kq0
theorem ZFA:(XX.fns.get 119).isSome=true:=Kq0
theorem Zo8:(XX.fns.get 125).isSome=true:=Kq0
theorem Zwy:(XX.fns.get 126).isSome=true:=Kq0
theorem ZFz:(XX.fns.get 127).isSome=true:=Kq0
theorem Zwx:(XX.fns.get 128).isSome=true:=Kq0
theorem Zww:(XX.fns.get 136).isSome=true:=Kq0
theorem Zwv:(XX.fns.get 137).isSome=true:=Kq0
theorem Zwu:(XX.fns.get 138).isSome=true:=Kq0
theorem Zwt:(XX.fns.get 139).isSome=true:=Kq0
theorem Zws:(XX.fns.get 142).isSome=true:=Kq0
end
end Go.Proofs.YtcnahmgekicbdaaGreat
end
end
section
noncomputable section
namespace Go.YH
open Go.Lf
class ZaX (P:Program) (t:TypeId):Prop where
 out:YL P t=some false
class ZlZ (P:Program) (t:TypeId):Prop where
 out:YL P t=some true
class SzF (P:Program) (t:TypeId) (n:outParam Nat):Prop where
 out:Yr P t=some n
class JL (P:Program) (t:TypeId) (f:Nat) (o:outParam Nat):Prop where
 out:ZE P t f o
class Zgc (P:Program) (t:TypeId) (e:outParam TypeId):Prop where
 out:P.underlying t=some (.slice e)
class ZHy (P:Program) (t:TypeId):Prop where
 out:P.underlying t=some .bool
class ZaW (P:Program) (t:TypeId) (v:outParam Value):Prop where
 out:Y5 P t=some v
theorem ia {v:Value} (h:Jz v=false):Jz v=false:=h
theorem Wu {fr:Fr} {t:Nat} {c:Bool} {v:Value} (h:fr.at t=cond c v undef) (ha:Jz v=false) (hc:c=true):Yx fr (.tmp t)=some v:=WQ h ha hc
section
variable {X:Ctx} {h:H} {fr:Fr} {ty:TypeId} {p':String} {af:Array Edge} {g:Option (Nat×Bool)} {d:Option Tmp} {wm:Nat} {T:Nat ->Prop} {h0:H} {G Gr:List (Ast wm)}
theorem ZMN {x:Operand} {t:TypeId} {f off b o:Nat} [hf:JL X.P t f off] (hx:Yx fr x=some (.pointer (some ⟨b,o,none⟩))):X7 X h (Yx fr) ⟨d,.fieldAddr t x f,ty,p',af,g⟩=some (.val (.pointer (some ⟨b,o + off,none⟩)),.none):=U1 hf.out hx
theorem ZSJ {x:Operand} {t:TypeId} {b oo:Nat} {vs:List Value} {v:Value} [ht:ZaX X.P t] (hx:Yx fr x=some (.pointer (some ⟨b,oo,none⟩))) (hS:Sp wm T h0 G h) (pp:Pk G (bx wm b vs) Gr) (hv:vs[oo]? =some v):
 X7 X h (Yx fr) ⟨d,.load t x,ty,p',af,g⟩=some (.val v,.none):=Ql ht.out hx (hS.WA pp) (Nat.zero_add _).symm hv
theorem ZML {x:Operand} {t:TypeId} {b oo sz:Nat} {vs ws:List Value} [ht:ZlZ X.P t] [hs:SzF X.P t sz] (hx:Yx fr x=some (.pointer (some ⟨b,oo,none⟩))) (hS:Sp wm T h0 G h) (pp:Pk G (bx wm b vs) Gr) (hj:Nat.ble (oo + sz) vs.length=true) (hv:(vs.drop oo).take sz=ws):
 X7 X h (Yx fr) ⟨d,.load t x,ty,p',af,g⟩=some (.val (.agg ws.toArray),.none):=Ua ht.out hs.out hx (hS.WA pp) (Nat.zero_add _).symm hj hv
theorem ZMO {dd:Tmp} {x:Operand} {t:TypeId} {v:Value} {vs:List Value} (hx:Yx fr x=some v) (hS:Sp wm T h0 G h) (hv:v.cells.toList=vs):
 HN X wm ⟨some dd,.box t x,ty,p',af,g⟩ fr h (fun v h'=>∃ b,h.size=b∧v= .pointer (some ⟨b,0,none⟩)∧Sp wm T h0 (bx wm b vs::G) h'):=ZIH hS hx hv
theorem ZMP {dd:Tmp} {t:TypeId} {v:Value} {vs:List Value} [hz:ZaW X.P t v] (hS:Sp wm T h0 G h) (hv:v.cells.toList=vs):
 HN X wm ⟨some dd,.alloc t,ty,p',af,g⟩ fr h (fun v h'=>∃ b,h.size=b∧v= .pointer (some ⟨b,0,none⟩)∧Sp wm T h0 (bx wm b vs::G) h'):=ZBq hS hz.out hv
theorem ZSI {x y:Operand} {t:TypeId} {b o sz:Nat} {cs cs' vs:List Value} {v:Value} [hs:SzF X.P t sz] (hx:Yx fr x=some (.pointer (some ⟨b,o,none⟩))) (hS:Sp wm T h0 G h) (pk:Pk G (bx wm b cs) Gr) (hy:Yx fr y=some v)
 (hvs:v.cells.toList=vs) (hn:Nat.beq vs.length sz=true) (hl:Nat.ble (o + sz) cs.length=true) (hc:vs.all Value.oneCell'=true) (hv:splice cs o vs=cs'):
 HU X wm ⟨none,.store t x y,ty,p',af,g⟩ fr h (fun i=>i=b) (fun h'=>Sp wm T h0 (bx wm b cs'::Gr) h'):=ZyX hS pk hs.out hx hy hvs hn hl hc hv
theorem ZMM {α:Type} {xs:List α} {v:α} {x y:Operand} {t e:TypeId} {sz b o nn c dd:Nat} {a:Option Addr} {k:Int} [hu:Zgc X.P t e] [hs:SzF X.P e sz] (hx:Yx fr x=some (.slice a nn c)) (hy:Yx fr y=some (.int .i64 k)) (hn:nn=xs.length) (ha:a=some ⟨b,o,none⟩) (hk:ZK xs k=some v):
 X7 X h (Yx fr) ⟨some dd,.indexAddr t x y,ty,p',af,g⟩=some (.val (.pointer (some ⟨b,o + k.toNat * sz,none⟩)),.none):=Qi hu.out hs.out hx hy hn ha hk
theorem ZMK {x:Operand} {t:TypeId} {b o oo j:Nat} {vs:List Value} {v:Value} [ht:ZaX X.P t] (hx:Yx fr x=some (.pointer (some ⟨b,oo,none⟩))) (ha:At h b o vs) (ho:oo=o + j) (hv:vs[j]? =some v):
 X7 X h (Yx fr) ⟨d,.load t x,ty,p',af,g⟩=some (.val v,.none):=Ql ht.out hx ha ho hv
theorem ZMJ {x:Operand} {t e':TypeId} {a:Option Addr} {mm cc dd:Nat} [hu:Zgc X.P t e'] (hx:Yx fr x=some (.slice a mm cc)):
 X7 X h (Yx fr) ⟨some dd,.call {callee:= .builtin .len,args:=#[x],argTypes:=#[t]},ty,p',af,g⟩=some (.val (.int .i64 (mm:Int)),.none):=ZcC hu.out hx rfl
end
section
variable {X:Ctx} {n wm:Nat} {rd:Option Nat} {ops:Array Oper} {l:List Oper} {fr:Fr} {ds:List Deferred} {h:H} {ty:TypeId} {p:String} {af:Array Edge} {g:Option (Nat×Bool)} {sf:ST} {m:Nat}
theorem WX.w2 {Q:Fr ->H ->Prop} {d:Nat} {op:Op} {v:Value} (hg:Yw ops ⟨some d,op,ty,p,af,g⟩ fr) (hd:Nat.blt d n=true) (hM:okM ops sf m ⟨some d,op,ty,p,af,g⟩=true) (ha:X7 X h (Yx fr) ⟨some d,op,ty,p,af,g⟩=some (.val v,.none)) (k:WX X n wm rd ops sf (m + 1) h l (Tr.set fr d v) Q):
 WX X n wm rd ops sf m h (⟨some d,op,ty,p,af,g⟩::l) fr Q:=WX.w hg hd ha k hM
theorem WX.gv2 {Q:Fr ->H ->Prop} {d:Nat} {op:Op} {c:Bool} {v:Value} (hg:Zi ops ⟨some d,op,ty,p,af,g⟩ fr c) (hd:Nat.blt d n=true) (hM:okM ops sf m ⟨some d,op,ty,p,af,g⟩=true) (ha:c=true ->X7 X h (Yx fr) ⟨some d,op,ty,p,af,g⟩=some (.val v,.none)) (k:WX X n wm rd ops sf (m + 1) h l (Tr.set fr d (cond c v undef)) Q):
 WX X n wm rd ops sf m h (⟨some d,op,ty,p,af,g⟩::l) fr Q:=WX.gv hg hd ha k hM
end
structure Kp (q:Prop):Prop where
 out:q
section
variable {X:Ctx} {n wm:Nat} {rd:Option Nat} {Q:XX ->Fs ->Prop}
theorem E0 {p:Prop}(h:p:=by(focus (repeat (first | with_reducible exact fh | ((with_reducible apply Zx);exact rfl) | ((with_reducible apply YB);exact rfl) | ((with_reducible apply ZY);exact rfl) | ((with_reducible apply Zf);exact rfl) | with_reducible assumption));first|done|fail)):p:=h
theorem cn {c:Operand} {a b:Code} {t:Bool} {fr:Fr} {ds:List Deferred} {h:H} {α:Type} {x y r:α} (hL:(bif t then x else y)=r) (h1:t=true ->x=r ->WC X n wm rd a ⟨fr,ds,h,none⟩ Q) (h2:t=false ->y=r ->WC X n wm rd b ⟨fr,ds,h,none⟩ Q) (hc:Yx fr c=some (.bool t):=by(first | exact Kz rfl | (apply ZR;exact E0;(first | exact ia rfl | assumption)) | (apply Wu;exact E0;(first | exact ia rfl | assumption);assumption) | fail)):WC X n wm rd (.cond c a b) ⟨fr,ds,h,none⟩ Q:=
 WC.ZMq hc (fun e=>h1 e (Jl e hL)) (fun e=>h2 e (Jm e hL))
theorem rt {fn:Func} {fr:Fr} {h h0:H} {T:Nat ->Prop} {G G':List (Ast wm)} {wr:Option Nat} {t:Tmp} {β:Type} {x r:β} {g:β ->Value} (hL:some x=some r) (hT:T=Qf G) (hS:Sp wm T h0 G' h) (hr:fn.results.toList= [.tmp t]:=by exact rfl) (hv:Yx fr (.tmp t)=some (g x):=by(first | exact Kz rfl | (apply ZR;exact E0;(first | exact ia rfl | assumption)) | (apply Wu;exact E0;(first | exact ia rfl | assumption);assumption) | fail)):
 Yd X fn (fun e h'=>∃ v,e= .ret v∧CP (fun v Gb=>v=g r∧Gb= []) G h0 v h') .ret ⟨fr,[],h,wr⟩:=by
 cases hL;exact Yd.Wn hr (ZV hv Zv) ⟨_,⟨rfl,rfl⟩,hT ▸ hS.only .n⟩
theorem bg {f:FuncId} {fn:Func} {c:Code} {args:List Value} {n:Nat} {K:Value ->List (Ast wm) ->Prop} {G:List (Ast wm)} {h:H} {fr:Fr} (hnt:fn.ntmps=n) (ZL:wm <=h.size) (hO:Z9 G h)
 (k:∀ T,T=Qf (wm:=wm) G ->Sp wm T h G h ->WC X n wm none c ⟨fr,[],h,none⟩ (Yd X fn (fun e h'=>∃ v,e= .ret v∧CP K G h v h'))) (hf:X.fns.get f=some fn:=by kernel_rfl) (hb:fn.body=some c:=by exact rfl) (hn:args.length <=n:=by simp)
 (hfr:Qs args 0 .nil=fr:=by(simp only [ZI,ZW,Nat.reduceAdd];exact rfl)):WR X f args.toArray wm h (CP K G h):=by
 subst hfr;exact WF.begin hf hb hnt hn (k _ rfl (Sp.start ZL hO))
end
theorem lk {p:Prop} (h:p:=by(first | exact Kz rfl | (apply ZR;exact E0;(first | exact ia rfl | assumption)) | (apply Wu;exact E0;(first | exact ia rfl | assumption);assumption) | fail)):p:=h
theorem lks {p:Prop} (h:p:=by
 repeat (first | exact Zp | (apply Zb;(focus (first | exact Kz rfl | (apply ZR;exact E0;(first | exact ia rfl | assumption)) | (apply Wu;exact E0;(first | exact ia rfl | assumption);assumption) | fail);done)))
 done):p:=h
theorem JY {p:Prop} (h:p:=by
 repeat (first | with_reducible exact fh | ((with_reducible apply Zx);exact rfl) | ((with_reducible apply YB);exact rfl) | ((with_reducible apply ZY);exact rfl) | ((with_reducible apply Zf);exact rfl) | with_reducible assumption | refine⟨?_,?_⟩)
 done):p:=h
theorem r1 {p q:Prop} (k:q) (h:Kp q ->p:=by
 intro k
 first
 | refine WO.nil ?_
 | refine Zgd.XO ?_
 | refine WC.seq ?_
 | refine WC.region ?_
 | ((first | apply WO.w gN rfl | (apply WO.gv;(focus (first | (apply Zi.yes rfl rfl rfl;exact E0) | (apply Zi.no rfl rfl rfl;exact E0) | (apply Zi.Zyx rfl rfl rfl;exact E0) | (apply Zi.no2 rfl rfl rfl;exact E0) | fail);done);rfl;intro hg) | (apply WX.w2 gN;rfl;rfl) | (apply WX.gv2;(focus (first | (apply Zi.yes rfl rfl rfl;exact E0) | (apply Zi.no rfl rfl rfl;exact E0) | (apply Zi.Zyx rfl rfl rfl;exact E0) | (apply Zi.no2 rfl rfl rfl;exact E0) | fail);done);rfl;rfl;intro hg));(focus (first
   | ((with_reducible apply WT);(first | exact Kz rfl | (apply ZR;exact E0;(first | exact ia rfl | assumption)) | (apply Wu;exact E0;(first | exact ia rfl | assumption);assumption) | fail))
   | ((with_reducible apply ZSJ);(focus (first | exact Kz rfl | (apply ZR;exact E0;(first | exact ia rfl | assumption)) | (apply Wu;exact E0;(first | exact ia rfl | assumption);assumption) | fail);done);assumption;(focus (first | exact k0 | exact k1 | exact k2 | exact k3 | exact k4 | exact k5 | exact k6 | exact k7 | (repeat (first | exact k7 | apply Pk.s)));done);rfl)
   | ((with_reducible apply ZMN);(first | exact Kz rfl | (apply ZR;exact E0;(first | exact ia rfl | assumption)) | (apply Wu;exact E0;(first | exact ia rfl | assumption);assumption) | fail))
   | ((with_reducible apply Ur);(first | exact Kz rfl | (apply ZR;exact E0;(first | exact ia rfl | assumption)) | (apply Wu;exact E0;(first | exact ia rfl | assumption);assumption) | fail))
   | ((with_reducible apply JN);(focus (first | exact Kz rfl | (apply ZR;exact E0;(first | exact ia rfl | assumption)) | (apply Wu;exact E0;(first | exact ia rfl | assumption);assumption) | fail);done);(focus (first | exact Kz rfl | (apply ZR;exact E0;(first | exact ia rfl | assumption)) | (apply Wu;exact E0;(first | exact ia rfl | assumption);assumption) | fail);done);(first | with_reducible exact ZfA | with_reducible exact Zx5 | with_reducible exact ZnW | with_reducible exact Zx2 | with_reducible exact Zs3 | with_reducible exact Ziu | with_reducible exact Zx4 | with_reducible exact Zx3 | with_reducible exact Zfz | with_reducible exact Zs8 ZHy.out | with_reducible exact Zs7 ZHy.out))
   | ((with_reducible apply ZML);(focus (first | exact Kz rfl | (apply ZR;exact E0;(first | exact ia rfl | assumption)) | (apply Wu;exact E0;(first | exact ia rfl | assumption);assumption) | fail);done);assumption;(focus (first | exact k0 | exact k1 | exact k2 | exact k3 | exact k4 | exact k5 | exact k6 | exact k7 | (repeat (first | exact k7 | apply Pk.s)));done);rfl;(focus simp only [Nat.zero_add,Nat.reduceAdd,List.drop_succ_cons,List.drop_zero,List.take_succ_cons,List.take_zero,List.take_nil];rfl))
   | ((with_reducible apply ZMJ);(first | exact Kz rfl | (apply ZR;exact E0;(first | exact ia rfl | assumption)) | (apply Wu;exact E0;(first | exact ia rfl | assumption);assumption) | fail))
   | ((with_reducible apply ZMM);(focus (first | exact Kz rfl | (apply ZR;exact E0;(first | exact ia rfl | assumption)) | (apply Wu;exact E0;(first | exact ia rfl | assumption);assumption) | fail);done);(focus (first | exact Kz rfl | (apply ZR;exact E0;(first | exact ia rfl | assumption)) | (apply Wu;exact E0;(first | exact ia rfl | assumption);assumption) | fail);done);(focus (exact rfl));assumption;assumption)
   | ((with_reducible apply ZMK);(focus (first | exact Kz rfl | (apply ZR;exact E0;(first | exact ia rfl | assumption)) | (apply Wu;exact E0;(first | exact ia rfl | assumption);assumption) | fail);done);(focus (first | assumption | (apply At.fz;(focus (apply Sp.fz;assumption));assumption;assumption));done);(focus (first | exact(Nat.add_zero _).symm | exact rfl);done);rfl)
   | ((with_reducible apply ZpJ);(focus (first | exact Kz rfl | (apply ZR;exact E0;(first | exact ia rfl | assumption)) | (apply Wu;exact E0;(first | exact ia rfl | assumption);assumption) | fail);done);rfl)
   | ((with_reducible apply ZlL);(first | exact Kz rfl | (apply ZR;exact E0;(first | exact ia rfl | assumption)) | (apply Wu;exact E0;(first | exact ia rfl | assumption);assumption) | fail))
   | ((with_reducible apply ZbY);(first | exact Kz rfl | (apply ZR;exact E0;(first | exact ia rfl | assumption)) | (apply Wu;exact E0;(first | exact ia rfl | assumption);assumption) | fail))
   | ((with_reducible apply ZpK);(focus (first | exact Kz rfl | (apply ZR;exact E0;(first | exact ia rfl | assumption)) | (apply Wu;exact E0;(first | exact ia rfl | assumption);assumption) | fail);done);(focus (apply ZL4;exact E0);done);(first | exact Kz rfl | (apply ZR;exact E0;(first | exact ia rfl | assumption)) | (apply Wu;exact E0;(first | exact ia rfl | assumption);assumption) | fail))
   | ((with_reducible apply ZCw);(focus (first | exact Kz rfl | (apply ZR;exact E0;(first | exact ia rfl | assumption)) | (apply Wu;exact E0;(first | exact ia rfl | assumption);assumption) | fail);done);(focus (first | exact Kz rfl | (apply ZR;exact E0;(first | exact ia rfl | assumption)) | (apply Wu;exact E0;(first | exact ia rfl | assumption);assumption) | fail);done);(apply ZL4;exact E0))
   | fail)))
 | (apply WO.hu gN;(focus (first | (((with_reducible apply ZSI));(focus (first | exact Kz rfl | (apply ZR;exact E0;(first | exact ia rfl | assumption)) | (apply Wu;exact E0;(first | exact ia rfl | assumption);assumption) | fail);done);assumption;(focus (first | exact k0 | exact k1 | exact k2 | exact k3 | exact k4 | exact k5 | exact k6 | exact k7 | (repeat (first | exact k7 | apply Pk.s)));done);(focus (first | exact Kz rfl | (apply ZR;exact E0;(first | exact ia rfl | assumption)) | (apply Wu;exact E0;(first | exact ia rfl | assumption);assumption) | fail);done);(focus (first | (simp only [Zfo,Zdp,ZbU,Zfm,Zfn,Zfq,ZaS,cells_func,Zaa,KC,ZbV];exact rfl) | exact rfl));exact rfl;exact rfl;exact rfl;(focus simp only [splice,List.take_succ_cons,List.take_zero,List.drop_succ_cons,List.drop_zero,List.cons_append,List.nil_append,List.append_nil,List.length_cons,List.length_nil,Nat.reduceAdd,Nat.zero_add,List.take_nil,List.drop_nil];exact rfl)) | fail)))
 | (apply WO.hn gN rfl;(focus (first | (((with_reducible apply ZMO));(focus (first | exact Kz rfl | (apply ZR;exact E0;(first | exact ia rfl | assumption)) | (apply Wu;exact E0;(first | exact ia rfl | assumption);assumption) | fail);done);assumption;(focus (first | (simp only [Zfo,Zdp,ZbU,Zfm,Zfn,Zfq,ZaS,cells_func,Zaa,KC,ZbV];exact rfl) | exact rfl))) | (((with_reducible apply ZMP));assumption;(focus (first | (simp only [Zfo,Zdp,ZbU,Zfm,Zfn,Zfq,ZaS,cells_func,Zaa,KC,ZbV];exact rfl) | exact rfl))) | fail)))
 | refine WC.skip ?_
 | refine WC.ret ?_
 | refine WC.block ?_
 | refine WC.exit ?_
 | refine Zgd.ret ?_
 | refine Zgd.exit ?_
 | refine ZfD.ret ?_
 | refine ZfD.XO ?_
 | refine ZfD.here ?_
 | refine Y2.exit ?_
 | refine Y2.ret ?_
 | refine WX.nil ?_
 | fail
 exact k.out):p:=h ⟨k⟩
theorem sl {p:Prop} (h:p:=by
 repeat (first | exact Sel.n | (apply Sel.c;(focus (first | exact k0 | exact k1 | exact k2 | exact k3 | exact k4 | exact k5 | exact k6 | exact k7 | (repeat (first | exact k7 | apply Pk.s))))))
 done):p:=h
theorem r2 {p q:Prop} (k:q) (h:Kp q ->p:=by
 intro k
 iterate 2 (refine r1 ?_)
 exact k.out):p:=h ⟨k⟩
theorem r3 {p q:Prop} (k:q) (h:Kp q ->p:=by
 intro k
 iterate 3 (refine r1 ?_)
 exact k.out):p:=h ⟨k⟩
theorem r4 {p q:Prop} (k:q) (h:Kp q ->p:=by
 intro k
 iterate 4 (refine r1 ?_)
 exact k.out):p:=h ⟨k⟩
theorem r5 {p q:Prop} (k:q) (h:Kp q ->p:=by
 intro k
 iterate 5 (refine r1 ?_)
 exact k.out):p:=h ⟨k⟩
theorem r6 {p q:Prop} (k:q) (h:Kp q ->p:=by
 intro k
 iterate 6 (refine r1 ?_)
 exact k.out):p:=h ⟨k⟩
theorem r7 {p q:Prop} (k:q) (h:Kp q ->p:=by
 intro k
 iterate 7 (refine r1 ?_)
 exact k.out):p:=h ⟨k⟩
theorem r8 {p q:Prop} (k:q) (h:Kp q ->p:=by
 intro k
 iterate 8 (refine r1 ?_)
 exact k.out):p:=h ⟨k⟩
theorem r9 {p q:Prop} (k:q) (h:Kp q ->p:=by
 intro k
 iterate 9 (refine r1 ?_)
 exact k.out):p:=h ⟨k⟩
theorem r10 {p q:Prop} (k:q) (h:Kp q ->p:=by
 intro k
 iterate 10 (refine r1 ?_)
 exact k.out):p:=h ⟨k⟩
theorem r11 {p q:Prop} (k:q) (h:Kp q ->p:=by
 intro k
 iterate 11 (refine r1 ?_)
 exact k.out):p:=h ⟨k⟩
theorem r12 {p q:Prop} (k:q) (h:Kp q ->p:=by
 intro k
 iterate 12 (refine r1 ?_)
 exact k.out):p:=h ⟨k⟩
theorem r13 {p q:Prop} (k:q) (h:Kp q ->p:=by
 intro k
 iterate 13 (refine r1 ?_)
 exact k.out):p:=h ⟨k⟩
theorem r14 {p q:Prop} (k:q) (h:Kp q ->p:=by
 intro k
 iterate 14 (refine r1 ?_)
 exact k.out):p:=h ⟨k⟩
theorem r15 {p q:Prop} (k:q) (h:Kp q ->p:=by
 intro k
 iterate 15 (refine r1 ?_)
 exact k.out):p:=h ⟨k⟩
theorem r16 {p q:Prop} (k:q) (h:Kp q ->p:=by
 intro k
 iterate 16 (refine r1 ?_)
 exact k.out):p:=h ⟨k⟩
end Go.YH
end
end
section
set_option maxRecDepth 20000
noncomputable section
namespace Go.Proofs.YtcnahmgekicbdaaGreat
open Go.YH Go.Lf
section
abbrev cE (x:Zk):List Value:= [.int .i64 x.kZ,.int .i64 x.kV,.int .i64 x.kX,.int .i64 x.n]
abbrev cS (x:Z8):List Value:= [.int .i64 x.act,.int .i64 x.a,.int .i64 x.b]
abbrev cP (x:ZJ):List Value:= [.int .i64 x.at_,.int .i64 x.Ul]
abbrev cL (x:Zd) (a:Option Addr) (c:Nat):List Value:= [.int .i64 x.kW,.int .i64 x.kV,.int .i64 x.kX,.int .i64 x.n,.slice a x.qX.length c]
abbrev cW (x:Zh) (a0:Option Addr) (c0:Nat) (a1:Option Addr) (c1:Nat) (a2:Option Addr) (c2:Nat) (a3:Option Addr) (c3:Nat) (a4:Option Addr) (c4:Nat) (a5:Option Addr) (c5:Nat):List Value:= [.slice a0 x.qV.length c0,.slice a1 x.qX.length c1,.slice a2 x.qZ.length c2,.slice a3 x.Zm.length c3,.slice a4 x.Zu.length c4,.slice a5 x.kQ.length c5,.int .i64 x.kK]
abbrev cV (a0:Option Addr) (n0 c0:Nat) (a1:Option Addr) (n1 c1:Nat) (a2:Option Addr) (n2 c2:Nat) (a3:Option Addr) (n3 c3:Nat) (a4:Option Addr) (n4 c4:Nat) (a5:Option Addr) (n5 c5:Nat) (s:Int):List Value:= [.slice a0 n0 c0,.slice a1 n1 c1,.slice a2 n2 c2,.slice a3 n3 c3,.slice a4 n4 c4,.slice a5 n5 c5,.int .i64 s]
abbrev cH (a0:Option Addr) (n0 c0:Nat) (a1:Option Addr) (n1 c1:Nat) (a2:Option Addr) (n2 c2:Nat) (a3:Option Addr) (n3 c3:Nat) (a4:Option Addr) (n4 c4:Nat) (a5:Option Addr) (n5 c5:Nat) (s m:Int) (a6:Option Addr) (n6 c6:Nat) (a7:Option Addr) (n7 c7:Nat):List Value:= [.slice a0 n0 c0,.slice a1 n1 c1,.slice a2 n2 c2,.slice a3 n3 c3,.slice a4 n4 c4,.slice a5 n5 c5,.int .i64 s,.int .i64 m,.slice a6 n6 c6,.slice a7 n7 c7]
abbrev gH (wm b:Nat) (x:ZB) (a0:Option Addr) (n0 c0:Nat) (a1:Option Addr) (n1 c1:Nat) (q1:Nat ->Option Addr×Nat×Nat) (a2:Option Addr) (n2 c2:Nat) (q2:Nat ->Option Addr×Nat×Nat) (a3:Option Addr) (n3 c3:Nat) (q3:Nat ->Option Addr×Nat×Nat) (a4:Option Addr) (n4 c4:Nat) (q4:Nat ->Option Addr×Nat×Nat) (a5:Option Addr) (n5 c5:Nat) (q5:Nat ->Option Addr×Nat×Nat) (a6:Option Addr) (c6:Nat) (a7:Option Addr) (n7 c7:Nat):List (Ast wm):= [bx wm b [.slice a0 n0 c0,.slice a1 n1 c1,.slice a2 n2 c2,.slice a3 n3 c3,.slice a4 n4 c4,.slice a5 n5 c5,.int .i64 x.Za.kK,.int .i64 x.qK.qG,.slice a6 x.qK.Ze.length c6,.slice a7 n7 c7],ow wm (Zn .i64) a0 n0 c0 x.Za.qV,Yc wm (Zz (Zn .i64)) a1 n1 c1 q1 x.Za.qX,Yc wm (Zz (Zn .i64)) a2 n2 c2 q2 x.Za.qZ,Yc wm (Zz (Zn .i64)) a3 n3 c3 q3 x.Za.Zm,Yc wm (Zz Zj) a4 n4 c4 q4 x.Za.Zu,Yc wm Zw a5 n5 c5 q5 x.Za.kQ,ow wm Zy a7 n7 c7 x.kU]
abbrev gHz (wm b:Nat) (x:ZB) (a0:Option Addr) (n0 c0:Nat) (a1:Option Addr) (n1 c1:Nat) (q1:Nat ->Option Addr×Nat×Nat) (a2:Option Addr) (n2 c2:Nat) (q2:Nat ->Option Addr×Nat×Nat) (a3:Option Addr) (n3 c3:Nat) (q3:Nat ->Option Addr×Nat×Nat) (a4:Option Addr) (n4 c4:Nat) (q4:Nat ->Option Addr×Nat×Nat) (a5:Option Addr) (n5 c5:Nat) (q5:Nat ->Option Addr×Nat×Nat) (a6:Option Addr) (c6:Nat) (a7:Option Addr) (n7 c7:Nat):List (Ast wm):= [bx wm b [.slice a0 n0 c0,.slice a1 n1 c1,.slice a2 n2 c2,.slice a3 n3 c3,.slice a4 n4 c4,.slice a5 n5 c5,.int .i64 x.Za.kK,.int .i64 x.qK.qG,.slice a6 x.qK.Ze.length c6,.slice a7 n7 c7],ow wm (Zn .i64) a0 n0 c0 x.Za.qV,Yc wm (Zz (Zn .i64)) a1 n1 c1 q1 x.Za.qX,Yc wm (Zz (Zn .i64)) a2 n2 c2 q2 x.Za.qZ,Yc wm (Zz (Zn .i64)) a3 n3 c3 q3 x.Za.Zm,Yc wm (Zz Zj) a4 n4 c4 q4 x.Za.Zu,Yc wm Zw a5 n5 c5 q5 x.Za.kQ,Qu wm (XK Zg) (a6,c6) x.qK.Ze,ow wm Zy a7 n7 c7 x.kU]
instance:ZaX XX.P 3:= ⟨Zer⟩
instance:ZaX XX.P 4:= ⟨ZG6⟩
instance:ZaX XX.P 22:= ⟨ZCF⟩
instance:ZlZ XX.P 24:= ⟨ZrC⟩
instance:ZaX XX.P 28:= ⟨ZCE⟩
instance:ZaX XX.P 29:= ⟨ZnT⟩
instance:ZaX XX.P 30:= ⟨ZxZ⟩
instance:ZaX XX.P 31:= ⟨ZCD⟩
instance:ZlZ XX.P 33:= ⟨Zis⟩
instance:ZaX XX.P 34:= ⟨ZCC⟩
instance:ZaX XX.P 35:= ⟨ZrB⟩
instance:ZaX XX.P 36:= ⟨ZnS⟩
instance:ZaX XX.P 62:= ⟨ZMX⟩
instance:ZlZ XX.P 64:= ⟨ZxY⟩
instance:ZlZ XX.P 66:= ⟨ZnR⟩
instance:ZaX XX.P 69:= ⟨ZxX⟩
instance:ZaX XX.P 71:= ⟨ZCB⟩
instance:ZaX XX.P 72:= ⟨ZMW⟩
instance:ZlZ XX.P 74:= ⟨ZCA⟩
instance:ZaX XX.P 87:= ⟨ZCz⟩
instance:ZlZ XX.P 99:= ⟨ZCy⟩
instance:ZlZ XX.P 106:= ⟨ZG9⟩
instance:ZaX XX.P 112:= ⟨ZG8⟩
instance:ZaX XX.P 119:= ⟨ZG7⟩
instance:ZlZ XX.P 121:= ⟨ZlS⟩
instance:SzF XX.P 3 1:= ⟨Uf⟩
instance:SzF XX.P 4 1:= ⟨Zmh⟩
instance:SzF XX.P 24 2:= ⟨Zki⟩
instance:SzF XX.P 28 1:= ⟨ZC6⟩
instance:SzF XX.P 29 1:= ⟨Zul⟩
instance:SzF XX.P 30 1:= ⟨ZC5⟩
instance:SzF XX.P 31 1:= ⟨ZC4⟩
instance:SzF XX.P 33 7:= ⟨Zbt⟩
instance:SzF XX.P 34 1:= ⟨ZC3⟩
instance:SzF XX.P 35 1:= ⟨QS⟩
instance:SzF XX.P 36 1:= ⟨ZC2⟩
instance:SzF XX.P 62 1:= ⟨ZC1⟩
instance:SzF XX.P 64 4:= ⟨Zkh⟩
instance:SzF XX.P 66 2:= ⟨ZgP⟩
instance:SzF XX.P 69 1:= ⟨Zbs⟩
instance:SzF XX.P 71 1:= ⟨ZgO⟩
instance:SzF XX.P 74 3:= ⟨Zuk⟩
instance:SzF XX.P 99 2:= ⟨Zkg⟩
instance:SzF XX.P 106 3:= ⟨ZyW⟩
instance:SzF XX.P 112 1:= ⟨ZyV⟩
instance:SzF XX.P 121 5:= ⟨QN⟩
instance:JL XX.P 24 0 0:= ⟨ZkW⟩
instance:JL XX.P 24 1 1:= ⟨Zz4⟩
instance:JL XX.P 33 0 0:= ⟨Zz3⟩
instance:JL XX.P 33 1 1:= ⟨Zra⟩
instance:JL XX.P 33 2 2:= ⟨Zz2⟩
instance:JL XX.P 33 3 3:= ⟨Zz1⟩
instance:JL XX.P 33 4 4:= ⟨Zz0⟩
instance:JL XX.P 33 5 5:= ⟨Zq9⟩
instance:JL XX.P 33 6 6:= ⟨ZzZ⟩
instance:JL XX.P 64 0 0:= ⟨ZzY⟩
instance:JL XX.P 64 1 1:= ⟨ZzX⟩
instance:JL XX.P 64 2 2:= ⟨ZzW⟩
instance:JL XX.P 64 3 3:= ⟨ZzV⟩
instance:JL XX.P 66 0 0:= ⟨ZzU⟩
instance:JL XX.P 66 1 1:= ⟨ZzT⟩
instance:JL XX.P 74 0 0:= ⟨ZzS⟩
instance:JL XX.P 74 1 1:= ⟨ZzR⟩
instance:JL XX.P 74 2 2:= ⟨ZzQ⟩
instance:JL XX.P 91 0 0:= ⟨ZkV⟩
instance:JL XX.P 91 1 7:= ⟨ZkU⟩
instance:JL XX.P 91 2 9:= ⟨ZzP⟩
instance:JL XX.P 96 0 0:= ⟨ZzO⟩
instance:JL XX.P 96 1 2:= ⟨ZzN⟩
instance:JL XX.P 96 2 9:= ⟨ZzM⟩
instance:JL XX.P 99 0 0:= ⟨Zq8⟩
instance:JL XX.P 99 1 1:= ⟨ZkT⟩
instance:JL XX.P 106 0 0:= ⟨ZwW⟩
instance:JL XX.P 106 1 2:= ⟨ZwV⟩
instance:JL XX.P 121 0 0:= ⟨ZwU⟩
instance:JL XX.P 121 1 1:= ⟨ZwT⟩
instance:JL XX.P 121 2 2:= ⟨ZwS⟩
instance:JL XX.P 121 3 3:= ⟨ZwR⟩
instance:JL XX.P 121 4 4:= ⟨Zm6⟩
instance:Zgc XX.P 22 66:= ⟨ZIv⟩
instance:Zgc XX.P 25 74:= ⟨ZIu⟩
instance:Zgc XX.P 28 71:= ⟨Zua⟩
instance:Zgc XX.P 29 35:= ⟨KJ⟩
instance:Zgc XX.P 30 69:= ⟨Zqe⟩
instance:Zgc XX.P 31 99:= ⟨Zt9⟩
instance:Zgc XX.P 34 64:= ⟨ZBi⟩
instance:Zgc XX.P 35 3:= ⟨Ud⟩
instance:Zgc XX.P 60 4:= ⟨Zqd⟩
instance:Zgc XX.P 69 121:= ⟨Uy⟩
instance:ZHy XX.P 4:= ⟨ZN0⟩
instance:ZaW XX.P 3 (.int .i64 0):= ⟨ZdB⟩
instance:ZaW XX.P 4 (.bool false):= ⟨ZtE⟩
instance:ZaW XX.P 33 (.agg #[.slice none 0 0,.slice none 0 0,.slice none 0 0,.slice none 0 0,.slice none 0 0,.slice none 0 0,.int .i64 0]):= ⟨ZtF⟩
instance:ZaW XX.P 35 (.slice none 0 0):= ⟨Zc8⟩
instance:ZaW XX.P 36 (.int .i64 0):= ⟨ZCP⟩
instance:ZaW XX.P 64 (.agg #[.int .i64 0,.int .i64 0,.int .i64 0,.int .i64 0]):= ⟨Zn6⟩
instance:ZaW XX.P 66 (.agg #[.int .i64 0,.int .i64 0]):= ⟨ZCO⟩
instance:ZaW XX.P 67 (.agg #[.int .i64 0,.int .i64 0]):= ⟨ZtD⟩
instance:ZaW XX.P 69 (.slice none 0 0):= ⟨ZtC⟩
instance:ZaW XX.P 71 (.int .i64 0):= ⟨ZtB⟩
instance:ZaW XX.P 74 (.agg #[.int .i64 0,.int .i64 0,.int .i64 0]):= ⟨ZtA⟩
instance:ZaW XX.P 91 (.agg #[.slice none 0 0,.slice none 0 0,.slice none 0 0,.slice none 0 0,.slice none 0 0,.slice none 0 0,.int .i64 0,.int .i64 0,.slice none 0 0,.slice none 0 0]):= ⟨Ztz⟩
instance:ZaW XX.P 96 (.agg #[.int .i64 0,.slice none 0 0,.slice none 0 0,.slice none 0 0,.slice none 0 0,.slice none 0 0,.slice none 0 0,.slice none 0 0,.int .i64 0,.slice none 0 0]):= ⟨ZCN⟩
instance:ZaW XX.P 99 (.agg #[.int .i64 0,.slice none 0 0]):= ⟨Zty⟩
instance:ZaW XX.P 106 (.agg #[.int .i64 0,.slice none 0 0,.slice none 0 0]):= ⟨Zyv⟩
instance:ZaW XX.P 112 (.nilFunc):= ⟨Zyu⟩
instance:ZaW XX.P 121 (.agg #[.int .i64 0,.int .i64 0,.int .i64 0,.int .i64 0,.slice none 0 0]):= ⟨ZaB⟩
instance:ZaW XX.P 124 (.nilFunc):= ⟨Zca⟩
end
section
def Zxl (p0:Zc):Option Bool:=
 some (decide ((p0.Ze.length:Int) <=30))
def Zh5 (p0:Zc) (v23:Int) (Zku:(Int ->Option Bool)):Int×Int ->(Int×Int ->Option Bool) ->Option Bool:=fun(v34,v36) Zvp=>
 (bif((decide (v36 <= (p0.Ze.length:Int))) && (decide (v34 >=0))) then(bif(v34==v23) then some false else(ZK p0.Ze v34).bind fun x41=>Zvp (x41.Ul,Yz (v36 + 1))) else Zku (Yz (v23 + 1)))
def Zff (F:Nat) (p0:Zc):Int ->(Int ->Option Bool) ->Option Bool:=fun v23 Zku=>
 (bif decide (v23 < (p0.Ze.length:Int)) then(ZK p0.Ze v23).bind fun x26=>loop F (Zh5 p0 v23 Zku) (x26.Ul,0) else some true)
def Zh6 (F:Nat) (p0:Zc):Int ->(Int ->Option Bool) ->Option Bool:=fun v9 ZaL=>
 (bif decide (v9 < (p0.Ze.length:Int)) then(ZK p0.Ze v9).bind fun x12=>(bif((((decide (x12.at_ < 0)) || (decide (x12.at_ >=p0.qG))) || (decide (x12.Ul < (-1)))) || (decide (x12.Ul >= (p0.Ze.length:Int)))) then some false else ZaL (Yz (v9 + 1))) else loop F (Zff F p0) 0)
def Zpn (F:Nat) (p0:Zc):Option Bool:=
 (bif((((decide (p0.qG < 1)) || (decide (p0.qG > 4))) || (decide ((p0.Ze.length:Int) < 1))) || (decide ((p0.Ze.length:Int) > 8))) then some false else loop F (Zh6 F p0) 0)
def Zpl (p0:Zc) (p1:Int):Option Bool:=
 some ((decide (p1 >=0)) && (decide (p1 < (p0.Ze.length:Int))))
def Zlh (p0:Zc):(List Int)×Int ->((List Int)×Int ->Option (List Int)) ->Option (List Int):=fun(v9,v14) Zho=>
 (bif decide (v14 >=0) then(app 8 v9 [v14]).bind fun z19=>(ZK p0.Ze v14).bind fun x23=>Zho (z19,x23.Ul) else some v9)
def Zxe (F:Nat) (p0:Zc) (p1:Int):Option (List Int):=
 (ZK p0.Ze p1).bind fun x3=>loop F (Zlh p0) ([],x3.Ul)
end
section
theorem ZGt {wm h} {p0:Zc} {Zr Zq} {r} (ZL:wm <=h.size) (ZX:Sl Zg wm h Zr Zq p0.Ze) (hL:Zxl p0=some r):
 WR XX 14 #[.agg [.int .i64 p0.qG,.slice Zr p0.Ze.length Zq].toArray] wm h (CP (fun(v:Value) (Gb:List (Ast wm))=>v= .bool r∧Gb= []) [] h):=by
 refine bg Tryz.ntmps14 ZL Z9.nil ?_;intro T hT hS;unfold Zxl at hL;refine r3 ?_;rintro _ h2 ⟨b1,eb1,rfl,hS⟩;refine r13 ?_;exact rt hL hT hS
theorem ZGq {F wm h} {p0:Zc} {Zr Zq} {r} (ZL:wm <=h.size) (ZX:Sl Zg wm h Zr Zq p0.Ze) (hL:Zpn F p0=some r):
 WR XX 17 #[.agg [.int .i64 p0.qG,.slice Zr p0.Ze.length Zq].toArray] wm h (CP (fun(v:Value) (Gb:List (Ast wm))=>v= .bool r∧Gb= []) [] h):=by
 refine bg Tryz.ntmps17 ZL Z9.nil ?_;intro T hT hS;unfold Zpn at hL;refine r3 ?_;rintro _ h2 ⟨b1,eb1,rfl,hS⟩;refine r16 ?_;refine r16 ?_;refine cn hL ?_ ?_
 ·intro hc hL;refine r7 ?_;exact rt hL hT hS
 ·intro hc hL;refine r12 ?_;refine WC.loop (WL.lift hL (fun v9 s=>∃ fr4 h3,s= ⟨fr4,[],h3,none⟩∧Sp wm T h [bx wm b1 [.int .i64 p0.qG,.slice Zr p0.Ze.length Zq]] h3∧fr4.at 1= .pointer (some ⟨b1,0,none⟩)∧fr4.at 3= .int .i64 (p0.Ze.length:Int)∧fr4.at 29= .slice Zr p0.Ze.length Zq∧fr4.at 30= .int .i64 (p0.Ze.length:Int)∧fr4.at 31= .int .i64 v9) ⟨_,_,rfl,hS.only sl,JY⟩ ?_);clear hL hS;rintro ZaL v9 s Zcq hL ⟨fr4,h3,rfl,hS,e5,e6,e7,e8,e10⟩;dsimp only [Zh6] at hL;refine r6 ?_;refine cn hL ?_ ?_
  ·intro hc hL;refine r6 ?_;obtain⟨x12,ZFd,hL⟩:=bS hL;obtain⟨b13,o14,_,ZLe,ZCd,ZCb,ZB9⟩:=Sl.at_ ZX ZFd;refine r1 ?_;refine WO.w gN rfl (Ua ZnR ZgP (ZR fh rfl) (At.fz hS.fz ZCb ZCd) (j:=0) rfl rfl (ws:= (cP x12)) rfl) ?_;refine r1 ?_;rintro _ h16 ⟨b15,ZZs,rfl,hS⟩;refine r1 ?_;rintro h17 hS;refine r16 ?_;refine r11 ?_;refine cn hL ?_ ?_
   ·intro hc hL;refine r11 ?_;exact rt hL hT hS
   ·intro hc hL;refine r7 ?_;exact Y2.XO (Zcq _ _ hL ⟨_,_,rfl,hS.only sl,JY⟩)
  ·intro hc hL;refine r15 ?_;refine WC.loop (WL.lift hL (fun v23 s=>∃ Zsr h18,s= ⟨Zsr,[],h18,none⟩∧Sp wm T h [bx wm b1 [.int .i64 p0.qG,.slice Zr p0.Ze.length Zq]] h18∧Zsr.at 1= .pointer (some ⟨b1,0,none⟩)∧Zsr.at 3= .int .i64 (p0.Ze.length:Int)∧Zsr.at 59= .int .i64 (p0.Ze.length:Int)∧Zsr.at 60= .int .i64 v23) ⟨_,_,rfl,hS.only sl,JY⟩ ?_);clear hL hS;rintro Zku v23 s ZzA hL ⟨Zsr,h18,rfl,hS,e20,e21,e22,e24⟩;dsimp only [Zff] at hL;refine r6 ?_;refine cn hL ?_ ?_
   ·intro hc hL;refine r15 ?_;obtain⟨x26,ZO6,hL⟩:=bS hL;obtain⟨b27,o28,_,ZUA,ZVq,ZU6,ZUU⟩:=Sl.at_ ZX ZO6;refine r12 ?_;refine WC.loop (WL.lift hL (fun p s=>match p with | (v34,v36)=>∃ ZkS h29,s= ⟨ZkS,[],h29,none⟩∧Sp wm T h [bx wm b1 [.int .i64 p0.qG,.slice Zr p0.Ze.length Zq]] h29∧ZkS.at 1= .pointer (some ⟨b1,0,none⟩)∧ZkS.at 3= .int .i64 (p0.Ze.length:Int)∧ZkS.at 6= .int .i64 v23∧ZkS.at 7= .int .i64 v34∧ZkS.at 8= .int .i64 v36∧ZkS.at 59= .int .i64 (p0.Ze.length:Int)∧ZkS.at 60= .int .i64 v23) ⟨_,_,rfl,hS.only sl,JY⟩ ?_);clear hL hS;rintro Zvp ⟨v34,v36⟩ s Zzz hL ⟨ZkS,h29,rfl,hS,e31,e32,e33,e35,e37,e38,e39⟩;dsimp only [Zh5] at hL;refine r12 ?_;refine cn hL ?_ ?_
    ·intro hc hL;refine r12 ?_;refine cn hL ?_ ?_
     ·intro hc hL;refine r16 ?_;exact rt hL hT hS
     ·intro hc hL;refine r6 ?_;obtain⟨x41,ZFb,hL⟩:=bS hL;obtain⟨b42,o43,_,ZUy,ZVm,ZU5,ZUT⟩:=Sl.at_ ZX ZFb;refine r12 ?_;exact Y2.XO (Zzz _ _ hL ⟨_,_,rfl,hS.only sl,JY⟩)
    ·intro hc hL;refine r10 ?_;exact Y2.XO (ZzA _ _ hL ⟨_,_,rfl,hS.only sl,JY⟩)
   ·intro hc hL;refine r11 ?_;exact rt hL hT hS
theorem ZGr {F h} {p0:Zc} {Zr Zq} {r} (ZX:Sl Zg h.size h Zr Zq p0.Ze) (hL:Zpn F p0=some r):Pure XX 17 #[.agg [.int .i64 p0.qG,.slice Zr p0.Ze.length Zq].toArray] h (.bool r):=
 WR.XC rfl (ZGq (Nat.le_refl _) ZX hL)
theorem ZGi {wm h} {p0:Zc} {p1:Int} {Zr Zq} {r} (ZL:wm <=h.size) (ZX:Sl Zg wm h Zr Zq p0.Ze) (hL:Zpl p0 p1=some r):
 WR XX 33 #[.agg [.int .i64 p0.qG,.slice Zr p0.Ze.length Zq].toArray,.int .i64 p1] wm h (CP (fun(v:Value) (Gb:List (Ast wm))=>v= .bool r∧Gb= []) [] h):=by
 refine bg Tryz.ntmps33 ZL Z9.nil ?_;intro T hT hS;unfold Zpl at hL;refine r3 ?_;rintro _ h2 ⟨b1,eb1,rfl,hS⟩;refine r16 ?_;refine r2 ?_;exact rt hL hT hS
theorem Zxg {h} {p0:Zc} {p1:Int} {Zr Zq} {r} (ZX:Sl Zg h.size h Zr Zq p0.Ze) (hL:Zpl p0 p1=some r):Pure XX 33 #[.agg [.int .i64 p0.qG,.slice Zr p0.Ze.length Zq].toArray,.int .i64 p1] h (.bool r):=
 WR.XC rfl (ZGi (Nat.le_refl _) ZX hL)
theorem ZGg {F wm h} {p0:Zc} {p1:Int} {Zr Zq} {r} (ZL:wm <=h.size) (ZX:Sl Zg wm h Zr Zq p0.Ze) (hL:Zxe F p0 p1=some r):
 WR XX 38 #[.agg [.int .i64 p0.qG,.slice Zr p0.Ze.length Zq].toArray,.int .i64 p1] wm h (CP (fun(v:Value) (Gb:List (Ast wm))=>∃ Jh Jf Jg,v= .slice Jh Jf Jg∧Gb= [ow wm (Zn .i64) Jh Jf Jg r]) [] h):=by
 refine bg Tryz.ntmps38 ZL Z9.nil ?_;intro T hT hS;unfold Zxe at hL;refine r3 ?_;rintro _ h2 ⟨b1,eb1,rfl,hS⟩;refine r14 ?_;obtain⟨x3,hx3,hL⟩:=bS hL;obtain⟨b4,o5,_,ZK9,ZLG,ZXP,ZLn⟩:=Sl.at_ ZX hx3;refine r7 ?_;have hS:=hS.nil (e:= (Zn .i64));refine WC.loop (WL.lift hL (fun p s=>match p with | (v9,v14)=>∃ fr7 h6 a10 c11 n12,s= ⟨fr7,[],h6,none⟩∧Sp wm T h [ow wm (Zn .i64) a10 n12 c11 v9,bx wm b1 [.int .i64 p0.qG,.slice Zr p0.Ze.length Zq]] h6∧fr7.at 2= .pointer (some ⟨b1,0,none⟩)∧fr7.at 5= .slice a10 n12 c11∧fr7.at 6= .int .i64 v14) ⟨_,_,none,0,0,rfl,hS.only sl,JY⟩ ?_);clear hL hS;rintro Zho ⟨v9,v14⟩ s ZkI hL ⟨fr7,h6,a10,c11,n12,rfl,hS,e8,e13,e15⟩;obtain rfl:=hS.on k0;dsimp only [Zlh] at hL;refine r7 ?_;refine cn hL ?_ ?_
 ·intro hc hL;refine r7 ?_;refine WO.hn gN rfl (Zc9 (e:= (Zn .i64)) hS Ud Uf ZdB rfl rfl rfl (Z0 lk Y1) rfl [((),v14)] rfl (xs:= [v14]) rfl (by intro q hq;simp only [List.mem_cons,List.not_mem_nil,or_false] at hq;subst hq;exact trivial) rfl) ?_;rintro _ h18 ⟨b17,ZZr,rfl,hS⟩;obtain⟨z19,ZOJ,hL⟩:=bS hL;refine WO.hv gN rfl (ZgV (e:= (Zn .i64)) hS k1 Zb2 lk lk (hS.Uu k0) (hS.on k0) ZOJ) ?_;rintro _ h22 ⟨a20,c21,rfl,hS⟩;refine r8 ?_;obtain⟨x23,ZO7,hL⟩:=bS hL;obtain⟨b24,o25,_,ZUB,ZVr,ZU7,ZUV⟩:=Sl.at_ ZX ZO7;refine r5 ?_;exact Y2.XO (ZkI _ _ hL ⟨_,_,a20,c21,z19.length,rfl,hS.only sl,JY⟩)
 ·intro hc hL;refine r12 ?_;have hr:=Oi0 hL;subst hr;exact Yd.Wn rfl (ZV lk Zv) ⟨_,⟨a10,v9.length,c11,rfl,rfl⟩,hT ▸ hS.only sl⟩
end
section
def Zh0 (p0:Zc) (p1:Int):Option Bool:=
 some ((decide (p1 >=0)) && (decide (p1 < (p0.Ze.length:Int))))
end
section
theorem ZGc {wm h} {p0:Zc} {p1:Int} {Zr Zq} {r} (ZL:wm <=h.size) (ZX:Sl Zg wm h Zr Zq p0.Ze) (hL:Zh0 p0 p1=some r):
 WR XX 54 #[.agg [.int .i64 p0.qG,.slice Zr p0.Ze.length Zq].toArray,.int .i64 p1] wm h (CP (fun(v:Value) (Gb:List (Ast wm))=>v= .bool r∧Gb= []) [] h):=by
 refine bg Tryz.ntmps54 ZL Z9.nil ?_;intro T hT hS;unfold Zh0 at hL;refine r3 ?_;rintro _ h2 ⟨b1,eb1,rfl,hS⟩;refine r16 ?_;refine r2 ?_;exact rt hL hT hS
theorem Zpj {h} {p0:Zc} {p1:Int} {Zr Zq} {r} (ZX:Sl Zg h.size h Zr Zq p0.Ze) (hL:Zh0 p0 p1=some r):Pure XX 54 #[.agg [.int .i64 p0.qG,.slice Zr p0.Ze.length Zq].toArray,.int .i64 p1] h (.bool r):=
 WR.XC rfl (ZGc (Nat.le_refl _) ZX hL)
end
end Go.Proofs.YtcnahmgekicbdaaGreat
end
end
