/- Part 9. -/
import Derived.Test.YtcnahmgekicbdaaGreatRa8
set_option linter.all false
set_option maxHeartbeats 2000000
section
noncomputable section
namespace Go.YL
open Go.Lf
section
variable {X:Ctx} {n wm:Nat} {rd:Option Nat} {ops:Array Oper} {ol:List Oper} {fr:Fr} {ds:List Deferred} {h h0:H} {ty:TypeId} {p:String} {af:Array Edge} {g:Option (Nat×Bool)} {T:Nat ->Prop} {G Gr:List (Ast wm)} {d l df:Nat} {LO:XU} {ps:Array Tmp} {YF bd:Code}
theorem ZnO {α β:Type} {body:α ->(α ->Option β) ->Option β} (C:α ->β ->Prop) (hb:∀ next:α ->Option β,(∀ x r,next x=some r ->C x r) ->∀ x r,body x next=some r ->C x r):∀ F x r,loop F body x=some r ->C x r:=by
 intro F
 induction F with
 | zero=>intro x r h;cases h
 | succ F ih=>intro x r h;exact hb _ ih x r h
def dne (c:Code):XU ->XU
 | .loop _ _ fr n ps YF bd df=>.loop .done (some c) fr n ps YF bd df
 | A=>A
def lst (b:Bool) (c:Code) (A:XU):XU:=bif b then dne c A else A
inductive Ztn:XX ->Code ->Prop
 | ret:Ztn .ret .ret
 | exit (id:Nat):Ztn (.exit id) (.exit id)
structure BdS (n lo l:Nat) (fr:Fr) (ps:Array Tmp) (YF bd:Code) (df:Nat) (R:Bool ->H ->Prop) (e:XX) (s:Fs):Prop where
 out:s.h.at l= .loop .busy none fr n ps YF bd df∧
  ((e= .normal∧∀ h',(lo <=l ->Up lo (fun i=>i=l) s.h h') ->h'.at l= .loop .ready none fr n ps YF bd df ->R true h')∨
   (∃ c,Ztn e c∧∀ h',(lo <=l ->Up lo (fun i=>i=l) s.h h') ->h'.at l= .loop .done (some c) fr n ps YF bd df ->R false h'))
structure AsS (X:Ctx) (n wm lo l:Nat) (fr:Fr) (ps:Array Tmp) (YF bd:Code) (df:Nat) (R:Bool ->H ->Prop) (e:XX) (s:Fs):Prop where
 out:e= .normal∧s.h.at l= .loop .ready none fr n ps YF bd df∧∀ h1,(lo <=l ->Up lo (fun i=>i=l) s.h h1) ->h1.at l= .loop .busy none fr n ps YF bd df ->WC X n wm (some l) bd ⟨s.fr,s.ds,h1,s.wr⟩ (BdS n lo l fr ps YF bd df R)
theorem ZrM.mkS {l:Nat} {args:List Value} {fr fr1:Fr} {ps:Array Tmp} {YF bd:Code} {df:Nat} {R:Bool ->H ->Prop} (lo:Nat) (hat:h.at l= .loop .ready none fr n ps YF bd df) (hw:wm <=l) (hl:Nat.beq args.length ps.toList.length=true) (hs:QL (ps.toList.zip args) n fr=some fr1)
 (k:WC X n wm (some l) YF ⟨fr1,[],h,none⟩ (AsS X n wm lo l fr ps YF bd df R)):ZrM X l args.toArray wm h R:=by
 obtain⟨e1,s1,⟨rfl,h1,k1⟩,j1⟩:=k;have o1:(s1.h.at l).own=true:=by rw [h1];rfl
 have s1l:=Qo h1 rfl;obtain⟨e2,s2,⟨h2,k2⟩,j2⟩:=k1 (s1.h.put l (.loop .busy none fr n ps YF bd df)) (fun hl=>Up.put hl o1) (Y8 s1l _);have o2:(s2.h.at l).own=true:=by rw [h2];rfl
 have s2l:=Qo h2 rfl
 have key:∃ b A,R b (s2.h.put l A)∧WM l e2 s2=some (.fin (.ret (.bool b)) (s2.h.put l A)):=by
  rcases k2 with⟨rfl,k2⟩ | ⟨c,hx,k2⟩
  ·refine⟨true,_,k2 _ (fun hl=>Up.put hl o2) (Y8 s2l _),?_⟩;unfold WM;rw [h2]
  ·refine⟨false,_,k2 _ (fun hl=>Up.put hl o2) (Y8 s2l _),?_⟩;unfold WM;rw [h2];cases hx <;> rfl
 obtain⟨b,A,hR,hev⟩:=key;refine⟨b,s2.h.put l A,hR,?_⟩
 classical
 let ih:Jy ->Option Xf:=fun j=>if j= .code YF n wm (some l) ⟨fr1,[],h,none⟩ then some (.code .normal s1) else Zaq (.code bd n wm (some l) {s1 with h:=s1.h.put l (.loop .busy none fr n ps YF bd df)}) (.code e2 s2) j
 have HI:∀ j r,ih j=some r ->Y9 X j r:=by
  intro j r e;dsimp only [ih] at e;split at e
  ·rename_i hj;cases e;rw [hj];exact j1
  ·exact Ux (X:=X) j2 j r e
 refine Zau (C:=cfg X fun _=>false) (ih:=ih) HI ?_;unfold Zc2;rw [hat];have hl':Nat.beq args.toArray.toList.length ps.toList.length=true:=hl;dsimp only;rw [Nm0 hw,hl'];simp only [Bool.and_self,Cq1];have hs':QL (ps.toList.zip args.toArray.toList) n fr=some fr1:=hs;rw [hs'];dsimp only;have i1:ih (.code YF n wm (some l) {fr:=fr1,ds:= [],h:=h})=some (.code .normal s1):=by dsimp only [ih];rw [if_pos rfl]
 rw [i1];show KU ih l bd n wm .normal s1=_;unfold KU;dsimp only;rw [h1];dsimp only
 have i2:ih (.code bd n wm (some l) {s1 with h:=s1.h.put l (.loop .busy none fr n ps YF bd df)})=some (.code e2 s2):=by
  dsimp only [ih];split
  ·rename_i hj;exfalso;injection hj with _ _ _ _ hs
   have:({s1 with h:=s1.h.put l (.loop .busy none fr n ps YF bd df)}:Fs).h.at l=h.at l:=by rw [hs]
   dsimp only at this;rw [Y8 s1l,hat] at this;cases this
  ·exact Uy _ _
 rw [i2];exact hev
theorem WO.ZAM {Q:XX ->Fs ->Prop} {fo:Operand} {xs:Array Operand} {ts:Array TypeId} {vs:List Value} {n2:Nat} {JJ fr1:Fr} {as2 bd2:Code} (hg:Yx ops ⟨some d,.call {callee:= .value fo,args:=xs,argTypes:=ts},ty,p,af,g⟩ fr) (hd:Nat.blt d n=true) (hf:YC fr fo=some (.func (.yield l) #[] #[])) (hx:evs (YC fr) xs.toList=some vs)
 (hS:Sp wm T h0 G h) (pk:Pk G (ob wm l LO) Gr) (hLO:LO= .loop .ready none JJ n2 ps as2 bd2 df) (hl:Nat.beq vs.length ps.toList.length=true) (hs:QL (ps.toList.zip vs) n2 JJ=some fr1)
 (k:WC X n2 wm (some l) as2 ⟨fr1,[],h,none⟩ (AsS X n2 wm wm l JJ ps as2 bd2 df (fun b h'=>WO X n wm rd ops ol ⟨Tr.set fr d (.bool b),ds,h',none⟩ Q))):
 WO X n wm rd ops (⟨some d,.call {callee:= .value fo,args:=xs,argTypes:=ts},ty,p,af,g⟩::ol) ⟨fr,ds,h,none⟩ Q:=by
 obtain⟨h1,h2,h3⟩:=hS.get pk;have hat:=h1.trans hLO;exact WO.yld hg hd hf hx hat (Nb0 hl) (ZrM.mkS (lo:=wm) hat h2 hl hs k) fun b h' hk=>hk
theorem AsS.sp {JJ:Fr} {R:Bool ->H ->Prop} (hLO:LO= .loop .ready none fr n ps YF bd df) (hS:Sp wm T h0 G h) (pk:Pk G (ob wm l LO) Gr) (k:∀ h1,Sp wm T h0 (ob wm l (bsy LO)::Gr) h1 ->WC X n wm (some l) bd ⟨JJ,ds,h1,none⟩ (BdS n wm l fr ps YF bd df R)):AsS X n wm wm l fr ps YF bd df R .normal ⟨JJ,ds,h,none⟩:=by
 obtain⟨h1,h2,h3⟩:=hS.get pk;refine⟨⟨rfl,h1.trans hLO,fun h' u e=>k h' ?_⟩⟩;exact hS.one pk (u h2) (fun _ q=>q) ⟨by rw [e,hLO];rfl,h2,by rw [hLO];rfl⟩ fun _ q=>.inl q
theorem BdS.sp {JJ:Fr} {R:Bool ->H ->Prop} (hLO:LO= .loop .ready none fr n ps YF bd df) (hS:Sp wm T h0 G h) (pk:Pk G (ob wm l (bsy LO)) Gr) (k:∀ h1,Sp wm T h0 (ob wm l LO::Gr) h1 ->R true h1):BdS n wm l fr ps YF bd df R .normal ⟨JJ,ds,h,none⟩:=by
 obtain⟨h1,h2,h3⟩:=hS.get pk;refine⟨⟨h1.trans (by rw [hLO];rfl),.inl ⟨rfl,fun h' u e=>k h' ?_⟩⟩⟩;exact hS.one pk (u h2) (fun _ q=>q) ⟨by rw [e,hLO],h2,by rw [hLO];rfl⟩ fun _ q=>.inl q
theorem BdS.stop {JJ:Fr} {R:Bool ->H ->Prop} {e:XX} {c:Code} (hx:Ztn e c) (hLO:LO= .loop .ready none fr n ps YF bd df) (hS:Sp wm T h0 G h) (pk:Pk G (ob wm l (bsy LO)) Gr) (k:∀ h1,Sp wm T h0 (ob wm l (lst true c LO)::Gr) h1 ->R false h1):BdS n wm l fr ps YF bd df R e ⟨JJ,ds,h,none⟩:=by
 obtain⟨h1,h2,h3⟩:=hS.get pk;refine⟨⟨h1.trans (by rw [hLO];rfl),.inr ⟨c,hx,fun h' u e=>k h' ?_⟩⟩⟩;exact hS.one pk (u h2) (fun _ q=>q) ⟨by rw [e,hLO];rfl,h2,by rw [hLO];rfl⟩ fun _ q=>.inl q
structure RgS (X:Ctx) (wm l:Nat) (fr:Fr) (n:Nat) (ps:Array Tmp) (YF bd:Code) (df:Nat) (ds:List Deferred) (Q:XX ->Fs ->Prop) (h:H):Prop where
 low:wm <=l
 k:(h.at l= .loop .ready none fr n ps YF bd df∧∀ h',Up wm (fun i=>i=l) h h' ->Q .normal ⟨fr,⟨.collected df,#[]⟩::ds,h',none⟩)∨
  (∃ c,h.at l= .loop .done (some c) fr n ps YF bd df∧∀ h',Up wm (fun i=>i=l) h h' ->WC X n wm none c ⟨fr,⟨.collected df,#[]⟩::ds,h',none⟩ Q)
theorem RgS.sp {Q:XX ->Fs ->Prop} (hLO:LO= .loop .ready none fr n ps YF bd df) (hS:Sp wm T h0 G h) (pk:Pk G (ob wm l LO) Gr) (k:∀ h',Sp wm T h0 Gr h' ->Q .normal ⟨fr,⟨.collected df,#[]⟩::ds,h',none⟩):RgS X wm l fr n ps YF bd df ds Q h:=by
 obtain⟨h1,h2,h3⟩:=hS.get pk;refine⟨h2,.inl ⟨h1.trans hLO,fun h' u=>k h' ?_⟩⟩;exact Sp.step (Ga:= [ob wm l LO]) (Gb:= []) (hS.perm pk.perm) u (fun i e=>⟨_,List.mem_singleton.2 rfl,e⟩) Z7.nil fun i ⟨A,m,f⟩=>by simp at m
theorem RgS.stop {Q:XX ->Fs ->Prop} {c:Code} (hLO:LO= .loop .ready none fr n ps YF bd df) (hS:Sp wm T h0 G h) (pk:Pk G (ob wm l (lst true c LO)) Gr) (k:∀ h',Sp wm T h0 Gr h' ->WC X n wm none c ⟨fr,⟨.collected df,#[]⟩::ds,h',none⟩ Q):RgS X wm l fr n ps YF bd df ds Q h:=by
 obtain⟨h1,h2,h3⟩:=hS.get pk;refine⟨h2,.inr ⟨c,h1.trans (by rw [hLO];rfl),fun h' u=>k h' ?_⟩⟩;exact Sp.step (Ga:= [ob wm l (lst true c LO)]) (Gb:= []) (hS.perm pk.perm) u (fun i e=>⟨_,List.mem_singleton.2 rfl,e⟩) Z7.nil fun i ⟨A,m,f⟩=>by simp at m
theorem WC.ZlD {Q:XX ->Fs ->Prop} {gg:Operand} {f:FuncId} {first cap:List Value} (hS:Sp wm T h0 G h) (hg:YC fr gg=some (.func (.func f) first.toArray cap.toArray)) (hf:(X.fns.get f).isSome=true)
 (k:∀ h' l df LO,LO=XU.loop .ready none fr n ps YF bd df ->Sp wm T h0 (ob wm l LO::ob wm df .deferred::G) h' ->WR X f (first ++ ([Value.func (.yield l) #[] #[]] ++ cap)).toArray wm h' (fun _ h2=>RgS X wm l fr n ps YF bd df ds Q h2)):
 WC X n wm none (.rangeFunc gg ps YF bd) ⟨fr,ds,h,none⟩ Q:=by
 have s1:Sp wm T h0 (ob wm h.size .deferred::G) (h.push .deferred):=ZlK rfl hS
 have s2:Sp wm T h0 (ob wm (h.size + 1) (.loop .ready none fr n ps YF bd h.size)::ob wm h.size .deferred::G) ((h.push .deferred).push (.loop .ready none fr n ps YF bd h.size)):=by
  have:=ZlK (A:= .loop .ready none fr n ps YF bd h.size) rfl s1
  rwa [H.size_push] at this
 obtain⟨fn,hf⟩:=Option.isSome_iff_exists.1 hf;obtain⟨e,h3,⟨v,rfl,hr⟩,hj⟩:=k _ _ _ _ rfl s2
 have hac:Ke (cfg X fun _=>false).X ((h.push .deferred).push (.loop .ready none fr n ps YF bd h.size)) (.func (.func f) first.toArray cap.toArray) [Value.func (.yield (h.size + 1)) #[] #[]]=some (.enter f (first ++ ([Value.func (.yield (h.size + 1)) #[] #[]] ++ cap)).toArray,.none):=by
  unfold Ke;have:(cfg X fun _=>false).X.fns.get f=some fn:=hf;dsimp only;rw [this];simp only [List.append_assoc]
 rcases hr.k with⟨hat,hk⟩ | ⟨c,hat,hk⟩
 ·refine⟨.normal,_,hk (h3.put (h.size + 1) (.loop .exhausted none fr n ps YF bd h.size)) (Up.put hr.low (by rw [hat];rfl)),?_⟩;refine Qa.2 (Ww (C:=cfg X fun _=>false) (ih:=Zaq (.call f _ wm _) (.fin (.ret v) h3)) (Ux hj) ?_);show QU (cfg X fun _=>false) _ gg n wm none (h.size + 1) ⟨fr,⟨.collected h.size,#[]⟩::ds,(h.push .deferred).push (.loop .ready none fr n ps YF bd h.size),none⟩=_;unfold QU;dsimp only;rw [hg];dsimp only;rw [hac];dsimp only;unfold UW;rw [Uy];dsimp only;rw [hat]
  rfl
 ·obtain⟨e2,s2,hq,hj2⟩:=hk (h3.put (h.size + 1) (.loop .exhausted (some c) fr n ps YF bd h.size)) (Up.put hr.low (by rw [hat];rfl));refine⟨e2,s2,hq,?_⟩
  classical
  let ih:Jy ->Option Xf:=fun j=>if j= .code c n wm none ⟨fr,⟨.collected h.size,#[]⟩::ds,h3.put (h.size + 1) (.loop .exhausted (some c) fr n ps YF bd h.size),none⟩ then some (.code e2 s2) else Zaq (.call f (first ++ ([Value.func (.yield (h.size + 1)) #[] #[]] ++ cap)).toArray wm ((h.push .deferred).push (.loop .ready none fr n ps YF bd h.size))) (.fin (.ret v) h3) j
  have HI:∀ j r,ih j=some r ->Y9 X j r:=by
   intro j r e;dsimp only [ih] at e;split at e
   ·rename_i hj';cases e;rw [hj'];exact hj2
   ·exact Ux (X:=X) hj j r e
  refine Qa.2 (Ww (C:=cfg X fun _=>false) (ih:=ih) HI ?_);show QU (cfg X fun _=>false) _ gg n wm none (h.size + 1) ⟨fr,⟨.collected h.size,#[]⟩::ds,(h.push .deferred).push (.loop .ready none fr n ps YF bd h.size),none⟩=_;unfold QU;dsimp only;rw [hg];dsimp only;rw [hac];dsimp only;unfold UW
  have i1:ih (.call f (first ++ ([Value.func (.yield (h.size + 1)) #[] #[]] ++ cap)).toArray wm ((h.push .deferred).push (.loop .ready none fr n ps YF bd h.size)))=some (.fin (.ret v) h3):=by
   dsimp only [ih];split
   ·rename_i hj';cases hj'
   ·exact Uy _ _
  rw [i1];dsimp only;rw [hat];show ih (.code c n wm none _)=_;dsimp only [ih];rw [if_pos rfl]
theorem ZnG {κ ν:Type} [DecidableEq κ] {kv:κ ->Value} {vv:ν ->Value} {kt vt:TypeId} {i:Nat} {ll:List (κ×ν)} {t:TypeId} {x y z:Operand} {k:κ} {v:ν} (hS:Sp wm T h0 G h) (pk:Pk G (mp wm kv vv (some i) ll) Gr) (K:ZjH X.P kt kv) (hu:X.P.underlying t=some (.map kt vt)) (hx:YC fr x=some (.map (some i))) (hy:YC fr y=some (kv k)) (hz:YC fr z=some (vv v)):
 HU X wm ⟨none,.insert t x y z,ty,p,af,g⟩ fr h (fun j=>j=i) (fun h'=>Sp wm T h0 (mp wm kv vv (some i) (Zqc ll k v)::Gr) h'):=
 ZLx (ty:=ty) (p:=p) (af:=af) (g:=g) hS pk K hu hx hy hz
section
variable {sf:ST} {m:Nat}
theorem WX.Zcg {Q:Fr ->H ->Prop} {o:Oper} {c:Bool} (_:Zh ops o fr c) (h1:c=true ->WX X n wm rd ops sf m h (o::ol) fr Q) (h2:c=false ->WX X n wm rd ops sf m h (o::ol) fr Q):WX X n wm rd ops sf m h (o::ol) fr Q:=by
 cases c
 ·exact h2 rfl
 ·exact h1 rfl
theorem Sp.djs {T0:Nat ->Prop} {G Ga Gr:List (Ast wm)} {B:Ast wm} (s:Sp wm T0 h0 G h) (p:Sel G (B::Ga) Gr):∀ x,Qs Ga x ->¬ B.fp x:=fun x ⟨A,hA,fa⟩ fb=>
 (List.pairwise_cons.1 (s.Zhf p).dis).1 A hA x fb fa
theorem WX.JH {Q:Fr ->H ->Prop} {op:Op} {c:Bool} (hg:Zh ops ⟨some d,op,ty,p,af,g⟩ fr c) (hc:c=false) (hd:Nat.blt d n=true) (k:WX X n wm rd ops sf (m + 1) h ol (Tr.set fr d undef) Q) (hM:okM ops sf m ⟨some d,op,ty,p,af,g⟩=true):WX X n wm rd ops sf m h (⟨some d,op,ty,p,af,g⟩::ol) fr Q:=WX.off (hg.off hc) hd k hM
end
theorem Zhs {β:Type} {b:Bool} {x:Option β} {r:β} (h:(bif b then none else x)=some r):b=false∧x=some r:=by
 cases b
 ·exact⟨rfl,h⟩
 ·cases h
theorem Jv (b:Bool):b=true∨b=false:=by cases b <;> simp
end
section
def ZJl (L:List Nat):List Deferred:=L.map fun r=>⟨.collected r,#[]⟩
def cds (wm:Nat) (L:List Nat):Ast wm where
 P:=fun h=>(∀ r ∈ L,h.at r= .deferred∧wm <=r)∧L.Nodup
 fp:=fun i=>i ∈ L
 loc:=fun _ k ⟨h1,h2⟩=>⟨fun r hr=>⟨by rw [k r hr];exact(h1 r hr).1,(h1 r hr).2⟩,h2⟩
 own:=fun⟨h1,_⟩ e=>⟨(h1 _ e).2,by rw [(h1 _ e).1];rfl⟩
section
variable {X:Ctx} {n wm:Nat} {G G1 G2 Gr:List (Ast wm)} {h h0:H} {T:Nat ->Prop} {df:Nat} {L:List Nat} {fr:Fr} {ds:List Deferred}
theorem Sp.ZPE (s:Sp wm T h0 G h):Sp wm T h0 (cds wm []::G) h:=s.add ⟨fun r hr=>(by cases hr),List.nodup_nil⟩ (fun i hi=>(by cases hi))
theorem Sp.ZPD (s:Sp wm T h0 G h) (p:Pk G (ob wm df .deferred) G1) (q:Pk G1 (cds wm L) G2):Sp wm T h0 (cds wm (df::L)::G2) h:=by
 have s:=s.perm (p.perm.trans (List.Perm.cons _ q.perm));have h1:=s.hold.all (ob wm df .deferred) (by simp);have h2:=s.hold.all (cds wm L) (by simp);have d:=s.hold.dis;rw [List.pairwise_cons,List.pairwise_cons] at d;obtain⟨d1,d2,d3⟩:=d;refine⟨s.wl,s.fz,s.keep,⟨fun A m=>?_,List.pairwise_cons.2 ⟨fun B m i f f'=>?_,d3⟩⟩,fun i f=>?_⟩
 ·rcases List.mem_cons.1 m with m | m
  ·rw [m];refine⟨fun r hr=>?_,List.nodup_cons.2 ⟨fun z=>d1 (cds wm L) (by simp) df rfl z,h2.2⟩⟩;rcases List.mem_cons.1 hr with e | e
   ·rw [e];exact⟨h1.1,h1.2.1⟩
   ·exact h2.1 r e
  ·exact s.hold.all A (by simp [m])
 ·rcases List.mem_cons.1 f with e | e
  ·exact d1 B (by simp [m]) i e f'
  ·exact d2 B m i e f'
 ·obtain⟨A,m,f⟩:=f;rcases List.mem_cons.1 m with m | m
  ·rw [m] at f;rcases List.mem_cons.1 f with e | e
   ·exact s.inn i ⟨ob wm df .deferred,by simp,e⟩
   ·exact s.inn i ⟨cds wm L,by simp,e⟩
  ·exact s.inn i ⟨A,by simp [m],f⟩
theorem Qc.Zk7 {fn:Func} {R:Ku ->H ->Prop}:∀ {L:List Nat} {G:List (Ast wm)} {h:H} (_:Sp wm T h0 G h) (_:Pk G (cds wm L) Gr) (_:∀ h',Sp wm T h0 Gr h' ->Qc X fn wm R .ret ⟨fr,ds,h',none⟩),Qc X fn wm R .ret ⟨fr,ZJl L ++ ds,h,none⟩
 | [],_,h,hS,pk,k=>k h (hS.drop pk)
 | r::L,G,h,hS,pk,k=>by
   obtain⟨h1,h2⟩:=hS.get pk;have hr:=h1 r (by simp);have hn:=List.nodup_cons.1 h2;refine Qc.col wm hr.2 hr.1 hr.2 fun h' u=>?_
   have s:Sp wm T h0 (cds wm L::Gr) h':=Sp.step (Ga:= [cds wm (r::L)]) (Gb:= [cds wm L]) (hS.perm pk.perm) u (fun i e=>⟨_,List.mem_singleton.2 rfl,by rw [e];exact List.mem_cons_self⟩)
    (Z7.one ⟨fun x hx=>⟨by rw [u.keep x (Qo (h1 x (by simp [hx])).1 rfl) (fun e=>hn.1 (e ▸ hx))];exact(h1 x (by simp [hx])).1,(h1 x (by simp [hx])).2⟩,hn.2⟩)
    fun i ⟨A,m,f⟩=>.inl ⟨_,List.mem_singleton.2 rfl,by rw [List.mem_singleton.1 m] at f;exact List.mem_cons_of_mem _ f⟩
   exact Qc.Zk7 s .z k
end
end
section
variable {X:Ctx} {n wm wm':Nat} {rd:Option Nat} {ops:Array Oper} {ol:List Oper} {m:Nat} {sf:ST} {fr:Fr} {h h0:H} {ty:TypeId} {p:String} {af:Array Edge} {g:Option (Nat×Bool)} {T:Nat ->Prop} {G Gr:List (Ast wm)} {d:Nat}
theorem ZV0 {a b:Bool} (ha:a=true) (h:(a && b)=false):b=false:=by cases a <;> simp_all
section
variable {α:Type} {e:J6 α} {a a1 a2:Option Addr} {nn c n1 c1 n2 c2:Nat} {ps:Nat ->Option Addr×Nat×Nat} {xs:List (List α)}
theorem Sp.ZLF {x1 x2:List α} (s:Sp wm T h0 G h) (pk:Pk G (ow wm (ZlE 1 Nat.one_pos) a nn c [⟨[.slice a1 n1 c1],rfl,rfl⟩,⟨[.slice a2 n2 c2],rfl,rfl⟩]) Gr) (k1:n1=x1.length) (s1:Sl e h.size h a1 c1 x1) (k2:n2=x2.length) (s2:Sl e h.size h a2 c2 x2):Sl (X0 e) h.size h a c [x1,x2]:=by
 obtain⟨h1,so⟩:=s.get pk;have hm:=so.max;have hc:=so.cap;refine⟨hm,hc,so.nl,.inr ?_⟩;rcases so.mem with⟨_,_,q⟩ | ⟨i,o,cs,q1,q2,q3,q4,q5,q6⟩
 ·cases q
 ·refine⟨i,o,cs,true,_,q1,q3,.inl (Qo q3 rfl),⟨q6.len,fun k x hk=>?_⟩⟩
  match k with
  | 0=>
    obtain⟨_,g1,_⟩:=q6.get 0 _ rfl;simp at hk;subst hk;exact⟨(a1,c1),by rw [k1] at g1;exact g1,s1⟩
  | 1=>
    obtain⟨_,g1,_⟩:=q6.get 1 _ rfl;simp at hk;subst hk;exact⟨(a2,c2),by rw [k2] at g1;exact g1,s2⟩
  | k + 2=>simp at hk
end
section
variable {α:Type} {e:J6 α} {t el:TypeId} {x:Operand} {a:Option Addr} {nn c:Nat} {xs zs:List α} {a1:Int}
theorem X8.cases {α:Type} {e:J6 α} {a:Option Addr} {c:Nat} {xs:List α} (s:X8 e wm wm' h a c xs):(a=none∧c=0∧xs= [])∨∃ q,a=some q:=by
 rcases s.mem with⟨h1,h2,h3⟩ | ⟨i,o,cs,h1,_⟩
 ·exact .inl ⟨h1,h2,h3⟩
 ·exact .inr ⟨_,h1⟩
theorem ZuW {P:Program} {t:TypeId} {x y:Operand} {k k':IntKind} {a b c:Int} (hb:0 <=b) (hc:c=a.fdiv (2 ^ (min b.toNat k.bits))):JB P .shr t x y (.int k a) (.int k' b)=some (.val (.int k c),.none):=by
 have hp:(plain (.int k a) && plain (.int k' b))=true:=rfl;unfold JB;rw [hp,Cq1]
 have e1:binOp .shr t (.int k a) (.int k' b)=pure (.int k c):=by
  show Op.shift .shr k a k' b=_;unfold Op.shift;rw [if_neg (by omega),hc]
 have hg:(do eqGuard .shr t x y (.int k a) (.int k' b);binOp .shr t (.int k a) (.int k' b):Sem Value)=pure (.int k c):=by
  rw [e1];rfl
 rw [hg];rfl
theorem ZuX {P:Program} {t:TypeId} {x y:Operand} {a:Int}:JB P .shr t x y (.int .u64 a) (.int .u64 1)=some (.val (.int .u64 (a / 2)),.none):=
 ZuW (by decide) (by
  show a / 2=a.fdiv 2;rw [Int.fdiv_eq_ediv_of_nonneg a (by decide)])
theorem ZFA {lo:Operand} {kk:IntKind} (so:Sl e wm' h a c xs) (hev:c % 2=0) (hn:nn=xs.length) (hu:X.P.underlying t=some (.slice el)) (hs:YA X.P el=some e.sz) (hx:YC fr x=some (.slice a nn c))
 (hlo:YC fr lo=some (.int kk a1)) (hz:slL xs a1 xs.length=some zs):
 HE X ⟨some d,.slice t x (some lo) none none,ty,p,af,g⟩ fr h (fun v=>∃ a' c',v= .slice a' zs.length c'∧Zkk e a c xs a' c' zs):=by
 obtain⟨l,k,rfl,hk,hlk,hkx,rfl⟩:=WB hz;have hk:k=xs.length:=by omega
 subst hk hn;have hlen:((xs.take xs.length).drop l).length=xs.length - l:=by rw [List.length_drop,List.length_take];omega
 have e1:∀ q,obN (some (.int kk (l:Int))) q=some l:=fun q=>rfl
 have e2:obN none xs.length=some xs.length:=rfl;have hcap:=so.cap;rcases so.nl with⟨rfl,rfl⟩ | ⟨rfl,rfl⟩ | ⟨i,o,rfl⟩
 ·have hx0:xs= []:=List.length_eq_zero_iff.1 (by omega);subst hx0;have hl0:l=0:=by simpa using hlk
  subst hl0;refine⟨.slice none 0 0,Qp hx (Xi hlo) rfl rfl ?_,none,0,rfl,Zg6 rfl⟩
  have:aslice X.P h t (.slice none 0 0) (some (.int kk ((0:Nat):Int))) none none=some (.slice none 0 0):=by
   unfold aslice;simp only [hu,hs]
   rfl
  exact this
 ·have hx0:xs= []:=List.length_eq_zero_iff.1 (by omega);subst hx0;have hl0:l=0:=by simpa using hlk
  subst hl0;refine⟨.slice (some ⟨0,0,some 0⟩) 0 0,Qp hx (Xi hlo) rfl rfl ?_,_,0,rfl,Zg6 rfl⟩
  have:aslice X.P h t (.slice (some ⟨0,0,some 0⟩) 0 0) (some (.int kk ((0:Nat):Int))) none none=some (.slice (some ⟨0,0,some 0⟩) 0 0):=by
   unfold aslice;simp only [hu,hs]
   rfl
  exact this
 ·have hb:Nat.beq (c % 2) 0=true:=by rw [hev];rfl
  have hd:(Nat.ble l xs.length && Nat.ble xs.length (c / 2))=true:=by rw [Nm0 hlk,Nm0 hcap];rfl
  refine⟨.slice (some ⟨i,bif Nat.beq (c / 2) l then o else o + l * e.sz,none⟩) (xs.length - l) (2 * (c / 2 - l)),Qp hx (Xi hlo) rfl rfl ?_,_,_,by rw [hlen],ZhF hlk (Nat.le_refl _) ?_⟩
  ·unfold aslice;simp only [hu,hs,e1,e2,hd,hb,Cq1]
  ·cases hcl:Nat.beq (c / 2) l with
   | true=>right;have:=Nb0 hcl;exact⟨rfl,this,by omega⟩
   | false=>left;exact⟨rfl,by omega⟩
end
end
end Go.YL
end
end
section
set_option maxRecDepth 100000
noncomputable section
namespace Go.Proofs.YtcnahmgekicbdaaGreat
section
structure ZU where
 at_:Int
 J3:Int
 deriving DecidableEq,Inhabited
structure Zc where
 qG:Int
 Zf:(List ZU)
 deriving DecidableEq,Inhabited
structure Zd where
 kZ:Int
 kV:Int
 kX:Int
 n:Int
 deriving DecidableEq,Inhabited
structure QG where
 qK:Zc
 before:(List Zd)
 deriving DecidableEq,Inhabited
structure Ze where
 kW:Int
 kV:Int
 kX:Int
 n:Int
 qX:(List Int)
 deriving DecidableEq,Inhabited
structure Zo where
 ZV:Int
 kG:(List Ze)
 deriving DecidableEq,Inhabited
structure Zm where
 qV:(List Int)
 qX:(List (List Int))
 qZ:(List (List Int))
 Zp:(List (List Int))
 Zw:(List (List Ze))
 kQ:(List Zo)
 kK:Int
 deriving DecidableEq,Inhabited
structure ZE where
 Za:Zm
 qK:Zc
 kU:(List Zd)
 deriving DecidableEq,Inhabited
structure Yc where
 act:Int
 a:Int
 b:Int
 deriving DecidableEq,Inhabited
def Qy (x y:Zd):Bool:= [x.kZ==y.kZ,x.kV==y.kV,x.kX==y.kX,x.n==y.n].all id
def ZCv:Option Bool:=some true
def ZoA (p0:List Int) (k:Int) (p2:List Int):Option (List Int):=bif Nat.ble p0.length 1000000 && (Nat.beq p2.length 1 && (decide (0 <=k) && decide (k <= (p0.length:Int)))) then some (p0.take k.toNat ++ p2 ++ p0.drop k.toNat) else none
end
section
open Go.YL Go.Lf
def Zg:J6 ZU where
 sz:=2
 pos:=by decide
 K4:=Unit
 dflt:= ()
 sh:=fun _ x=>[.int .i64 x.at_,.int .i64 x.J3]
 len:=fun _ _=>rfl
 one:=fun _ _=>rfl
 F:=fun _ _ _ _=>True
 mono:=fun _ x=>x
 up:=fun _ x=>x
def ZpP:J6 Zc where
 sz:=2
 pos:=by decide
 K4:= (Option Addr×Nat)
 dflt:= (none,0)
 sh:=fun p x=>[.int .i64 x.qG,.slice p.1 x.Zf.length p.2]
 len:=fun _ _=>rfl
 one:=fun _ _=>rfl
 F:=fun wm h p x=>Sl Zg wm h p.1 p.2 x.Zf
 mono:=fun f x=>x.mono f
 up:=fun f x=>x.up f
def Zu:J6 Zd where
 sz:=4
 pos:=by decide
 K4:=Unit
 dflt:= ()
 sh:=fun _ x=>[.int .i64 x.kZ,.int .i64 x.kV,.int .i64 x.kX,.int .i64 x.n]
 len:=fun _ _=>rfl
 one:=fun _ _=>rfl
 F:=fun _ _ _ _=>True
 mono:=fun _ x=>x
 up:=fun _ x=>x
def Zn:J6 Ze where
 sz:=5
 pos:=by decide
 K4:= (Option Addr×Nat)
 dflt:= (none,0)
 sh:=fun p x=>[.int .i64 x.kW,.int .i64 x.kV,.int .i64 x.kX,.int .i64 x.n,.slice p.1 x.qX.length p.2]
 len:=fun _ _=>rfl
 one:=fun _ _=>rfl
 F:=fun wm h p x=>Sl (Zq .i64) wm h p.1 p.2 x.qX
 mono:=fun f x=>x.mono f
 up:=fun f x=>x.up f
def Kz:J6 Zo where
 sz:=2
 pos:=by decide
 K4:= (Option Addr×Nat)
 dflt:= (none,0)
 sh:=fun p x=>[.int .i64 x.ZV,.slice p.1 x.kG.length p.2]
 len:=fun _ _=>rfl
 one:=fun _ _=>rfl
 F:=fun wm h p x=>Sl Zn wm h p.1 p.2 x.kG
 mono:=fun f x=>x.mono f
 up:=fun f x=>x.up f
def Uv:J6 Yc where
 sz:=3
 pos:=by decide
 K4:=Unit
 dflt:= ()
 sh:=fun _ x=>[.int .i64 x.act,.int .i64 x.a,.int .i64 x.b]
 len:=fun _ _=>rfl
 one:=fun _ _=>rfl
 F:=fun _ _ _ _=>True
 mono:=fun _ x=>x
 up:=fun _ x=>x
def Zy:Ne Zo where
 sz:=2
 pos:=by decide
 K4:=Option Addr×Nat×Nat
 dflt:= (none,0,0)
 sh:=fun p x=>[.int .i64 x.ZV,.slice p.1 p.2.1 p.2.2]
 len:=fun _ _=>rfl
 one:=fun _ _=>rfl
 «YF»:=fun wm p x=>[ow wm Zn p.1 p.2.1 p.2.2 x.kG]
theorem Zez {wm:Nat}:(∀ h:H,Z7 (Zy.YF wm (none,0,0) (default:Zo)) h)∧∀ i,¬ Qs (Zy.YF wm (none,0,0) (default:Zo)) i:=Zqb (e:=Zn)
theorem _root_.Go.YL.Sp.ZaY {wm:Nat} {h h0:H} {T:Nat ->Prop} {G Gr:List (Ast wm)} {a a1:Option Addr} {nn c n1 c1:Nat} {ps:Nat ->Option Addr×Nat×Nat} {xs:List Zo} {k:Int} {x:Zo} (s:Sp wm T h0 G h) (pk:Pk G (Yg wm Zy a nn c ps xs) Gr) (hk:ZO xs k=some x) (hp:ps k.toNat= (a1,n1,c1)):Sp wm T h0 (nsh wm Zy a nn c ps xs k.toNat [.int .i64 x.ZV,.slice a1 n1 c1]::ow wm Zn a1 n1 c1 x.kG::Gr) h:=by
 have:=s.take pk hk;rw [hp] at this;exact this
theorem _root_.Go.YL.Sp.Zba {wm:Nat} {h h0:H} {T:Nat ->Prop} {G Gr:List (Ast wm)} {a a1:Option Addr} {nn c n1 c1:Nat} {ps:Nat ->Option Addr×Nat×Nat} {xs:List Zo} {k:Int} {x0:Zo} {v0:Int} {y:List Ze} (s:Sp wm T h0 G h) (sel:Sel G [nsh wm Zy a nn c ps xs k.toNat [.int .i64 v0,.slice a1 n1 c1],ow wm Zn a1 n1 c1 y] Gr) (hk:ZO xs k=some x0):∃ ps':Nat ->Option Addr×Nat×Nat,ps' k.toNat= (a1,n1,c1)∧Sp wm T h0 (Yg wm Zy a nn c ps' (Xa xs k ⟨v0,y⟩)::Gr) h:=
 ⟨_,upd_same ps k.toNat (a1,n1,c1),Sp.fill (e:=Zy) (a1,n1,c1) ⟨v0,y⟩ s hk sel rfl⟩
theorem _root_.Go.YL.Sp.Za9 {wm:Nat} {h h0:H} {T:Nat ->Prop} {G Gr:List (Ast wm)} {a a1:Option Addr} {nn c n1 c1:Nat} {ps:Nat ->Option Addr×Nat×Nat} {xs:List Zo} {k:Int} {x:Zo} (s:Sp wm T h0 G h) (pk:Pk G (Yg wm Zy a nn c ps xs) Gr) (hk:ZO xs k=some x) (hp:ps k.toNat= (a1,n1,c1)):n1=x.kG.length∧Src Zn wm h a1 c1 x.kG∧Sl Zn h.size h a1 c1 x.kG:=by
 have:= (s.inN pk hk hp).get (A:=ow wm Zn a1 n1 c1 x.kG) .z;exact⟨this.1,this.2.src,this.2.src.sl s.hw⟩
theorem _root_.Go.YL.Sp.Zbi {wm:Nat} {h h0:H} {T:Nat ->Prop} {G Gr:List (Ast wm)} {a:Option Addr} {nn c:Nat} {ps:Nat ->Option Addr×Nat×Nat} {xs:List Zo} {k:Int} {x:Zo} (s:Sp wm T h0 G h) (pk:Pk G (Yg wm Zy a nn c ps xs) Gr) (hk:ZO xs k=some x):∃ b o a1 n1 c1,ps k.toNat= (a1,n1,c1)∧a=some ⟨b,o,none⟩∧At h b (o + k.toNat * 2) [.int .i64 x.ZV,.slice a1 n1 c1]:=by
 obtain⟨b,o,⟨a1,n1,c1⟩,h1,h2,h3⟩:=s.atN pk hk;exact⟨b,o,a1,n1,c1,h1,h2,h3⟩
theorem Ya:NeR Zy Kz:= ⟨rfl,fun{wm h p x} hw hh=>by
 obtain⟨h1,h2⟩:=hh.get (A:=ow wm Zn p.1 p.2.1 p.2.2 x.kG) .z;exact⟨(p.1,p.2.2),by show([.int .i64 x.ZV,.slice p.1 p.2.1 p.2.2]:List Value)= [.int .i64 x.ZV,.slice p.1 x.kG.length p.2.2];rw [h1],h2.src.sl hw⟩⟩
theorem ZLm:XX.P.underlying 3=some (.int .i64):=Kq0
theorem ZRb:XX.P.underlying 4=some .bool:=Kq0
theorem Znw:XX.P.underlying 22=some (.slice 66):=Kq0
theorem ZLn:XX.P.underlying 25=some (.slice 74):=Kq0
theorem ZvZ:XX.P.underlying 28=some (.slice 71):=Kq0
theorem K9:XX.P.underlying 29=some (.slice 35):=Kq0
theorem ZrV:XX.P.underlying 30=some (.slice 69):=Kq0
theorem ZvY:XX.P.underlying 31=some (.slice 99):=Kq0
theorem ZrU:XX.P.underlying 34=some (.slice 64):=Kq0
theorem Ua:XX.P.underlying 35=some (.slice 3):=Kq0
theorem ZLl:XX.P.underlying 60=some (.slice 4):=Kq0
theorem UJ:XX.P.underlying 69=some (.slice 121):=Kq0
theorem Zv0:XX.P.underlying 132=some (.int .u64):=Kq0
theorem Zam:XX.P.underlying 138=some (.map 119 124):=Kq0
theorem ZbM:YW XX.P 3=some false:=Kq0
theorem Zki:YW XX.P 4=some false:=Kq0
theorem ZE3:YW XX.P 22=some false:=Kq0
theorem Ztl:YW XX.P 24=some true:=Kq0
theorem ZE2:YW XX.P 28=some false:=Kq0
theorem Zpi:YW XX.P 29=some false:=Kq0
theorem ZAf:YW XX.P 30=some false:=Kq0
theorem ZE1:YW XX.P 31=some false:=Kq0
theorem ZjB:YW XX.P 33=some true:=Kq0
theorem ZE0:YW XX.P 34=some false:=Kq0
theorem Ztk:YW XX.P 35=some false:=Kq0
theorem Zph:YW XX.P 36=some false:=Kq0
theorem ZP9:YW XX.P 62=some false:=Kq0
theorem Zbu:YW XX.P 64=some true:=Kq0
theorem ZjA:YW XX.P 66=some true:=Kq0
theorem ZAe:YW XX.P 69=some false:=Kq0
theorem ZEZ:YW XX.P 71=some false:=Kq0
theorem ZP8:YW XX.P 72=some false:=Kq0
theorem ZEY:YW XX.P 74=some true:=Kq0
theorem ZEX:YW XX.P 87=some false:=Kq0
theorem ZEW:YW XX.P 99=some true:=Kq0
theorem ZJW:YW XX.P 106=some true:=Kq0
theorem ZJV:YW XX.P 112=some false:=Kq0
theorem ZJU:YW XX.P 119=some false:=Kq0
theorem Znc:YW XX.P 121=some true:=Kq0
theorem Ub:YA XX.P 3=some 1:=Kq0
theorem ZLu:YA XX.P 4=some 1:=Kq0
theorem Zly:YA XX.P 24=some 2:=Kq0
theorem ZFx:YA XX.P 28=some 1:=Kq0
theorem Zwg:YA XX.P 29=some 1:=Kq0
theorem ZFw:YA XX.P 30=some 1:=Kq0
theorem ZFv:YA XX.P 31=some 1:=Kq0
theorem ZbW:YA XX.P 33=some 7:=Kq0
theorem ZFu:YA XX.P 34=some 1:=Kq0
theorem Jf:YA XX.P 35=some 1:=Kq0
theorem ZFt:YA XX.P 36=some 1:=Kq0
theorem ZFs:YA XX.P 62=some 1:=Kq0
theorem Um:YA XX.P 64=some 4:=Kq0
theorem KN:YA XX.P 66=some 2:=Kq0
theorem ZbV:YA XX.P 69=some 1:=Kq0
theorem ZhH:YA XX.P 71=some 1:=Kq0
theorem Zwf:YA XX.P 74=some 3:=Kq0
theorem Zlx:YA XX.P 99=some 2:=Kq0
theorem ZBd:YA XX.P 106=some 3:=Kq0
theorem ZBc:YA XX.P 112=some 1:=Kq0
theorem Jc:YA XX.P 121=some 5:=Kq0
theorem Zmd:ZL XX.P 24 0 0:=ZL.of Kq0
theorem ZCo:ZL XX.P 24 1 1:=ZL.of Kq0
theorem ZCn:ZL XX.P 33 0 0:=ZL.of Kq0
theorem ZsT:ZL XX.P 33 1 1:=ZL.of Kq0
theorem ZCm:ZL XX.P 33 2 2:=ZL.of Kq0
theorem ZCl:ZL XX.P 33 3 3:=ZL.of Kq0
theorem ZCk:ZL XX.P 33 4 4:=ZL.of Kq0
theorem ZsS:ZL XX.P 33 5 5:=ZL.of Kq0
theorem ZCj:ZL XX.P 33 6 6:=ZL.of Kq0
theorem ZCi:ZL XX.P 64 0 0:=ZL.of Kq0
theorem ZCh:ZL XX.P 64 1 1:=ZL.of Kq0
theorem ZCg:ZL XX.P 64 2 2:=ZL.of Kq0
theorem ZCf:ZL XX.P 64 3 3:=ZL.of Kq0
theorem ZCe:ZL XX.P 66 0 0:=ZL.of Kq0
theorem ZCd:ZL XX.P 66 1 1:=ZL.of Kq0
theorem ZCc:ZL XX.P 74 0 0:=ZL.of Kq0
theorem ZCb:ZL XX.P 74 1 1:=ZL.of Kq0
theorem ZCa:ZL XX.P 74 2 2:=ZL.of Kq0
theorem Zmc:ZL XX.P 91 0 0:=ZL.of Kq0
theorem Zmb:ZL XX.P 91 1 7:=ZL.of Kq0
theorem ZB9:ZL XX.P 91 2 9:=ZL.of Kq0
theorem ZB8:ZL XX.P 96 0 0:=ZL.of Kq0
theorem ZB7:ZL XX.P 96 1 2:=ZL.of Kq0
theorem ZB6:ZL XX.P 96 2 9:=ZL.of Kq0
theorem ZsR:ZL XX.P 99 0 0:=ZL.of Kq0
theorem Zma:ZL XX.P 99 1 1:=ZL.of Kq0
theorem Zy9:ZL XX.P 106 0 0:=ZL.of Kq0
theorem Zy8:ZL XX.P 106 1 2:=ZL.of Kq0
theorem Zy7:ZL XX.P 121 0 0:=ZL.of Kq0
theorem Zy6:ZL XX.P 121 1 1:=ZL.of Kq0
theorem Zy5:ZL XX.P 121 2 2:=ZL.of Kq0
theorem Zy4:ZL XX.P 121 3 3:=ZL.of Kq0
theorem Zou:ZL XX.P 121 4 4:=ZL.of Kq0
theorem Zdw:Xm XX.P 3=some (.int .i64 0):=Kq0
theorem ZKL:Xm XX.P 4=some (.bool false):=Kq0
theorem Zvv:Xm XX.P 33=some (.agg #[.slice none 0 0,.slice none 0 0,.slice none 0 0,.slice none 0 0,.slice none 0 0,.slice none 0 0,.int .i64 0]):=Kq0
theorem ZdK:Xm XX.P 35=some (.slice none 0 0):=Kq0
theorem ZFf:Xm XX.P 36=some (.int .i64 0):=Kq0
theorem Zpx:Xm XX.P 64=some (.agg #[.int .i64 0,.int .i64 0,.int .i64 0,.int .i64 0]):=Kq0
theorem ZFe:Xm XX.P 66=some (.agg #[.int .i64 0,.int .i64 0]):=Kq0
theorem ZFd:Xm XX.P 67=some (.agg #[.int .i64 0,.int .i64 0]):=Kq0
theorem Zvu:Xm XX.P 69=some (.slice none 0 0):=Kq0
theorem Zvt:Xm XX.P 71=some (.int .i64 0):=Kq0
theorem Zvs:Xm XX.P 74=some (.agg #[.int .i64 0,.int .i64 0,.int .i64 0]):=Kq0
theorem Zvr:Xm XX.P 91=some (.agg #[.slice none 0 0,.slice none 0 0,.slice none 0 0,.slice none 0 0,.slice none 0 0,.slice none 0 0,.int .i64 0,.int .i64 0,.slice none 0 0,.slice none 0 0]):=Kq0
theorem ZFc:Xm XX.P 96=some (.agg #[.int .i64 0,.slice none 0 0,.slice none 0 0,.slice none 0 0,.slice none 0 0,.slice none 0 0,.slice none 0 0,.slice none 0 0,.int .i64 0,.slice none 0 0]):=Kq0
theorem Zvq:Xm XX.P 99=some (.agg #[.int .i64 0,.slice none 0 0]):=Kq0
theorem ZrQ:Xm XX.P 106=some (.agg #[.int .i64 0,.slice none 0 0,.slice none 0 0]):=Kq0
theorem ZAL:Xm XX.P 112=some (.nilFunc):=Kq0
theorem ZaW:Xm XX.P 121=some (.agg #[.int .i64 0,.int .i64 0,.int .i64 0,.int .i64 0,.slice none 0 0]):=Kq0
theorem ZcJ:Xm XX.P 124=some (.nilFunc):=Kq0
theorem ZES:Zbl XX.P 33 [.slice none 0 0,.slice none 0 0,.slice none 0 0,.slice none 0 0,.slice none 0 0,.slice none 0 0,.int .i64 0] [(0,1),(1,1),(2,1),(3,1),(4,1),(5,1),(6,1)]:= ⟨_,_,Zvv,rfl,Tryz.underlying33,by kernel_rfl⟩
theorem Ztg:Zbl XX.P 64 [.int .i64 0,.int .i64 0,.int .i64 0,.int .i64 0] [(0,1),(1,1),(2,1),(3,1)]:= ⟨_,_,Zpx,rfl,Tryz.underlying64,by kernel_rfl⟩
theorem ZPQ:Zbl XX.P 74 [.int .i64 0,.int .i64 0,.int .i64 0] [(0,1),(1,1),(2,1)]:= ⟨_,_,Zvs,rfl,Tryz.underlying74,by kernel_rfl⟩
theorem ZPP:Zbl XX.P 91 [.slice none 0 0,.slice none 0 0,.slice none 0 0,.slice none 0 0,.slice none 0 0,.slice none 0 0,.int .i64 0,.int .i64 0,.slice none 0 0,.slice none 0 0] [(0,7),(7,2),(9,1)]:= ⟨_,_,Zvr,rfl,Tryz.underlying91,by kernel_rfl⟩
theorem ZJJ:Zbl XX.P 106 [.int .i64 0,.slice none 0 0,.slice none 0 0] [(0,2),(2,1)]:= ⟨_,_,ZrQ,rfl,Tryz.underlying106,by kernel_rfl⟩
theorem Zjr:Zbl XX.P 121 [.int .i64 0,.int .i64 0,.int .i64 0,.int .i64 0,.slice none 0 0] [(0,1),(1,1),(2,1),(3,1),(4,1)]:= ⟨_,_,ZaW,rfl,Tryz.underlying121,by kernel_rfl⟩
theorem Zz7:ZdJ XX.P #[28,28] 1 8:= ⟨71,.int .i64 0,by kernel_rfl⟩
theorem Zjx:ZdJ XX.P #[29,29] 1 24:= ⟨35,.slice none 0 0,by kernel_rfl⟩
theorem Zz6:ZdJ XX.P #[34,34] 4 32:= ⟨64,.agg #[.int .i64 0,.int .i64 0,.int .i64 0,.int .i64 0],by kernel_rfl⟩
theorem ZaQ:ZdJ XX.P #[35,35] 1 8:= ⟨3,.int .i64 0,by kernel_rfl⟩
theorem Ze8:ZdJ XX.P #[69,69] 5 56:= ⟨121,.agg #[.int .i64 0,.int .i64 0,.int .i64 0,.int .i64 0,.slice none 0 0],by kernel_rfl⟩
theorem ZPh (x y:Zd):ZQu XX.P 64 (Zu.sh () x) (Zu.sh () y) (Qy x y):=
 ⟨by kernel_rfl,Zuv (d:=9999) (bs:= [x.kZ==y.kZ,x.kV==y.kV,x.kX==y.kX,x.n==y.n]) Tryz.underlying64 Kq0 ⟨⟨by decide,_,_,Uw Kq0 rfl,Uw Kq0 rfl,eq_int Kq0⟩,⟨by decide,_,_,Uw Kq0 rfl,Uw Kq0 rfl,eq_int Kq0⟩,⟨by decide,_,_,Uw Kq0 rfl,Uw Kq0 rfl,eq_int Kq0⟩,⟨by decide,_,_,Uw Kq0 rfl,Uw Kq0 rfl,eq_int Kq0⟩,trivial⟩⟩
theorem Zas:ZjH XX.P 119 (Value.int .i64):=ZjH.int Kq0
theorem ZPO:Zaw XX.P 3=some 8:=Kq0
theorem ZJH:Zaw XX.P 69=some 24:=Kq0
theorem ZJG:Zaw XX.P 99=some 32:=Kq0
theorem ZN9:(XX.fns.get 14).isSome=true:=Kq0
theorem Zyu:(XX.fns.get 15).isSome=true:=Kq0
theorem ZN8:(XX.fns.get 17).isSome=true:=Kq0
theorem ZN7:(XX.fns.get 23).isSome=true:=Kq0
theorem ZN6:(XX.fns.get 24).isSome=true:=Kq0
theorem ZN5:(XX.fns.get 26).isSome=true:=Kq0
theorem ZN4:(XX.fns.get 27).isSome=true:=Kq0
theorem ZN3:(XX.fns.get 28).isSome=true:=Kq0
theorem ZN2:(XX.fns.get 29).isSome=true:=Kq0
theorem ZN1:(XX.fns.get 30).isSome=true:=Kq0
theorem ZN0:(XX.fns.get 31).isSome=true:=Kq0
theorem Ziy:(XX.fns.get 32).isSome=true:=Kq0
theorem Zom:(XX.fns.get 33).isSome=true:=Kq0
theorem ZEg:(XX.fns.get 34).isSome=true:=Kq0
theorem ZNZ:(XX.fns.get 38).isSome=true:=Kq0
theorem ZNY:(XX.fns.get 41).isSome=true:=Kq0
theorem ZNX:(XX.fns.get 42).isSome=true:=Kq0
theorem ZNW:(XX.fns.get 46).isSome=true:=Kq0
theorem ZNV:(XX.fns.get 47).isSome=true:=Kq0
theorem ZEf:(XX.fns.get 48).isSome=true:=Kq0
theorem ZNU:(XX.fns.get 51).isSome=true:=Kq0
theorem ZNT:(XX.fns.get 52).isSome=true:=Kq0
theorem ZNS:(XX.fns.get 53).isSome=true:=Kq0
theorem ZkN:(XX.fns.get 54).isSome=true:=Kq0
theorem Zol:(XX.fns.get 55).isSome=true:=Kq0
theorem Zyt:(XX.fns.get 57).isSome=true:=Kq0
theorem ZNR:(XX.fns.get 60).isSome=true:=Kq0
theorem ZNQ:(XX.fns.get 68).isSome=true:=Kq0
theorem ZkM:(XX.fns.get 69).isSome=true:=Kq0
theorem ZEe:(XX.fns.get 70).isSome=true:=Kq0
theorem ZEd:(XX.fns.get 71).isSome=true:=Kq0
theorem ZEc:(XX.fns.get 72).isSome=true:=Kq0
theorem Zys:(XX.fns.get 73).isSome=true:=Kq0
theorem ZNP:(XX.fns.get 74).isSome=true:=Kq0
theorem ZNO:(XX.fns.get 75).isSome=true:=Kq0
theorem ZEb:(XX.fns.get 78).isSome=true:=Kq0
theorem ZNN:(XX.fns.get 79).isSome=true:=Kq0
theorem ZNM:(XX.fns.get 80).isSome=true:=Kq0
theorem ZNL:(XX.fns.get 81).isSome=true:=Kq0
theorem ZNK:(XX.fns.get 82).isSome=true:=Kq0
theorem ZNJ:(XX.fns.get 83).isSome=true:=Kq0
theorem Zok:(XX.fns.get 84).isSome=true:=Kq0
theorem Zyr:(XX.fns.get 85).isSome=true:=Kq0
theorem Zoj:(XX.fns.get 89).isSome=true:=Kq0
theorem Ue:(XX.fns.get 94).isSome=true:=Kq0
theorem Zoi:(XX.fns.get 95).isSome=true:=Kq0
theorem ZEa:(XX.fns.get 96).isSome=true:=Kq0
theorem ZD9:(XX.fns.get 97).isSome=true:=Kq0
theorem Zyq:(XX.fns.get 98).isSome=true:=Kq0
theorem Zyp:(XX.fns.get 99).isSome=true:=Kq0
theorem ZIe:(XX.fns.get 100).isSome=true:=Kq0
theorem ZId:(XX.fns.get 101).isSome=true:=Kq0
theorem ZIc:(XX.fns.get 102).isSome=true:=Kq0
theorem ZIb:(XX.fns.get 103).isSome=true:=Kq0
theorem ZqL:(XX.fns.get 104).isSome=true:=Kq0
theorem ZIa:(XX.fns.get 105).isSome=true:=Kq0
theorem ZH9:(XX.fns.get 106).isSome=true:=Kq0
theorem ZH8:(XX.fns.get 107).isSome=true:=Kq0
theorem ZH7:(XX.fns.get 108).isSome=true:=Kq0
theorem Ziz:(XX.fns.get 110).isSome=true:=Kq0
theorem ZyC:(XX.fns.get 111).isSome=true:=Kq0
theorem ZqK:(XX.fns.get 112).isSome=true:=Kq0
theorem ZH6:(XX.fns.get 119).isSome=true:=Kq0
theorem ZqJ:(XX.fns.get 125).isSome=true:=Kq0
theorem ZyB:(XX.fns.get 126).isSome=true:=Kq0
theorem ZH5:(XX.fns.get 127).isSome=true:=Kq0
theorem ZyA:(XX.fns.get 128).isSome=true:=Kq0
theorem ZH4:(XX.fns.get 129).isSome=true:=Kq0
theorem ZH3:(XX.fns.get 130).isSome=true:=Kq0
theorem Zyz:(XX.fns.get 136).isSome=true:=Kq0
theorem Zyy:(XX.fns.get 137).isSome=true:=Kq0
theorem Zyx:(XX.fns.get 138).isSome=true:=Kq0
theorem Zyw:(XX.fns.get 139).isSome=true:=Kq0
theorem ZH2:(XX.fns.get 140).isSome=true:=Kq0
theorem Zyv:(XX.fns.get 142).isSome=true:=Kq0
end
end Go.Proofs.YtcnahmgekicbdaaGreat
end
end
section
noncomputable section
namespace Go.YL
open Go.Lf
class Zbm (P:Program) (t:TypeId):Prop where
 out:YW P t=some false
class Znj (P:Program) (t:TypeId):Prop where
 out:YW P t=some true
class SzF (P:Program) (t:TypeId) (n:outParam Nat):Prop where
 out:YA P t=some n
class JY (P:Program) (t:TypeId) (f:Nat) (o:outParam Nat):Prop where
 out:ZL P t f o
class Zg1 (P:Program) (t:TypeId) (e:outParam TypeId):Prop where
 out:P.underlying t=some (.slice e)
class ZKm (P:Program) (t:TypeId):Prop where
 out:P.underlying t=some .bool
class Zbk (P:Program) (t:TypeId) (v:outParam Value):Prop where
 out:Xm P t=some v
theorem ia {v:Value} (h:JN v=false):JN v=false:=h
theorem WW {fr:Fr} {t:Nat} {c:Bool} {v:Value} (h:fr.at t=cond c v undef) (ha:JN v=false) (hc:c=true):YC fr (.tmp t)=some v:=Q0 h ha hc
section
variable {X:Ctx} {h:H} {fr:Fr} {ty:TypeId} {p':String} {af:Array Edge} {g:Option (Nat×Bool)} {d:Option Tmp} {wm:Nat} {T:Nat ->Prop} {h0:H} {G Gr:List (Ast wm)}
theorem ZPX {x:Operand} {t:TypeId} {f off b o:Nat} [hf:JY X.P t f off] (hx:YC fr x=some (.pointer (some ⟨b,o,none⟩))):Ql X h (YC fr) ⟨d,.fieldAddr t x f,ty,p',af,g⟩=some (.val (.pointer (some ⟨b,o + off,none⟩)),.none):=Wn hf.out hx
theorem ZVS {x:Operand} {t:TypeId} {b oo:Nat} {vs:List Value} {v:Value} [ht:Zbm X.P t] (hx:YC fr x=some (.pointer (some ⟨b,oo,none⟩))) (hS:Sp wm T h0 G h) (pp:Pk G (bx wm b vs) Gr) (hv:vs[oo]? =some v):
 Ql X h (YC fr) ⟨d,.load t x,ty,p',af,g⟩=some (.val v,.none):=Qd ht.out hx (hS.U6 pp) (Nat.zero_add _).symm hv
theorem ZPV {x:Operand} {t:TypeId} {b oo sz:Nat} {vs ws:List Value} [ht:Znj X.P t] [hs:SzF X.P t sz] (hx:YC fr x=some (.pointer (some ⟨b,oo,none⟩))) (hS:Sp wm T h0 G h) (pp:Pk G (bx wm b vs) Gr) (hj:Nat.ble (oo + sz) vs.length=true) (hv:(vs.drop oo).take sz=ws):
 Ql X h (YC fr) ⟨d,.load t x,ty,p',af,g⟩=some (.val (.agg ws.toArray),.none):=Qh ht.out hs.out hx (hS.U6 pp) (Nat.zero_add _).symm hj hv
theorem ZPY {dd:Tmp} {x:Operand} {t:TypeId} {v:Value} {vs:List Value} (hx:YC fr x=some v) (hS:Sp wm T h0 G h) (hv:v.cells.toList=vs):
 HN X wm ⟨some dd,.box t x,ty,p',af,g⟩ fr h (fun v h'=>∃ b,h.size=b∧v= .pointer (some ⟨b,0,none⟩)∧Sp wm T h0 (bx wm b vs::G) h'):=ZLC hS hx hv
theorem ZPZ {dd:Tmp} {t:TypeId} {v:Value} {vs:List Value} [hz:Zbk X.P t v] (hS:Sp wm T h0 G h) (hv:v.cells.toList=vs):
 HN X wm ⟨some dd,.alloc t,ty,p',af,g⟩ fr h (fun v h'=>∃ b,h.size=b∧v= .pointer (some ⟨b,0,none⟩)∧Sp wm T h0 (bx wm b vs::G) h'):=ZDJ hS hz.out hv
theorem ZVR {x y:Operand} {t:TypeId} {b o sz:Nat} {cs cs' vs:List Value} {v:Value} [hs:SzF X.P t sz] (hx:YC fr x=some (.pointer (some ⟨b,o,none⟩))) (hS:Sp wm T h0 G h) (pk:Pk G (bx wm b cs) Gr) (hy:YC fr y=some v)
 (hvs:v.cells.toList=vs) (hn:Nat.beq vs.length sz=true) (hl:Nat.ble (o + sz) cs.length=true) (hc:vs.all Value.oneCell'=true) (hv:splice cs o vs=cs'):
 HU X wm ⟨none,.store t x y,ty,p',af,g⟩ fr h (fun i=>i=b) (fun h'=>Sp wm T h0 (bx wm b cs'::Gr) h'):=ZBg hS pk hs.out hx hy hvs hn hl hc hv
theorem ZPW {α:Type} {xs:List α} {v:α} {x y:Operand} {t e:TypeId} {sz b o nn c dd:Nat} {a:Option Addr} {k:Int} [hu:Zg1 X.P t e] [hs:SzF X.P e sz] (hx:YC fr x=some (.slice a nn c)) (hy:YC fr y=some (.int .i64 k)) (hn:nn=xs.length) (ha:a=some ⟨b,o,none⟩) (hk:ZO xs k=some v):
 Ql X h (YC fr) ⟨some dd,.indexAddr t x y,ty,p',af,g⟩=some (.val (.pointer (some ⟨b,o + k.toNat * sz,none⟩)),.none):=Qi hu.out hs.out hx hy hn ha hk
theorem ZPU {x:Operand} {t:TypeId} {b o oo j:Nat} {vs:List Value} {v:Value} [ht:Zbm X.P t] (hx:YC fr x=some (.pointer (some ⟨b,oo,none⟩))) (ha:At h b o vs) (ho:oo=o + j) (hv:vs[j]? =some v):
 Ql X h (YC fr) ⟨d,.load t x,ty,p',af,g⟩=some (.val v,.none):=Qd ht.out hx ha ho hv
theorem ZPT {x:Operand} {t e':TypeId} {a:Option Addr} {mm cc dd:Nat} [hu:Zg1 X.P t e'] (hx:YC fr x=some (.slice a mm cc)):
 Ql X h (YC fr) ⟨some dd,.call {callee:= .builtin .len,args:=#[x],argTypes:=#[t]},ty,p',af,g⟩=some (.val (.int .i64 (mm:Int)),.none):=Zc9 hu.out hx rfl
end
section
variable {X:Ctx} {n wm:Nat} {rd:Option Nat} {ops:Array Oper} {l:List Oper} {fr:Fr} {ds:List Deferred} {h:H} {ty:TypeId} {p:String} {af:Array Edge} {g:Option (Nat×Bool)} {sf:ST} {m:Nat}
theorem WX.w2 {Q:Fr ->H ->Prop} {d:Nat} {op:Op} {v:Value} (hg:Yx ops ⟨some d,op,ty,p,af,g⟩ fr) (hd:Nat.blt d n=true) (hM:okM ops sf m ⟨some d,op,ty,p,af,g⟩=true) (ha:Ql X h (YC fr) ⟨some d,op,ty,p,af,g⟩=some (.val v,.none)) (k:WX X n wm rd ops sf (m + 1) h l (Tr.set fr d v) Q):
 WX X n wm rd ops sf m h (⟨some d,op,ty,p,af,g⟩::l) fr Q:=WX.w hg hd ha k hM
theorem WX.gv2 {Q:Fr ->H ->Prop} {d:Nat} {op:Op} {c:Bool} {v:Value} (hg:Zh ops ⟨some d,op,ty,p,af,g⟩ fr c) (hd:Nat.blt d n=true) (hM:okM ops sf m ⟨some d,op,ty,p,af,g⟩=true) (ha:c=true ->Ql X h (YC fr) ⟨some d,op,ty,p,af,g⟩=some (.val v,.none)) (k:WX X n wm rd ops sf (m + 1) h l (Tr.set fr d (cond c v undef)) Q):
 WX X n wm rd ops sf m h (⟨some d,op,ty,p,af,g⟩::l) fr Q:=WX.gv hg hd ha k hM
end
structure Kp (q:Prop):Prop where
 out:q
section
variable {X:Ctx} {n wm:Nat} {rd:Option Nat} {Q:XX ->Fs ->Prop}
theorem E0 {p:Prop}(h:p:=by(focus (repeat (first | with_reducible exact fh | ((with_reducible apply ZJ);exact rfl) | ((with_reducible apply YQ);exact rfl) | ((with_reducible apply Yb);exact rfl) | ((with_reducible apply Zi);exact rfl) | with_reducible assumption));first|done|fail)):p:=h
theorem cn {c:Operand} {a b:Code} {t:Bool} {fr:Fr} {ds:List Deferred} {h:H} {α:Type} {x y r:α} (hL:(bif t then x else y)=r) (h1:t=true ->x=r ->WC X n wm rd a ⟨fr,ds,h,none⟩ Q) (h2:t=false ->y=r ->WC X n wm rd b ⟨fr,ds,h,none⟩ Q) (hc:YC fr c=some (.bool t):=by(first | exact K8 rfl | (apply Z4;exact E0;(first | exact ia rfl | assumption)) | (apply WW;exact E0;(first | exact ia rfl | assumption);assumption) | fail)):WC X n wm rd (.cond c a b) ⟨fr,ds,h,none⟩ Q:=
 WC.ZPB hc (fun e=>h1 e (QW e hL)) (fun e=>h2 e (QX e hL))
theorem rt {fn:Func} {fr:Fr} {h h0:H} {T:Nat ->Prop} {G G':List (Ast wm)} {wr:Option Nat} {t:Tmp} {β:Type} {x r:β} {g:β ->Value} (hL:some x=some r) (hT:T=Qs G) (hS:Sp wm T h0 G' h) (hr:fn.results.toList= [.tmp t]:=by exact rfl) (hv:YC fr (.tmp t)=some (g x):=by(first | exact K8 rfl | (apply Z4;exact E0;(first | exact ia rfl | assumption)) | (apply WW;exact E0;(first | exact ia rfl | assumption);assumption) | fail)):
 Z8 X fn (fun e h'=>∃ v,e= .ret v∧CP (fun v Gb=>v=g r∧Gb= []) G h0 v h') .ret ⟨fr,[],h,wr⟩:=by
 cases hL;exact Z8.J4 hr (ZC hv Zr) ⟨_,⟨rfl,rfl⟩,hT ▸ hS.only .n⟩
theorem bg {f:FuncId} {fn:Func} {c:Code} {args:List Value} {n:Nat} {K:Value ->List (Ast wm) ->Prop} {G:List (Ast wm)} {h:H} {fr:Fr} (hnt:fn.ntmps=n) (ZP:wm <=h.size) (hO:Z7 G h)
 (k:∀ T,T=Qs (wm:=wm) G ->Sp wm T h G h ->WC X n wm none c ⟨fr,[],h,none⟩ (Z8 X fn (fun e h'=>∃ v,e= .ret v∧CP K G h v h'))) (hf:X.fns.get f=some fn:=by kernel_rfl) (hb:fn.body=some c:=by exact rfl) (hn:args.length <=n:=by simp)
 (hfr:QH args 0 .nil=fr:=by(simp only [ZB,ZK,Nat.reduceAdd];exact rfl)):WR X f args.toArray wm h (CP K G h):=by
 subst hfr;exact WF.begin hf hb hnt hn (k _ rfl (Sp.start ZP hO))
end
theorem lk {p:Prop} (h:p:=by(first | exact K8 rfl | (apply Z4;exact E0;(first | exact ia rfl | assumption)) | (apply WW;exact E0;(first | exact ia rfl | assumption);assumption) | fail)):p:=h
theorem lks {p:Prop} (h:p:=by
 repeat (first | exact Zj | (apply Zb;(focus (first | exact K8 rfl | (apply Z4;exact E0;(first | exact ia rfl | assumption)) | (apply WW;exact E0;(first | exact ia rfl | assumption);assumption) | fail);done)))
 done):p:=h
theorem XZ {p:Prop} (h:p:=by
 repeat (first | with_reducible exact fh | ((with_reducible apply ZJ);exact rfl) | ((with_reducible apply YQ);exact rfl) | ((with_reducible apply Yb);exact rfl) | ((with_reducible apply Zi);exact rfl) | with_reducible assumption | refine⟨?_,?_⟩)
 done):p:=h
theorem r1 {p q:Prop} (k:q) (h:Kp q ->p:=by
 intro k
 first
 | refine WO.nil ?_
 | refine Zg2.YX ?_
 | refine WC.seq ?_
 | refine WC.region ?_
 | ((first | apply WO.w gN rfl | (apply WO.gv;(focus (first | (apply Zh.yes rfl rfl rfl;exact E0) | (apply Zh.no rfl rfl rfl;exact E0) | (apply Zh.ZAO rfl rfl rfl;exact E0) | (apply Zh.no2 rfl rfl rfl;exact E0) | fail);done);rfl;intro hg) | (apply WX.w2 gN;rfl;rfl) | (apply WX.gv2;(focus (first | (apply Zh.yes rfl rfl rfl;exact E0) | (apply Zh.no rfl rfl rfl;exact E0) | (apply Zh.ZAO rfl rfl rfl;exact E0) | (apply Zh.no2 rfl rfl rfl;exact E0) | fail);done);rfl;rfl;intro hg));(focus (first
   | ((with_reducible apply Kq);(first | exact K8 rfl | (apply Z4;exact E0;(first | exact ia rfl | assumption)) | (apply WW;exact E0;(first | exact ia rfl | assumption);assumption) | fail))
   | ((with_reducible apply ZVS);(focus (first | exact K8 rfl | (apply Z4;exact E0;(first | exact ia rfl | assumption)) | (apply WW;exact E0;(first | exact ia rfl | assumption);assumption) | fail);done);assumption;(focus (first | exact k0 | exact k1 | exact k2 | exact k3 | exact k4 | exact k5 | exact k6 | exact k7 | (repeat (first | exact k7 | apply Pk.s)));done);rfl)
   | ((with_reducible apply ZPX);(first | exact K8 rfl | (apply Z4;exact E0;(first | exact ia rfl | assumption)) | (apply WW;exact E0;(first | exact ia rfl | assumption);assumption) | fail))
   | ((with_reducible apply UD);(first | exact K8 rfl | (apply Z4;exact E0;(first | exact ia rfl | assumption)) | (apply WW;exact E0;(first | exact ia rfl | assumption);assumption) | fail))
   | ((with_reducible apply JS);(focus (first | exact K8 rfl | (apply Z4;exact E0;(first | exact ia rfl | assumption)) | (apply WW;exact E0;(first | exact ia rfl | assumption);assumption) | fail);done);(focus (first | exact K8 rfl | (apply Z4;exact E0;(first | exact ia rfl | assumption)) | (apply WW;exact E0;(first | exact ia rfl | assumption);assumption) | fail);done);(first | with_reducible exact Zgo | with_reducible exact ZAl | with_reducible exact Zpl | with_reducible exact ZAi | with_reducible exact ZuV | with_reducible exact ZjF | with_reducible exact ZAk | with_reducible exact ZAj | with_reducible exact Zgn | with_reducible exact Zu0 ZKm.out | with_reducible exact ZuZ ZKm.out))
   | ((with_reducible apply ZPV);(focus (first | exact K8 rfl | (apply Z4;exact E0;(first | exact ia rfl | assumption)) | (apply WW;exact E0;(first | exact ia rfl | assumption);assumption) | fail);done);assumption;(focus (first | exact k0 | exact k1 | exact k2 | exact k3 | exact k4 | exact k5 | exact k6 | exact k7 | (repeat (first | exact k7 | apply Pk.s)));done);rfl;(focus simp only [Nat.zero_add,Nat.reduceAdd,List.drop_succ_cons,List.drop_zero,List.take_succ_cons,List.take_zero,List.take_nil];rfl))
   | ((with_reducible apply ZPT);(first | exact K8 rfl | (apply Z4;exact E0;(first | exact ia rfl | assumption)) | (apply WW;exact E0;(first | exact ia rfl | assumption);assumption) | fail))
   | ((with_reducible apply ZPW);(focus (first | exact K8 rfl | (apply Z4;exact E0;(first | exact ia rfl | assumption)) | (apply WW;exact E0;(first | exact ia rfl | assumption);assumption) | fail);done);(focus (first | exact K8 rfl | (apply Z4;exact E0;(first | exact ia rfl | assumption)) | (apply WW;exact E0;(first | exact ia rfl | assumption);assumption) | fail);done);(focus (exact rfl));assumption;assumption)
   | ((with_reducible apply ZPU);(focus (first | exact K8 rfl | (apply Z4;exact E0;(first | exact ia rfl | assumption)) | (apply WW;exact E0;(first | exact ia rfl | assumption);assumption) | fail);done);(focus (first | assumption | (apply At.fz;(focus (apply Sp.fz;assumption));assumption;assumption));done);(focus (first | exact(Nat.add_zero _).symm | exact rfl);done);rfl)
   | ((with_reducible apply Zro);(focus (first | exact K8 rfl | (apply Z4;exact E0;(first | exact ia rfl | assumption)) | (apply WW;exact E0;(first | exact ia rfl | assumption);assumption) | fail);done);rfl)
   | ((with_reducible apply Zgg);(first | exact K8 rfl | (apply Z4;exact E0;(first | exact ia rfl | assumption)) | (apply WW;exact E0;(first | exact ia rfl | assumption);assumption) | fail))
   | ((with_reducible apply ZcA);(first | exact K8 rfl | (apply Z4;exact E0;(first | exact ia rfl | assumption)) | (apply WW;exact E0;(first | exact ia rfl | assumption);assumption) | fail))
   | ((with_reducible apply Zm5);(focus (first | exact K8 rfl | (apply Z4;exact E0;(first | exact ia rfl | assumption)) | (apply WW;exact E0;(first | exact ia rfl | assumption);assumption) | fail);done);(focus (apply ZPf;exact E0);done);(first | exact K8 rfl | (apply Z4;exact E0;(first | exact ia rfl | assumption)) | (apply WW;exact E0;(first | exact ia rfl | assumption);assumption) | fail))
   | ((with_reducible apply ZzX);(focus (first | exact K8 rfl | (apply Z4;exact E0;(first | exact ia rfl | assumption)) | (apply WW;exact E0;(first | exact ia rfl | assumption);assumption) | fail);done);(focus (first | exact K8 rfl | (apply Z4;exact E0;(first | exact ia rfl | assumption)) | (apply WW;exact E0;(first | exact ia rfl | assumption);assumption) | fail);done);(apply ZPf;exact E0))
   | fail)))
 | (apply WO.hu gN;(focus (first | (((with_reducible apply ZVR));(focus (first | exact K8 rfl | (apply Z4;exact E0;(first | exact ia rfl | assumption)) | (apply WW;exact E0;(first | exact ia rfl | assumption);assumption) | fail);done);assumption;(focus (first | exact k0 | exact k1 | exact k2 | exact k3 | exact k4 | exact k5 | exact k6 | exact k7 | (repeat (first | exact k7 | apply Pk.s)));done);(focus (first | exact K8 rfl | (apply Z4;exact E0;(first | exact ia rfl | assumption)) | (apply WW;exact E0;(first | exact ia rfl | assumption);assumption) | fail);done);(focus (first | (simp only [Zgd,Zd6,Zcv,Zgb,Zgc,Zgf,Zbe,cells_func,Zav,KW,Zcw];exact rfl) | exact rfl));exact rfl;exact rfl;exact rfl;(focus simp only [splice,List.take_succ_cons,List.take_zero,List.drop_succ_cons,List.drop_zero,List.cons_append,List.nil_append,List.append_nil,List.length_cons,List.length_nil,Nat.reduceAdd,Nat.zero_add,List.take_nil,List.drop_nil];exact rfl)) | fail)))
 | (apply WO.hn gN rfl;(focus (first | (((with_reducible apply ZPY));(focus (first | exact K8 rfl | (apply Z4;exact E0;(first | exact ia rfl | assumption)) | (apply WW;exact E0;(first | exact ia rfl | assumption);assumption) | fail);done);assumption;(focus (first | (simp only [Zgd,Zd6,Zcv,Zgb,Zgc,Zgf,Zbe,cells_func,Zav,KW,Zcw];exact rfl) | exact rfl))) | (((with_reducible apply ZPZ));assumption;(focus (first | (simp only [Zgd,Zd6,Zcv,Zgb,Zgc,Zgf,Zbe,cells_func,Zav,KW,Zcw];exact rfl) | exact rfl))) | fail)))
 | refine WC.skip ?_
 | refine WC.ret ?_
 | refine WC.block ?_
 | refine WC.exit ?_
 | refine Zg2.ret ?_
 | refine Zg2.exit ?_
 | refine Zff.ret ?_
 | refine Zff.YX ?_
 | refine Zff.here ?_
 | refine YE.exit ?_
 | refine YE.ret ?_
 | refine WX.nil ?_
 | fail
 exact k.out):p:=h ⟨k⟩
theorem sl {p:Prop} (h:p:=by
 repeat (first | exact Sel.n | (apply Sel.c;(focus (first | exact k0 | exact k1 | exact k2 | exact k3 | exact k4 | exact k5 | exact k6 | exact k7 | (repeat (first | exact k7 | apply Pk.s))))))
 done):p:=h
theorem r2 {p q:Prop} (k:q) (h:Kp q ->p:=by
 intro k
 iterate 2 (refine r1 ?_)
 exact k.out):p:=h ⟨k⟩
theorem r3 {p q:Prop} (k:q) (h:Kp q ->p:=by
 intro k
 iterate 3 (refine r1 ?_)
 exact k.out):p:=h ⟨k⟩
theorem r4 {p q:Prop} (k:q) (h:Kp q ->p:=by
 intro k
 iterate 4 (refine r1 ?_)
 exact k.out):p:=h ⟨k⟩
theorem r5 {p q:Prop} (k:q) (h:Kp q ->p:=by
 intro k
 iterate 5 (refine r1 ?_)
 exact k.out):p:=h ⟨k⟩
theorem r6 {p q:Prop} (k:q) (h:Kp q ->p:=by
 intro k
 iterate 6 (refine r1 ?_)
 exact k.out):p:=h ⟨k⟩
theorem r7 {p q:Prop} (k:q) (h:Kp q ->p:=by
 intro k
 iterate 7 (refine r1 ?_)
 exact k.out):p:=h ⟨k⟩
theorem r8 {p q:Prop} (k:q) (h:Kp q ->p:=by
 intro k
 iterate 8 (refine r1 ?_)
 exact k.out):p:=h ⟨k⟩
theorem r9 {p q:Prop} (k:q) (h:Kp q ->p:=by
 intro k
 iterate 9 (refine r1 ?_)
 exact k.out):p:=h ⟨k⟩
theorem r10 {p q:Prop} (k:q) (h:Kp q ->p:=by
 intro k
 iterate 10 (refine r1 ?_)
 exact k.out):p:=h ⟨k⟩
theorem r11 {p q:Prop} (k:q) (h:Kp q ->p:=by
 intro k
 iterate 11 (refine r1 ?_)
 exact k.out):p:=h ⟨k⟩
theorem r12 {p q:Prop} (k:q) (h:Kp q ->p:=by
 intro k
 iterate 12 (refine r1 ?_)
 exact k.out):p:=h ⟨k⟩
theorem r13 {p q:Prop} (k:q) (h:Kp q ->p:=by
 intro k
 iterate 13 (refine r1 ?_)
 exact k.out):p:=h ⟨k⟩
theorem r14 {p q:Prop} (k:q) (h:Kp q ->p:=by
 intro k
 iterate 14 (refine r1 ?_)
 exact k.out):p:=h ⟨k⟩
theorem r15 {p q:Prop} (k:q) (h:Kp q ->p:=by
 intro k
 iterate 15 (refine r1 ?_)
 exact k.out):p:=h ⟨k⟩
theorem r16 {p q:Prop} (k:q) (h:Kp q ->p:=by
 intro k
 iterate 16 (refine r1 ?_)
 exact k.out):p:=h ⟨k⟩
end Go.YL
end
end
section
set_option maxRecDepth 20000
noncomputable section
namespace Go.Proofs.YtcnahmgekicbdaaGreat
open Go.YL Go.Lf
section
abbrev cE (x:Zd):List Value:= [.int .i64 x.kZ,.int .i64 x.kV,.int .i64 x.kX,.int .i64 x.n]
abbrev cS (x:Yc):List Value:= [.int .i64 x.act,.int .i64 x.a,.int .i64 x.b]
abbrev cP (x:ZU):List Value:= [.int .i64 x.at_,.int .i64 x.J3]
abbrev cL (x:Ze) (a:Option Addr) (c:Nat):List Value:= [.int .i64 x.kW,.int .i64 x.kV,.int .i64 x.kX,.int .i64 x.n,.slice a x.qX.length c]
abbrev cW (x:Zm) (a0:Option Addr) (c0:Nat) (a1:Option Addr) (c1:Nat) (a2:Option Addr) (c2:Nat) (a3:Option Addr) (c3:Nat) (a4:Option Addr) (c4:Nat) (a5:Option Addr) (c5:Nat):List Value:= [.slice a0 x.qV.length c0,.slice a1 x.qX.length c1,.slice a2 x.qZ.length c2,.slice a3 x.Zp.length c3,.slice a4 x.Zw.length c4,.slice a5 x.kQ.length c5,.int .i64 x.kK]
abbrev cV (a0:Option Addr) (n0 c0:Nat) (a1:Option Addr) (n1 c1:Nat) (a2:Option Addr) (n2 c2:Nat) (a3:Option Addr) (n3 c3:Nat) (a4:Option Addr) (n4 c4:Nat) (a5:Option Addr) (n5 c5:Nat) (s:Int):List Value:= [.slice a0 n0 c0,.slice a1 n1 c1,.slice a2 n2 c2,.slice a3 n3 c3,.slice a4 n4 c4,.slice a5 n5 c5,.int .i64 s]
abbrev cH (a0:Option Addr) (n0 c0:Nat) (a1:Option Addr) (n1 c1:Nat) (a2:Option Addr) (n2 c2:Nat) (a3:Option Addr) (n3 c3:Nat) (a4:Option Addr) (n4 c4:Nat) (a5:Option Addr) (n5 c5:Nat) (s m:Int) (a6:Option Addr) (n6 c6:Nat) (a7:Option Addr) (n7 c7:Nat):List Value:= [.slice a0 n0 c0,.slice a1 n1 c1,.slice a2 n2 c2,.slice a3 n3 c3,.slice a4 n4 c4,.slice a5 n5 c5,.int .i64 s,.int .i64 m,.slice a6 n6 c6,.slice a7 n7 c7]
abbrev gH (wm b:Nat) (x:ZE) (a0:Option Addr) (n0 c0:Nat) (a1:Option Addr) (n1 c1:Nat) (q1:Nat ->Option Addr×Nat×Nat) (a2:Option Addr) (n2 c2:Nat) (q2:Nat ->Option Addr×Nat×Nat) (a3:Option Addr) (n3 c3:Nat) (q3:Nat ->Option Addr×Nat×Nat) (a4:Option Addr) (n4 c4:Nat) (q4:Nat ->Option Addr×Nat×Nat) (a5:Option Addr) (n5 c5:Nat) (q5:Nat ->Option Addr×Nat×Nat) (a6:Option Addr) (c6:Nat) (a7:Option Addr) (n7 c7:Nat):List (Ast wm):= [bx wm b [.slice a0 n0 c0,.slice a1 n1 c1,.slice a2 n2 c2,.slice a3 n3 c3,.slice a4 n4 c4,.slice a5 n5 c5,.int .i64 x.Za.kK,.int .i64 x.qK.qG,.slice a6 x.qK.Zf.length c6,.slice a7 n7 c7],ow wm (Zq .i64) a0 n0 c0 x.Za.qV,Yg wm (Zz (Zq .i64)) a1 n1 c1 q1 x.Za.qX,Yg wm (Zz (Zq .i64)) a2 n2 c2 q2 x.Za.qZ,Yg wm (Zz (Zq .i64)) a3 n3 c3 q3 x.Za.Zp,Yg wm (Zz Zn) a4 n4 c4 q4 x.Za.Zw,Yg wm Zy a5 n5 c5 q5 x.Za.kQ,ow wm Zu a7 n7 c7 x.kU]
abbrev gHz (wm b:Nat) (x:ZE) (a0:Option Addr) (n0 c0:Nat) (a1:Option Addr) (n1 c1:Nat) (q1:Nat ->Option Addr×Nat×Nat) (a2:Option Addr) (n2 c2:Nat) (q2:Nat ->Option Addr×Nat×Nat) (a3:Option Addr) (n3 c3:Nat) (q3:Nat ->Option Addr×Nat×Nat) (a4:Option Addr) (n4 c4:Nat) (q4:Nat ->Option Addr×Nat×Nat) (a5:Option Addr) (n5 c5:Nat) (q5:Nat ->Option Addr×Nat×Nat) (a6:Option Addr) (c6:Nat) (a7:Option Addr) (n7 c7:Nat):List (Ast wm):= [bx wm b [.slice a0 n0 c0,.slice a1 n1 c1,.slice a2 n2 c2,.slice a3 n3 c3,.slice a4 n4 c4,.slice a5 n5 c5,.int .i64 x.Za.kK,.int .i64 x.qK.qG,.slice a6 x.qK.Zf.length c6,.slice a7 n7 c7],ow wm (Zq .i64) a0 n0 c0 x.Za.qV,Yg wm (Zz (Zq .i64)) a1 n1 c1 q1 x.Za.qX,Yg wm (Zz (Zq .i64)) a2 n2 c2 q2 x.Za.qZ,Yg wm (Zz (Zq .i64)) a3 n3 c3 q3 x.Za.Zp,Yg wm (Zz Zn) a4 n4 c4 q4 x.Za.Zw,Yg wm Zy a5 n5 c5 q5 x.Za.kQ,QI wm (X0 Zg) (a6,c6) x.qK.Zf,ow wm Zu a7 n7 c7 x.kU]
instance:Zbm XX.P 3:= ⟨ZbM⟩
instance:Zbm XX.P 4:= ⟨Zki⟩
instance:Zbm XX.P 22:= ⟨ZE3⟩
instance:Znj XX.P 24:= ⟨Ztl⟩
instance:Zbm XX.P 28:= ⟨ZE2⟩
instance:Zbm XX.P 29:= ⟨Zpi⟩
instance:Zbm XX.P 30:= ⟨ZAf⟩
instance:Zbm XX.P 31:= ⟨ZE1⟩
instance:Znj XX.P 33:= ⟨ZjB⟩
instance:Zbm XX.P 34:= ⟨ZE0⟩
instance:Zbm XX.P 35:= ⟨Ztk⟩
instance:Zbm XX.P 36:= ⟨Zph⟩
instance:Zbm XX.P 62:= ⟨ZP9⟩
instance:Znj XX.P 64:= ⟨Zbu⟩
instance:Znj XX.P 66:= ⟨ZjA⟩
instance:Zbm XX.P 69:= ⟨ZAe⟩
instance:Zbm XX.P 71:= ⟨ZEZ⟩
instance:Zbm XX.P 72:= ⟨ZP8⟩
instance:Znj XX.P 74:= ⟨ZEY⟩
instance:Zbm XX.P 87:= ⟨ZEX⟩
instance:Znj XX.P 99:= ⟨ZEW⟩
instance:Znj XX.P 106:= ⟨ZJW⟩
instance:Zbm XX.P 112:= ⟨ZJV⟩
instance:Zbm XX.P 119:= ⟨ZJU⟩
instance:Znj XX.P 121:= ⟨Znc⟩
instance:SzF XX.P 3 1:= ⟨Ub⟩
instance:SzF XX.P 4 1:= ⟨ZLu⟩
instance:SzF XX.P 24 2:= ⟨Zly⟩
instance:SzF XX.P 28 1:= ⟨ZFx⟩
instance:SzF XX.P 29 1:= ⟨Zwg⟩
instance:SzF XX.P 30 1:= ⟨ZFw⟩
instance:SzF XX.P 31 1:= ⟨ZFv⟩
instance:SzF XX.P 33 7:= ⟨ZbW⟩
instance:SzF XX.P 34 1:= ⟨ZFu⟩
instance:SzF XX.P 35 1:= ⟨Jf⟩
instance:SzF XX.P 36 1:= ⟨ZFt⟩
instance:SzF XX.P 62 1:= ⟨ZFs⟩
instance:SzF XX.P 64 4:= ⟨Um⟩
instance:SzF XX.P 66 2:= ⟨KN⟩
instance:SzF XX.P 69 1:= ⟨ZbV⟩
instance:SzF XX.P 71 1:= ⟨ZhH⟩
instance:SzF XX.P 74 3:= ⟨Zwf⟩
instance:SzF XX.P 99 2:= ⟨Zlx⟩
instance:SzF XX.P 106 3:= ⟨ZBd⟩
instance:SzF XX.P 112 1:= ⟨ZBc⟩
instance:SzF XX.P 121 5:= ⟨Jc⟩
instance:JY XX.P 24 0 0:= ⟨Zmd⟩
instance:JY XX.P 24 1 1:= ⟨ZCo⟩
instance:JY XX.P 33 0 0:= ⟨ZCn⟩
instance:JY XX.P 33 1 1:= ⟨ZsT⟩
instance:JY XX.P 33 2 2:= ⟨ZCm⟩
instance:JY XX.P 33 3 3:= ⟨ZCl⟩
instance:JY XX.P 33 4 4:= ⟨ZCk⟩
instance:JY XX.P 33 5 5:= ⟨ZsS⟩
instance:JY XX.P 33 6 6:= ⟨ZCj⟩
instance:JY XX.P 64 0 0:= ⟨ZCi⟩
instance:JY XX.P 64 1 1:= ⟨ZCh⟩
instance:JY XX.P 64 2 2:= ⟨ZCg⟩
instance:JY XX.P 64 3 3:= ⟨ZCf⟩
instance:JY XX.P 66 0 0:= ⟨ZCe⟩
instance:JY XX.P 66 1 1:= ⟨ZCd⟩
instance:JY XX.P 74 0 0:= ⟨ZCc⟩
instance:JY XX.P 74 1 1:= ⟨ZCb⟩
instance:JY XX.P 74 2 2:= ⟨ZCa⟩
instance:JY XX.P 91 0 0:= ⟨Zmc⟩
instance:JY XX.P 91 1 7:= ⟨Zmb⟩
instance:JY XX.P 91 2 9:= ⟨ZB9⟩
instance:JY XX.P 96 0 0:= ⟨ZB8⟩
instance:JY XX.P 96 1 2:= ⟨ZB7⟩
instance:JY XX.P 96 2 9:= ⟨ZB6⟩
instance:JY XX.P 99 0 0:= ⟨ZsR⟩
instance:JY XX.P 99 1 1:= ⟨Zma⟩
instance:JY XX.P 106 0 0:= ⟨Zy9⟩
instance:JY XX.P 106 1 2:= ⟨Zy8⟩
instance:JY XX.P 121 0 0:= ⟨Zy7⟩
instance:JY XX.P 121 1 1:= ⟨Zy6⟩
instance:JY XX.P 121 2 2:= ⟨Zy5⟩
instance:JY XX.P 121 3 3:= ⟨Zy4⟩
instance:JY XX.P 121 4 4:= ⟨Zou⟩
instance:Zg1 XX.P 22 66:= ⟨Znw⟩
instance:Zg1 XX.P 25 74:= ⟨ZLn⟩
instance:Zg1 XX.P 28 71:= ⟨ZvZ⟩
instance:Zg1 XX.P 29 35:= ⟨K9⟩
instance:Zg1 XX.P 30 69:= ⟨ZrV⟩
instance:Zg1 XX.P 31 99:= ⟨ZvY⟩
instance:Zg1 XX.P 34 64:= ⟨ZrU⟩
instance:Zg1 XX.P 35 3:= ⟨Ua⟩
instance:Zg1 XX.P 60 4:= ⟨ZLl⟩
instance:Zg1 XX.P 69 121:= ⟨UJ⟩
instance:ZKm XX.P 4:= ⟨ZRb⟩
instance:Zbk XX.P 3 (.int .i64 0):= ⟨Zdw⟩
instance:Zbk XX.P 4 (.bool false):= ⟨ZKL⟩
instance:Zbk XX.P 33 (.agg #[.slice none 0 0,.slice none 0 0,.slice none 0 0,.slice none 0 0,.slice none 0 0,.slice none 0 0,.int .i64 0]):= ⟨Zvv⟩
instance:Zbk XX.P 35 (.slice none 0 0):= ⟨ZdK⟩
instance:Zbk XX.P 36 (.int .i64 0):= ⟨ZFf⟩
instance:Zbk XX.P 64 (.agg #[.int .i64 0,.int .i64 0,.int .i64 0,.int .i64 0]):= ⟨Zpx⟩
instance:Zbk XX.P 66 (.agg #[.int .i64 0,.int .i64 0]):= ⟨ZFe⟩
instance:Zbk XX.P 67 (.agg #[.int .i64 0,.int .i64 0]):= ⟨ZFd⟩
instance:Zbk XX.P 69 (.slice none 0 0):= ⟨Zvu⟩
instance:Zbk XX.P 71 (.int .i64 0):= ⟨Zvt⟩
instance:Zbk XX.P 74 (.agg #[.int .i64 0,.int .i64 0,.int .i64 0]):= ⟨Zvs⟩
instance:Zbk XX.P 91 (.agg #[.slice none 0 0,.slice none 0 0,.slice none 0 0,.slice none 0 0,.slice none 0 0,.slice none 0 0,.int .i64 0,.int .i64 0,.slice none 0 0,.slice none 0 0]):= ⟨Zvr⟩
instance:Zbk XX.P 96 (.agg #[.int .i64 0,.slice none 0 0,.slice none 0 0,.slice none 0 0,.slice none 0 0,.slice none 0 0,.slice none 0 0,.slice none 0 0,.int .i64 0,.slice none 0 0]):= ⟨ZFc⟩
instance:Zbk XX.P 99 (.agg #[.int .i64 0,.slice none 0 0]):= ⟨Zvq⟩
instance:Zbk XX.P 106 (.agg #[.int .i64 0,.slice none 0 0,.slice none 0 0]):= ⟨ZrQ⟩
instance:Zbk XX.P 112 (.nilFunc):= ⟨ZAL⟩
instance:Zbk XX.P 121 (.agg #[.int .i64 0,.int .i64 0,.int .i64 0,.int .i64 0,.slice none 0 0]):= ⟨ZaW⟩
instance:Zbk XX.P 124 (.nilFunc):= ⟨ZcJ⟩
end
section
def ZzC (p0:Zc):Option Bool:=
 some (decide ((p0.Zf.length:Int) <=30))
def Zjb (p0:Zc) (v23:Int) (ZlM:(Int ->Option Bool)):Int×Int ->(Int×Int ->Option Bool) ->Option Bool:=fun(v34,v36) Zxn=>
 (bif((decide (v36 <= (p0.Zf.length:Int))) && (decide (v34 >=0))) then(bif(v34==v23) then some false else(ZO p0.Zf v34).bind fun x41=>Zxn (x41.J3,Yy (v36 + 1))) else ZlM (Yy (v23 + 1)))
def Zf3 (F:Nat) (p0:Zc):Int ->(Int ->Option Bool) ->Option Bool:=fun v23 ZlM=>
 (bif decide (v23 < (p0.Zf.length:Int)) then(ZO p0.Zf v23).bind fun x26=>loop F (Zjb p0 v23 ZlM) (x26.J3,0) else some true)
def Zjc (F:Nat) (p0:Zc):Int ->(Int ->Option Bool) ->Option Bool:=fun v9 XP=>
 (bif decide (v9 < (p0.Zf.length:Int)) then(ZO p0.Zf v9).bind fun x12=>(bif((((decide (x12.at_ < 0)) || (decide (x12.at_ >=p0.qG))) || (decide (x12.J3 < (-1)))) || (decide (x12.J3 >= (p0.Zf.length:Int)))) then some false else XP (Yy (v9 + 1))) else loop F (Zf3 F p0) 0)
def Zq1 (F:Nat) (p0:Zc):Option Bool:=
 (bif((((decide (p0.qG < 1)) || (decide (p0.qG > 4))) || (decide ((p0.Zf.length:Int) < 1))) || (decide ((p0.Zf.length:Int) > 8))) then some false else loop F (Zjc F p0) 0)
def Zi3 (v10:Int) (Za6:(Int×Int ->Option Int)):Int ->Option Int:=fun v18=>
 Za6 (v18,Yy (v10 + 1))
def ZmA (p0:(List Zd)) (p1:Int) (p2:Int) (p3:Int):Int×Int ->(Int×Int ->Option Int) ->Option Int:=fun(v6,v10) Za6=>
 (bif decide (v10 < (p0.length:Int)) then(ZO p0 v10).bind fun x23=>(bif(((x23.kZ==p1) && (x23.kV==p2)) && (x23.kX==p3)) then(Zi3 v10 Za6) (Yy (v6 + 1)) else(Zi3 v10 Za6) v6) else some v6)
def Zco (F:Nat) (p0:(List Zd)) (p1:Int) (p2:Int) (p3:Int):Option Int:=
 loop F (ZmA p0 p1 p2 p3) (0,0)
def ZgV (p0:Zc) (p1:Int):Option Bool:=
 some ((decide (p1 >=0)) && (decide (p1 < (p0.Zf.length:Int))))
def Zmz (p0:Zc):(List Int)×Int ->((List Int)×Int ->Option (List Int)) ->Option (List Int):=fun(v9,v14) Zif=>
 (bif decide (v14 >=0) then(app 8 v9 [v14]).bind fun z19=>(ZO p0.Zf v14).bind fun x23=>Zif (z19,x23.J3) else some v9)
def Zzw (F:Nat) (p0:Zc) (p1:Int):Option (List Int):=
 (ZO p0.Zf p1).bind fun x3=>loop F (Zmz p0) ([],x3.J3)
end
section
theorem ZJc {wm h} {p0:Zc} {Zl Zk} {r} (ZP:wm <=h.size) (Zx:Sl Zg wm h Zl Zk p0.Zf) (hL:ZzC p0=some r):
 WR XX 14 #[.agg [.int .i64 p0.qG,.slice Zl p0.Zf.length Zk].toArray] wm h (CP (fun(v:Value) (Gb:List (Ast wm))=>v= .bool r∧Gb= []) [] h):=by
 refine bg Tryz.ntmps14 ZP Z7.nil ?_;intro T hT hS;unfold ZzC at hL;refine r3 ?_;rintro _ h2 ⟨b1,eb1,rfl,hS⟩;refine r13 ?_;exact rt hL hT hS
theorem ZJa {F wm h} {p0:Zc} {Zl Zk} {r} (ZP:wm <=h.size) (Zx:Sl Zg wm h Zl Zk p0.Zf) (hL:Zq1 F p0=some r):
 WR XX 17 #[.agg [.int .i64 p0.qG,.slice Zl p0.Zf.length Zk].toArray] wm h (CP (fun(v:Value) (Gb:List (Ast wm))=>v= .bool r∧Gb= []) [] h):=by
 refine bg Tryz.ntmps17 ZP Z7.nil ?_;intro T hT hS;unfold Zq1 at hL;refine r3 ?_;rintro _ h2 ⟨b1,eb1,rfl,hS⟩;refine r16 ?_;refine r16 ?_;refine cn hL ?_ ?_
 ·intro hc hL;refine r7 ?_;exact rt hL hT hS
 ·intro hc hL;refine r12 ?_;refine WC.loop (WL.lift hL (fun v9 s=>∃ WT h3,s= ⟨WT,[],h3,none⟩∧Sp wm T h [bx wm b1 [.int .i64 p0.qG,.slice Zl p0.Zf.length Zk]] h3∧WT.at 1= .pointer (some ⟨b1,0,none⟩)∧WT.at 3= .int .i64 (p0.Zf.length:Int)∧WT.at 29= .slice Zl p0.Zf.length Zk∧WT.at 30= .int .i64 (p0.Zf.length:Int)∧WT.at 31= .int .i64 v9) ⟨_,_,rfl,hS.only sl,XZ⟩ ?_);clear hL hS;rintro XP v9 s Wt hL ⟨WT,h3,rfl,hS,e5,e6,e7,e8,e10⟩;dsimp only [Zjc] at hL;refine r6 ?_;refine cn hL ?_ ?_
  ·intro hc hL;refine r6 ?_;obtain⟨x12,Zx2,hL⟩:=bS hL;obtain⟨b13,o14,_,ZEt,ZsP,ZsN,ZyI⟩:=Sl.at_ Zx Zx2;refine r1 ?_;refine WO.w gN rfl (Qh ZjA KN (Z4 fh rfl) (At.fz hS.fz ZsN ZsP) (j:=0) rfl rfl (ws:= (cP x12)) rfl) ?_;refine r1 ?_;rintro _ h16 ⟨b15,ZUJ,rfl,hS⟩;refine r1 ?_;rintro h17 hS;refine r16 ?_;refine r11 ?_;refine cn hL ?_ ?_
   ·intro hc hL;refine r11 ?_;exact rt hL hT hS
   ·intro hc hL;refine r7 ?_;exact YE.YX (Wt _ _ hL ⟨_,_,rfl,hS.only sl,XZ⟩)
  ·intro hc hL;refine r15 ?_;refine WC.loop (WL.lift hL (fun v23 s=>∃ Zue h18,s= ⟨Zue,[],h18,none⟩∧Sp wm T h [bx wm b1 [.int .i64 p0.qG,.slice Zl p0.Zf.length Zk]] h18∧Zue.at 1= .pointer (some ⟨b1,0,none⟩)∧Zue.at 3= .int .i64 (p0.Zf.length:Int)∧Zue.at 59= .int .i64 (p0.Zf.length:Int)∧Zue.at 60= .int .i64 v23) ⟨_,_,rfl,hS.only sl,XZ⟩ ?_);clear hL hS;rintro ZlM v23 s ZBS hL ⟨Zue,h18,rfl,hS,e20,e21,e22,e24⟩;dsimp only [Zf3] at hL;refine r6 ?_;refine cn hL ?_ ?_
   ·intro hc hL;refine r15 ?_;obtain⟨x26,Zt4,hL⟩:=bS hL;obtain⟨b27,o28,_,ZEm,ZEB,ZEy,ZOp⟩:=Sl.at_ Zx Zt4;refine r12 ?_;refine WC.loop (WL.lift hL (fun p s=>match p with | (v34,v36)=>∃ Zci h29,s= ⟨Zci,[],h29,none⟩∧Sp wm T h [bx wm b1 [.int .i64 p0.qG,.slice Zl p0.Zf.length Zk]] h29∧Zci.at 1= .pointer (some ⟨b1,0,none⟩)∧Zci.at 3= .int .i64 (p0.Zf.length:Int)∧Zci.at 6= .int .i64 v23∧Zci.at 7= .int .i64 v34∧Zci.at 8= .int .i64 v36∧Zci.at 59= .int .i64 (p0.Zf.length:Int)∧Zci.at 60= .int .i64 v23) ⟨_,_,rfl,hS.only sl,XZ⟩ ?_);clear hL hS;rintro Zxn ⟨v34,v36⟩ s ZBQ hL ⟨Zci,h29,rfl,hS,e31,e32,e33,e35,e37,e38,e39⟩;dsimp only [Zjb] at hL;refine r12 ?_;refine cn hL ?_ ?_
    ·intro hc hL;refine r12 ?_;refine cn hL ?_ ?_
     ·intro hc hL;refine r16 ?_;exact rt hL hT hS
     ·intro hc hL;refine r6 ?_;obtain⟨x41,ZHG,hL⟩:=bS hL;obtain⟨b42,o43,_,ZXM,ZYI,ZYs,ZYc⟩:=Sl.at_ Zx ZHG;refine r12 ?_;exact YE.YX (ZBQ _ _ hL ⟨_,_,rfl,hS.only sl,XZ⟩)
    ·intro hc hL;refine r10 ?_;exact YE.YX (ZBS _ _ hL ⟨_,_,rfl,hS.only sl,XZ⟩)
   ·intro hc hL;refine r11 ?_;exact rt hL hT hS
theorem ZJb {F h} {p0:Zc} {Zl Zk} {r} (Zx:Sl Zg h.size h Zl Zk p0.Zf) (hL:Zq1 F p0=some r):Pure XX 17 #[.agg [.int .i64 p0.qG,.slice Zl p0.Zf.length Zk].toArray] h (.bool r):=
 WR.YR rfl (ZJa (Nat.le_refl _) Zx hL)
theorem ZIY {F wm h} {p0:(List Zd)} {p1 p2 p3:Int} {Zl Zk} {r} (ZP:wm <=h.size) (Zx:Sl Zu wm h Zl Zk p0) (hL:Zco F p0 p1 p2 p3=some r):
 WR XX 32 #[.slice Zl p0.length Zk,.int .i64 p1,.int .i64 p2,.int .i64 p3] wm h (CP (fun(v:Value) (Gb:List (Ast wm))=>v= .int .i64 r∧Gb= []) [] h):=by
 refine bg Tryz.ntmps32 ZP Z7.nil ?_;intro T hT hS;unfold Zco at hL;refine r16 ?_;refine r3 ?_;refine WC.loop (WL.lift hL (fun p s=>match p with | (v6,v10)=>∃ JJ h1,s= ⟨JJ,[],h1,none⟩∧Sp wm T h [] h1∧JJ.at 1= .int .i64 p1∧JJ.at 2= .int .i64 p2∧JJ.at 3= .int .i64 p3∧JJ.at 9= .int .i64 v6∧JJ.at 12= .slice Zl p0.length Zk∧JJ.at 13= .int .i64 (p0.length:Int)∧JJ.at 14= .int .i64 v10) ⟨_,_,rfl,hS.only .n,XZ⟩ ?_);clear hL hS;rintro Za6 ⟨v6,v10⟩ s Zl0 hL ⟨JJ,h1,rfl,hS,e3,e4,e5,e7,e8,e9,e11⟩;dsimp only [ZmA] at hL;refine r6 ?_;refine cn hL ?_ ?_
 ·intro hc hL;refine r2 ?_;refine WC.KO (r:=r) (fun(v18:Int) s=>∃ Zdt h13,s= ⟨Zdt,[],h13,none⟩∧Sp wm T h [] h13∧Zdt.at 1= .int .i64 p1∧Zdt.at 2= .int .i64 p2∧Zdt.at 3= .int .i64 p3∧Zdt.at 9= .int .i64 v18∧Zdt.at 12= .slice Zl p0.length Zk∧Zdt.at 13= .int .i64 (p0.length:Int)∧Zdt.at 14= .int .i64 v10) (Zi3 v10 Za6) ?_ ?_
  ·clear hL hS;rintro v18 s hL ⟨Zdt,h13,rfl,hS,e15,e16,e17,e19,e20,e21,e22⟩;dsimp only [Zi3] at hL;refine r4 ?_;exact YE.YX (Zl0 _ _ hL ⟨_,_,rfl,hS.only .n,XZ⟩)
  ·skip;refine r3 ?_;obtain⟨x23,ZxQ,hL⟩:=bS hL;obtain⟨b24,o25,_,ZEn,ZsO,ZsM,ZEu⟩:=Sl.at_ Zx ZxQ;refine r1 ?_;refine WO.w gN rfl (Qh Zbu Um (Z4 fh rfl) (At.fz hS.fz ZsM ZsO) (j:=0) rfl rfl (ws:= (cE x23)) rfl) ?_;refine r1 ?_;rintro _ h27 ⟨b26,ZUI,rfl,hS⟩;refine r1 ?_;rintro h28 hS;refine r16 ?_;refine r6 ?_;refine cn hL ?_ ?_
   ·intro hc hL;refine r6 ?_;exact Xj.YX _ hL ⟨_,_,rfl,hS.only .n,XZ⟩
   ·intro hc hL;refine r2 ?_;exact Xj.YX _ hL ⟨_,_,rfl,hS.only .n,XZ⟩
 ·intro hc hL;refine r12 ?_;exact rt hL hT hS
theorem Zd3 {F h} {p0:(List Zd)} {p1 p2 p3:Int} {Zl Zk} {r} (Zx:Sl Zu h.size h Zl Zk p0) (hL:Zco F p0 p1 p2 p3=some r):Pure XX 32 #[.slice Zl p0.length Zk,.int .i64 p1,.int .i64 p2,.int .i64 p3] h (.int .i64 r):=
 WR.YR rfl (ZIY (Nat.le_refl _) Zx hL)
theorem ZIX {wm h} {p0:Zc} {p1:Int} {Zl Zk} {r} (ZP:wm <=h.size) (Zx:Sl Zg wm h Zl Zk p0.Zf) (hL:ZgV p0 p1=some r):
 WR XX 33 #[.agg [.int .i64 p0.qG,.slice Zl p0.Zf.length Zk].toArray,.int .i64 p1] wm h (CP (fun(v:Value) (Gb:List (Ast wm))=>v= .bool r∧Gb= []) [] h):=by
 refine bg Tryz.ntmps33 ZP Z7.nil ?_;intro T hT hS;unfold ZgV at hL;refine r3 ?_;rintro _ h2 ⟨b1,eb1,rfl,hS⟩;refine r16 ?_;refine r2 ?_;exact rt hL hT hS
theorem Zi2 {h} {p0:Zc} {p1:Int} {Zl Zk} {r} (Zx:Sl Zg h.size h Zl Zk p0.Zf) (hL:ZgV p0 p1=some r):Pure XX 33 #[.agg [.int .i64 p0.qG,.slice Zl p0.Zf.length Zk].toArray,.int .i64 p1] h (.bool r):=
 WR.YR rfl (ZIX (Nat.le_refl _) Zx hL)
theorem ZIW {F wm h} {p0:Zc} {p1:Int} {Zl Zk} {r} (ZP:wm <=h.size) (Zx:Sl Zg wm h Zl Zk p0.Zf) (hL:Zzw F p0 p1=some r):
 WR XX 38 #[.agg [.int .i64 p0.qG,.slice Zl p0.Zf.length Zk].toArray,.int .i64 p1] wm h (CP (fun(v:Value) (Gb:List (Ast wm))=>∃ Ja Q8 Q9,v= .slice Ja Q8 Q9∧Gb= [ow wm (Zq .i64) Ja Q8 Q9 r]) [] h):=by
 refine bg Tryz.ntmps38 ZP Z7.nil ?_;intro T hT hS;unfold Zzw at hL;refine r3 ?_;rintro _ h2 ⟨b1,eb1,rfl,hS⟩;refine r14 ?_;obtain⟨x3,hx3,hL⟩:=bS hL;obtain⟨b4,o5,_,ZOd,ZOQ,Z1f,ZOo⟩:=Sl.at_ Zx hx3;refine r7 ?_;have hS:=hS.nil (e:= (Zq .i64));refine WC.loop (WL.lift hL (fun p s=>match p with | (v9,v14)=>∃ fr7 h6 a10 c11 n12,s= ⟨fr7,[],h6,none⟩∧Sp wm T h [ow wm (Zq .i64) a10 n12 c11 v9,bx wm b1 [.int .i64 p0.qG,.slice Zl p0.Zf.length Zk]] h6∧fr7.at 2= .pointer (some ⟨b1,0,none⟩)∧fr7.at 5= .slice a10 n12 c11∧fr7.at 6= .int .i64 v14) ⟨_,_,none,0,0,rfl,hS.only sl,XZ⟩ ?_);clear hL hS;rintro Zif ⟨v9,v14⟩ s ZlY hL ⟨fr7,h6,a10,c11,n12,rfl,hS,e8,e13,e15⟩;obtain rfl:=hS.on k0;dsimp only [Zmz] at hL;refine r7 ?_;refine cn hL ?_ ?_
 ·intro hc hL;refine r7 ?_;refine WO.hn gN rfl (Zdk (e:= (Zq .i64)) hS Ua Ub Zdw rfl rfl rfl (ZT lk YU) rfl [((),v14)] rfl (xs:= [v14]) rfl (by intro q hq;simp only [List.mem_cons,List.not_mem_nil,or_false] at hq;subst hq;exact trivial) rfl) ?_;rintro _ h18 ⟨b17,Z2K,rfl,hS⟩;obtain⟨z19,ZRU,hL⟩:=bS hL;refine WO.hv gN rfl (ZgS (e:= (Zq .i64)) hS k1 ZaQ lk lk (hS.UO k0) (hS.on k0) ZRU) ?_;rintro _ h22 ⟨a20,c21,rfl,hS⟩;refine r8 ?_;obtain⟨x23,ZxQ,hL⟩:=bS hL;obtain⟨b24,o25,_,ZEn,ZsO,ZsM,ZEu⟩:=Sl.at_ Zx ZxQ;refine r5 ?_;exact YE.YX (ZlY _ _ hL ⟨_,_,a20,c21,z19.length,rfl,hS.only sl,XZ⟩)
 ·intro hc hL;refine r12 ?_;have hr:=Oi0 hL;subst hr;exact Z8.J4 rfl (ZC lk Zr) ⟨_,⟨a10,v9.length,c11,rfl,rfl⟩,hT ▸ hS.only sl⟩
end
section
def Zcn (p0:Zc) (p1:Int):Option Bool:=
 some ((decide (p1 >=0)) && (decide (p1 < (p0.Zf.length:Int))))
def ZfN (v15:Int) (Q6:(Int×Bool ->Option Bool)):Bool×Bool ->Option Bool:=fun(v45,Zv9)=>
 (bif Zv9 then some v45 else Q6 (Yy (v15 + 1),v45))
def ZiQ (p0:QG) (v15:Int) (Q6:(Int×Bool ->Option Bool)) (x20:Zd):Int×Bool×Bool ->(Int×Bool×Bool ->Option Bool) ->Option Bool:=fun(v59,v61,Zv7) Zp8=>
 (bif decide (v59 >=0) then(bif Zv7 then none else(bif(v59==x20.kX) then(bif(!false) then(ZfN v15 Q6) (true,true) else(ZO p0.qK.Zf v59).bind fun x68=>Zp8 (x68.J3,true,true)) else(bif(!true) then(ZfN v15 Q6) (v61,false) else(ZO p0.qK.Zf v59).bind fun x72=>Zp8 (x72.J3,v61,false)))) else(ZfN v15 Q6) (v61,Zv7))
def ZiR (F:Nat) (p0:QG) (p1:Zd):Int×Bool ->(Int×Bool ->Option Bool) ->Option Bool:=fun(v15,v17) Q6=>
 (bif decide (v15 < (p0.before.length:Int)) then(ZO p0.before v15).bind fun x20=>(gd (!(x20.kZ !=4)) (ZO p0.qK.Zf x20.kV) default).bind fun x26=>(gd (!(x20.kZ !=4)) (ZO p0.qK.Zf p1.kV) default).bind fun x29=>(bif((x20.kZ !=4) || (x26.at_ !=x29.at_)) then Q6 (Yy (v15 + 1),v17) else(bif(x20.kX==p1.kX) then some true else(ZO p0.qK.Zf p1.kX).bind fun x52=>loop F (ZiQ p0 v15 Q6 x20) (x52.J3,v17,false))) else some false)
def Zzi (F:Nat) (p0:QG) (p1:Zd):Option Bool:=
 (bif(p1.kZ !=2) then some false else loop F (ZiR F p0 p1) (0,false))
def ZiP (v13:Int) (Zfx:((List Int)×Int ->Option (List Int))):(List Int) ->Option (List Int):=fun v19=>
 Zfx (v19,Yy (v13 + 1))
def Zmn (p0:Zc) (p1:Int):(List Int)×Int ->((List Int)×Int ->Option (List Int)) ->Option (List Int):=fun(v6,v13) Zfx=>
 (bif decide (v13 < (p0.Zf.length:Int)) then(ZO p0.Zf v13).bind fun x27=>(bif(x27.J3==p1) then(app 8 v6 [v13]).bind fun z35=>(ZiP v13 Zfx) z35 else(ZiP v13 Zfx) v6) else some v6)
def Zul (F:Nat) (p0:Zc) (p1:Int):Option (List Int):=
 loop F (Zmn p0 p1) ([],0)
def ZeO (v12:Int) (Za5:(Int×Int ->Option Int)):Int ->Option Int:=fun v18=>
 Za5 (v18,Yy (v12 + 1))
def Zhk (p0:QG) (p1:Zd):Int×Int ->(Int×Int ->Option Int) ->Option Int:=fun(v8,v12) Za5=>
 (bif decide (v12 < (p0.before.length:Int)) then(ZO p0.before v12).bind fun x23=>(bif Qy p1 x23 then(ZeO v12 Za5) (Yy (v8 + 1)) else(ZeO v12 Za5) v8) else some v8)
def ZdE (F:Nat) (p0:QG) (p1:Zd):Option Int:=
 loop F (Zhk p0 p1) (0,0)
def Zc0:Int ->Option Bool:=fun v9=>
 some (decide (v9 >=0))
def Zhj (p0:QG) (p1:Int) (p2:Int):Int ->(Int ->Option Bool) ->Option Bool:=fun v15 Zxp=>
 (bif decide (v15 < (p0.before.length:Int)) then(ZO p0.before v15).bind fun x18=>(bif((x18.kZ==p1) && (x18.n==p2)) then(Zc0) v15 else Zxp (Yy (v15 + 1))) else(Zc0) (-1))
def Zjd (F:Nat) (p0:QG) (p1:Int) (p2:Int):Option Bool:=
 loop F (Zhj p0 p1 p2) 0
def ZgF (F:Nat) (p0:QG) (p1:Int):Option Bool:=
 (ZdE F p0 (Zd.mk 6 p1 0 0)).bind fun x3=>some (decide (x3 > 0))
end
section
theorem ZIP {wm h} {p0:Zc} {p1:Int} {Zl Zk} {r} (ZP:wm <=h.size) (Zx:Sl Zg wm h Zl Zk p0.Zf) (hL:Zcn p0 p1=some r):
 WR XX 54 #[.agg [.int .i64 p0.qG,.slice Zl p0.Zf.length Zk].toArray,.int .i64 p1] wm h (CP (fun(v:Value) (Gb:List (Ast wm))=>v= .bool r∧Gb= []) [] h):=by
 refine bg Tryz.ntmps54 ZP Z7.nil ?_;intro T hT hS;unfold Zcn at hL;refine r3 ?_;rintro _ h2 ⟨b1,eb1,rfl,hS⟩;refine r16 ?_;refine r2 ?_;exact rt hL hT hS
theorem ZfT {h} {p0:Zc} {p1:Int} {Zl Zk} {r} (Zx:Sl Zg h.size h Zl Zk p0.Zf) (hL:Zcn p0 p1=some r):Pure XX 54 #[.agg [.int .i64 p0.qG,.slice Zl p0.Zf.length Zk].toArray,.int .i64 p1] h (.bool r):=
 WR.YR rfl (ZIP (Nat.le_refl _) Zx hL)
theorem ZII {F wm h} {p0:QG} {p1:Zd} {Zl Zk ZI ZH} {r} (ZP:wm <=h.size) (Zx:Sl Zg wm h Zl Zk p0.qK.Zf) (Xb:Sl Zu wm h ZI ZH p0.before) (hL:Zzi F p0 p1=some r):
 WR XX 82 #[.agg [.int .i64 p0.qK.qG,.slice Zl p0.qK.Zf.length Zk,.slice ZI p0.before.length ZH].toArray,.agg [.int .i64 p1.kZ,.int .i64 p1.kV,.int .i64 p1.kX,.int .i64 p1.n].toArray] wm h (CP (fun(v:Value) (Gb:List (Ast wm))=>v= .bool r∧Gb= []) [] h):=by
 refine WF.Zcy (args:= [_,_]) (fn:=Tryz.f82) Kq0 (by exact rfl) Tryz.ntmps82 (by simp) ?_;simp only [ZB,ZK,Nat.reduceAdd];obtain⟨T,hT,hS⟩:∃ T,T=Qs (wm:=wm) []∧Sp wm T h [] h:= ⟨_,rfl,Sp.start ZP Z7.nil⟩
 unfold Zzi at hL;refine r3 ?_;rintro _ h2 ⟨b1,eb1,rfl,hS⟩;refine r1 ?_;rintro _ h4 ⟨b3,eb3,rfl,hS⟩;refine r1 ?_;rintro _ h6 ⟨b5,eb5,rfl,hS⟩;refine r10 ?_;refine cn hL ?_ ?_
 ·intro hc hL;refine r3 ?_;rintro h7 hS;refine r4 ?_;have hr:=Oi0 hL;subst hr;exact Qc.gen rfl (Xl (Yb rfl (Zi rfl fh)) (Qz Zki (hS.U6 k0) (j:=0) rfl (v:= .bool false) rfl) Zr) rfl ⟨_,⟨rfl,rfl⟩,hT ▸ hS.only .n⟩
 ·intro hc hL;refine r12 ?_;have hS:=hS.ZPE;refine WC.loop (WL.lift hL (fun p s=>match p with | (v15,v17)=>∃ fr9 h8,∃ (Zqk:List Nat),s= ⟨fr9,(ZJl Zqk ++ []),h8,none⟩∧Sp wm T h [bx wm b1 [.int .i64 p0.qK.qG,.slice Zl p0.qK.Zf.length Zk,.slice ZI p0.before.length ZH],bx wm b3 (cE p1),bx wm b5 [.bool v17],cds wm Zqk] h8∧fr9.at 2= .pointer (some ⟨b1,0,none⟩)∧fr9.at 3= .pointer (some ⟨b3,0,none⟩)∧fr9.at 4= .pointer (some ⟨b5,0,none⟩)∧fr9.at 12= .slice ZI p0.before.length ZH∧fr9.at 13= .int .i64 (p0.before.length:Int)∧fr9.at 14= .int .i64 v15) ⟨_,_,[],rfl,hS.only sl,XZ⟩ ?_);clear hL hS;rintro Q6 ⟨v15,v17⟩ s Zhg hL ⟨fr9,h8,Zqk,rfl,hS,e10,e11,e12,e13,e14,e16⟩;dsimp only [ZiR] at hL;refine r6 ?_;refine cn hL ?_ ?_
  ·intro hc hL;refine r6 ?_;obtain⟨x20,Zqu,hL⟩:=bS hL;obtain⟨b21,o22,_,ZXR,ZOV,ZOG,ZYi⟩:=Sl.at_ Xb Zqu;refine r1 ?_;refine WO.w gN rfl (Qh Zbu Um (Z4 fh rfl) (At.fz hS.fz ZOG ZOV) (j:=0) rfl rfl (ws:= (cE x20)) rfl) ?_;refine r1 ?_;rintro _ h24 ⟨b23,Z2G,rfl,hS⟩;refine r1 ?_;rintro h25 hS;refine r4 ?_;refine WC.Xd mixed Kq0 ?_;refine r9 ?_;obtain⟨x26,Zt4,hL⟩:=Xh hL;obtain⟨b27,o28,_,hQ⟩:=Sl.atG (fun hg=>Zx) Zt4;have ZEm:=fun hg=>(hQ hg).1
   have ZEB:=fun hg=>(hQ hg).2.1
   have ZEy:=fun hg=>(hQ hg).2.2.1
   have ZOp:=fun hg=>(hQ hg).2.2.2
   refine WX.gv (Zh.no rfl rfl rfl (YQ rfl (Zi rfl fh))) rfl (fun hg=>(Qi Znw KN (Q0 (Yb rfl fh) rfl hg) (Q0 fh rfl hg) rfl (ZEm hg) (Zt4 hg))) ?_ rfl;refine r1 ?_;refine WX.gv (Zh.no rfl rfl rfl (YQ rfl (Yb rfl (Zi rfl fh)))) rfl (fun hg=>(Qd ZbM (Q0 fh rfl hg) (At.fz hS.fz (ZEy hg) (ZEB hg)) (j:=0) rfl (v:= .int .i64 x26.at_) rfl)) ?_ rfl;refine r5 ?_;obtain⟨x29,hx29,hL⟩:=Xh hL;obtain⟨b30,o31,_,hQ⟩:=Sl.atG (fun hg=>Zx) hx29;have ZOe:=fun hg=>(hQ hg).1
   have ZOS:=fun hg=>(hQ hg).2.1
   have ZOD:=fun hg=>(hQ hg).2.2.1
   have ZYg:=fun hg=>(hQ hg).2.2.2
   refine WX.gv (Zh.no rfl rfl rfl (ZJ rfl (YQ rfl (Zi rfl fh)))) rfl (fun hg=>(Qi Znw KN (Q0 (Yb rfl fh) rfl hg) (Q0 fh rfl hg) rfl (ZOe hg) (hx29 hg))) ?_ rfl;refine r1 ?_;refine WX.gv (Zh.no rfl rfl rfl (ZJ rfl (YQ rfl (Yb rfl (Zi rfl fh))))) rfl (fun hg=>(Qd ZbM (Q0 fh rfl hg) (At.fz hS.fz (ZOD hg) (ZOS hg)) (j:=0) rfl (v:= .int .i64 x29.at_) rfl)) ?_ rfl;refine r4 ?_;refine cn hL ?_ ?_
   ·intro hc hL;refine r8 ?_;exact YE.YX (Zhg _ _ hL ⟨_,_,Zqk,rfl,hS.only sl,XZ⟩)
   ·intro hc hL;refine r12 ?_;refine cn hL ?_ ?_
    ·intro hc hL;refine r3 ?_;rintro h32 hS;refine r9 ?_;refine Qc.Zk7 hS k4 ?_;rintro h33 hS;have hr:=Oi0 hL;subst hr;exact Qc.gen rfl (Xl (ZJ rfl (ZJ rfl (ZJ rfl (YQ rfl (Yb rfl (Zi rfl e12)))))) (Qz Zki (hS.U6 k0) (j:=0) rfl (v:= .bool true) rfl) Zr) rfl ⟨_,⟨rfl,rfl⟩,hT ▸ hS.only .n⟩
    ·intro hc hL;refine r8 ?_;refine WO.inl gN rfl (YS.fn Zol (Zb lk (Zb lk Zj))) (WF.begin (args:= [_,_]) (fn:=Tryz.f55) Kq0 (by exact rfl) Tryz.ntmps55 (by simp) ?_);simp only [ZB,ZK,Nat.reduceAdd];refine r3 ?_;rintro _ h35 ⟨b34,ZUH,rfl,hS⟩;refine r1 ?_;rintro _ h37 ⟨b36,ZUG,rfl,hS⟩;refine r5 ?_;refine WO.w gN rfl (KY (Zb lk (Zb lk Zj))) ?_;refine r4 ?_;refine Z8.J4 rfl (ZC lk Zr) ?_;refine r3 ?_;refine WC.ZlD (first:= []) (cap:= [.pointer (some ⟨b34,0,none⟩),.pointer (some ⟨b36,0,none⟩)]) hS lk Zok ?_;intro h38 l39 ZJk ZQq ZkP hS;refine WR.Zds (r:=r) (fun(p:Bool×Bool) (v:Value) (h43:H)=>match p with | (v45,Zv9)=>v= .tuple [].toArray∧Sp wm T h [bx wm b1 [.int .i64 p0.qK.qG,.slice Zl p0.qK.Zf.length Zk,.slice ZI p0.before.length ZH],bx wm b3 (cE p1),bx wm b5 [.bool v45],bx wm b23 (cE x20),bx wm b34 [.int .i64 p0.qK.qG,.slice Zl p0.qK.Zf.length Zk],bx wm b36 [.int .i64 p1.kX],cds wm Zqk,ob wm l39 (lst Zv9 Code.ret ZQq),ob wm ZJk .deferred] h43) (ZfN v15 Q6) ?_ (WF.begin (args:= [_,_,_]) (fn:=Tryz.f84) Kq0 (by exact rfl) Tryz.ntmps84 (by simp) ?_)
     ·clear hL hS;rintro⟨v45,Zv9⟩ v h43 hL ⟨rfl,hS⟩;dsimp only [ZfN] at hL;rcases Jv Zv9 with hc | hc
      ·replace hL:=QW hc hL;rw [hc] at hS;refine RgS.stop (c:=Code.ret) ZkP hS k7 ?_;rintro h48 hS;refine r7 ?_;refine Qc.Zjq hS k7 ?_;rintro h49 hS;refine Qc.Zk7 hS k6 ?_;rintro h50 hS;have hr:=Oi0 hL;subst hr;exact Qc.gen rfl (Xl (ZJ rfl (ZJ rfl (ZJ rfl (ZJ rfl (YQ rfl e12))))) (Qz Zki (hS.U6 k2) (j:=0) rfl (v:= .bool v45) rfl) Zr) rfl ⟨_,⟨rfl,rfl⟩,hT ▸ hS.only .n⟩
      ·replace hL:=QX hc hL;rw [hc] at hS;refine RgS.sp ZkP hS k7 ?_;rintro h51 hS;refine r7 ?_;have hS:=hS.ZPD k7 k6;exact YE.YX (Zhg _ _ hL ⟨_,_,(ZJk::Zqk),rfl,hS.only sl,XZ⟩)
     ·skip;simp only [ZB,ZK,Nat.reduceAdd];refine r5 ?_;obtain⟨x52,ZHE,hL⟩:=bS hL;obtain⟨b53,o54,_,ZXI,ZYE,ZYp,ZX9⟩:=Sl.at_ Zx ZHE;refine r7 ?_;refine WC.loop (WL.lift hL (fun p s=>match p with | (v59,v61,Zv7)=>∃ Zy0 h55,s= ⟨Zy0,[],h55,none⟩∧Sp wm T h [bx wm b34 [.int .i64 p0.qK.qG,.slice Zl p0.qK.Zf.length Zk],bx wm b1 [.int .i64 p0.qK.qG,.slice Zl p0.qK.Zf.length Zk,.slice ZI p0.before.length ZH],bx wm b3 (cE p1),bx wm b5 [.bool v61],bx wm b23 (cE x20),bx wm b36 [.int .i64 p1.kX],cds wm Zqk,ob wm l39 (lst Zv7 Code.ret ZQq),ob wm ZJk .deferred] h55∧Zy0.at 0= .func (.yield l39) #[] #[]∧Zy0.at 1= .pointer (some ⟨b34,0,none⟩)∧Zy0.at 4= .int .i64 v59) ⟨_,_,rfl,hS.only sl,XZ⟩ ?_);clear hL hS;rintro Zp8 ⟨v59,v61,Zv7⟩ s ZsF hL ⟨Zy0,h55,rfl,hS,e57,e58,e60⟩;dsimp only [ZiQ] at hL;refine r7 ?_;refine cn hL ?_ ?_
      ·intro hc hL;refine r8 ?_;obtain⟨ZSE,hL⟩:=Zhs hL;rw [ZSE] at hS;refine WO.ZAM gN rfl lk lks hS k7 ZkP rfl rfl ?_;refine r3 ?_;refine AsS.sp ZkP hS k7 ?_;rintro h65 hS;refine r9 ?_;refine cn hL ?_ ?_
       ·intro hc hL;refine r3 ?_;rintro h66 hS;refine r4 ?_;refine BdS.stop .ret ZkP hS k1 ?_;rintro h67 hS;refine r3 ?_;refine cn hL ?_ ?_
        ·intro hc hL;refine r5 ?_;exact Z8.gen (vs:= []) rfl Zr rfl ⟨_,hL,⟨rfl,hS.only sl⟩⟩
        ·intro hc hL;refine r7 ?_;obtain⟨x68,ZR9,hL⟩:=bS hL;obtain⟨b69,o70,_,ZXE,ZYB,ZYn,ZX5⟩:=Sl.at_ Zx ZR9;refine r5 ?_;exact YE.YX (ZsF _ _ hL ⟨_,_,rfl,hS.only sl,XZ⟩)
       ·intro hc hL;refine r2 ?_;refine BdS.sp ZkP hS k0 ?_;rintro h71 hS;refine r3 ?_;refine cn hL ?_ ?_
        ·intro hc hL;refine r5 ?_;exact Z8.gen (vs:= []) rfl Zr rfl ⟨_,hL,⟨rfl,hS.only sl⟩⟩
        ·intro hc hL;refine r7 ?_;obtain⟨x72,ZR7,hL⟩:=bS hL;obtain⟨b73,o74,_,ZXD,ZYA,ZYm,ZX3⟩:=Sl.at_ Zx ZR7;refine r5 ?_;exact YE.YX (ZsF _ _ hL ⟨_,_,rfl,hS.only sl,XZ⟩)
      ·intro hc hL;refine r4 ?_;refine Z8.YX ?_;exact Z8.gen (vs:= []) rfl Zr rfl ⟨_,hL,⟨rfl,hS.only sl⟩⟩
  ·intro hc hL;refine r8 ?_;rintro h75 hS;refine r3 ?_;refine Qc.Zk7 hS k3 ?_;rintro h76 hS;have hr:=Oi0 hL;subst hr;exact Qc.gen rfl (Xl (Zi rfl e12) (Qz Zki (hS.U6 k0) (j:=0) rfl (v:= .bool false) rfl) Zr) rfl ⟨_,⟨rfl,rfl⟩,hT ▸ hS.only .n⟩
theorem ZIH {F wm h} {p0:Zc} {p1:Int} {Zl Zk} {r} (ZP:wm <=h.size) (Zx:Sl Zg wm h Zl Zk p0.Zf) (hL:Zul F p0 p1=some r):
 WR XX 83 #[.agg [.int .i64 p0.qG,.slice Zl p0.Zf.length Zk].toArray,.int .i64 p1] wm h (CP (fun(v:Value) (Gb:List (Ast wm))=>∃ Ja Q8 Q9,v= .slice Ja Q8 Q9∧Gb= [ow wm (Zq .i64) Ja Q8 Q9 r]) [] h):=by
 refine bg Tryz.ntmps83 ZP Z7.nil ?_;intro T hT hS;unfold Zul at hL;refine r3 ?_;rintro _ h2 ⟨b1,eb1,rfl,hS⟩;refine r16 ?_;refine r2 ?_;have hS:=hS.nil (e:= (Zq .i64));refine WC.loop (WL.lift hL (fun p s=>match p with | (v6,v13)=>∃ WT h3 a7 c8 n9,s= ⟨WT,[],h3,none⟩∧Sp wm T h [ow wm (Zq .i64) a7 n9 c8 v6] h3∧WT.at 1= .int .i64 p1∧WT.at 5= .slice a7 n9 c8∧WT.at 9= .slice Zl p0.Zf.length Zk∧WT.at 10= .int .i64 (p0.Zf.length:Int)∧WT.at 11= .int .i64 v13) ⟨_,_,none,0,0,rfl,hS.only sl,XZ⟩ ?_);clear hL hS;rintro Zfx ⟨v6,v13⟩ s ZBV hL ⟨WT,h3,a7,c8,n9,rfl,hS,e5,e10,e11,e12,e14⟩;obtain rfl:=hS.on k0;dsimp only [Zmn] at hL;refine r6 ?_;refine cn hL ?_ ?_
 ·intro hc hL;refine r2 ?_;refine WC.KO (r:=r) (fun(v19:(List Int)) s=>∃ ZeK h16 a20 c21 n22,s= ⟨ZeK,[],h16,none⟩∧Sp wm T h [ow wm (Zq .i64) a20 n22 c21 v19] h16∧ZeK.at 1= .int .i64 p1∧ZeK.at 5= .slice a20 n22 c21∧ZeK.at 9= .slice Zl p0.Zf.length Zk∧ZeK.at 10= .int .i64 (p0.Zf.length:Int)∧ZeK.at 11= .int .i64 v13) (ZiP v13 Zfx) ?_ ?_
  ·clear hL hS;rintro v19 s hL ⟨ZeK,h16,a20,c21,n22,rfl,hS,e18,e23,e24,e25,e26⟩;obtain rfl:=hS.on k0;dsimp only [ZiP] at hL;refine r4 ?_;exact YE.YX (ZBV _ _ hL ⟨_,_,a20,c21,v19.length,rfl,hS.only sl,XZ⟩)
  ·skip;refine r4 ?_;obtain⟨x27,hx27,hL⟩:=bS hL;obtain⟨b28,o29,_,ZXQ,ZOT,ZOE,ZYh⟩:=Sl.at_ Zx hx27;refine r1 ?_;refine WO.w gN rfl (Qh ZjA KN (Z4 fh rfl) (At.fz hS.fz ZOE ZOT) (j:=0) rfl rfl (ws:= (cP x27)) rfl) ?_;refine r1 ?_;rintro _ h31 ⟨b30,Z2E,rfl,hS⟩;refine r2 ?_;rintro h32 hS;refine r10 ?_;refine cn hL ?_ ?_
   ·intro hc hL;refine r3 ?_;refine WO.hn gN rfl (Zdk (e:= (Zq .i64)) hS Ua Ub Zdw rfl rfl rfl (ZT lk YU) rfl [((),v13)] rfl (xs:= [v13]) rfl (by intro q hq;simp only [List.mem_cons,List.not_mem_nil,or_false] at hq;subst hq;exact trivial) rfl) ?_;rintro _ h34 ⟨b33,ZPj,rfl,hS⟩;obtain⟨z35,ZHw,hL⟩:=bS hL;refine WO.hv gN rfl (ZgS (e:= (Zq .i64)) hS k2 ZaQ lk lk (hS.UO k0) (hS.on k0) ZHw) ?_;rintro _ h38 ⟨a36,c37,rfl,hS⟩;refine r3 ?_;exact Xj.YX _ hL ⟨_,_,a36,c37,z35.length,rfl,hS.only sl,XZ⟩
   ·intro hc hL;refine r2 ?_;exact Xj.YX _ hL ⟨_,_,a7,c8,v6.length,rfl,hS.only sl,XZ⟩
 ·intro hc hL;refine r12 ?_;have hr:=Oi0 hL;subst hr;exact Z8.J4 rfl (ZC lk Zr) ⟨_,⟨a7,v6.length,c8,rfl,rfl⟩,hT ▸ hS.only sl⟩
theorem ZCC {F wm h} {p0:QG} {p1:Zd} {Zl Zk ZI ZH} {r} (ZP:wm <=h.size) (Zx:Sl Zg wm h Zl Zk p0.qK.Zf) (Xb:Sl Zu wm h ZI ZH p0.before) (hL:ZdE F p0 p1=some r):
 WR XX 110 #[.agg [.int .i64 p0.qK.qG,.slice Zl p0.qK.Zf.length Zk,.slice ZI p0.before.length ZH].toArray,.agg [.int .i64 p1.kZ,.int .i64 p1.kV,.int .i64 p1.kX,.int .i64 p1.n].toArray] wm h (CP (fun(v:Value) (Gb:List (Ast wm))=>v= .int .i64 r∧Gb= []) [] h):=by
 refine bg Tryz.ntmps110 ZP Z7.nil ?_;intro T hT hS;unfold ZdE at hL;refine r3 ?_;rintro _ h2 ⟨b1,eb1,rfl,hS⟩;refine r1 ?_;rintro _ h4 ⟨b3,eb3,rfl,hS⟩;refine r16 ?_;refine r2 ?_;refine WC.loop (WL.lift hL (fun p s=>match p with | (v8,v12)=>∃ fr6 h5,s= ⟨fr6,[],h5,none⟩∧Sp wm T h [bx wm b3 (cE p1)] h5∧fr6.at 3= .pointer (some ⟨b3,0,none⟩)∧fr6.at 5= .int .i64 v8∧fr6.at 9= .slice ZI p0.before.length ZH∧fr6.at 10= .int .i64 (p0.before.length:Int)∧fr6.at 11= .int .i64 v12) ⟨_,_,rfl,hS.only sl,XZ⟩ ?_);clear hL hS;rintro Za5 ⟨v8,v12⟩ s ZlZ hL ⟨fr6,h5,rfl,hS,e7,e9,e10,e11,e13⟩;dsimp only [Zhk] at hL;refine r6 ?_;refine cn hL ?_ ?_
 ·intro hc hL;refine r2 ?_;refine WC.KO (r:=r) (fun(v18:Int) s=>∃ ZqQ h15,s= ⟨ZqQ,[],h15,none⟩∧Sp wm T h [bx wm b3 (cE p1)] h15∧ZqQ.at 3= .pointer (some ⟨b3,0,none⟩)∧ZqQ.at 5= .int .i64 v18∧ZqQ.at 9= .slice ZI p0.before.length ZH∧ZqQ.at 10= .int .i64 (p0.before.length:Int)∧ZqQ.at 11= .int .i64 v12) (ZeO v12 Za5) ?_ ?_
  ·clear hL hS;rintro v18 s hL ⟨ZqQ,h15,rfl,hS,e17,e19,e20,e21,e22⟩;dsimp only [ZeO] at hL;refine r4 ?_;exact YE.YX (ZlZ _ _ hL ⟨_,_,rfl,hS.only sl,XZ⟩)
  ·skip;refine r3 ?_;obtain⟨x23,ZxQ,hL⟩:=bS hL;obtain⟨b24,o25,_,ZEn,ZsO,ZsM,ZEu⟩:=Sl.at_ Xb ZxQ;refine r1 ?_;refine WO.w gN rfl (Qh Zbu Um (Z4 fh rfl) (At.fz hS.fz ZsM ZsO) (j:=0) rfl rfl (ws:= (cE x23)) rfl) ?_;refine r1 ?_;rintro _ h27 ⟨b26,ZUI,rfl,hS⟩;refine r1 ?_;rintro h28 hS;refine r6 ?_;refine WO.w gN rfl (JS (Z4 (Zi rfl fh) rfl) (Z4 fh rfl) (ZAm (xs:= [.int .i64 p1.kZ,.int .i64 p1.kV,.int .i64 p1.kX,.int .i64 p1.n]) (ys:= [.int .i64 x23.kZ,.int .i64 x23.kV,.int .i64 x23.kX,.int .i64 x23.n]) (ZPh p1 x23) rfl rfl)) ?_;refine r2 ?_;refine cn hL ?_ ?_
   ·intro hc hL;refine r6 ?_;exact Xj.YX _ hL ⟨_,_,rfl,hS.only sl,XZ⟩
   ·intro hc hL;refine r2 ?_;exact Xj.YX _ hL ⟨_,_,rfl,hS.only sl,XZ⟩
 ·intro hc hL;refine r12 ?_;exact rt hL hT hS
theorem ZeN {F h} {p0:QG} {p1:Zd} {Zl Zk ZI ZH} {r} (Zx:Sl Zg h.size h Zl Zk p0.qK.Zf) (Xb:Sl Zu h.size h ZI ZH p0.before) (hL:ZdE F p0 p1=some r):Pure XX 110 #[.agg [.int .i64 p0.qK.qG,.slice Zl p0.qK.Zf.length Zk,.slice ZI p0.before.length ZH].toArray,.agg [.int .i64 p1.kZ,.int .i64 p1.kV,.int .i64 p1.kX,.int .i64 p1.n].toArray] h (.int .i64 r):=
 WR.YR rfl (ZCC (Nat.le_refl _) Zx Xb hL)
theorem ZCB {F wm h} {p0:QG} {p1 p2:Int} {Zl Zk ZI ZH} {r} (ZP:wm <=h.size) (Zx:Sl Zg wm h Zl Zk p0.qK.Zf) (Xb:Sl Zu wm h ZI ZH p0.before) (hL:Zjd F p0 p1 p2=some r):
 WR XX 111 #[.agg [.int .i64 p0.qK.qG,.slice Zl p0.qK.Zf.length Zk,.slice ZI p0.before.length ZH].toArray,.int .i64 p1,.int .i64 p2] wm h (CP (fun(v:Value) (Gb:List (Ast wm))=>v= .bool r∧Gb= []) [] h):=by
 refine bg Tryz.ntmps111 ZP Z7.nil ?_;intro T hT hS;unfold Zjd at hL;refine r3 ?_;rintro _ h2 ⟨b1,eb1,rfl,hS⟩;refine r1 ?_;rintro _ h4 ⟨b3,eb3,rfl,hS⟩;refine r1 ?_;rintro _ h6 ⟨b5,eb5,rfl,hS⟩;refine r7 ?_;refine WO.w gN rfl (KY (Zb lk (Zb lk Zj))) ?_;refine WO.inl gN rfl (YS.fn ZH4 (Zb lk (Zb lk Zj))) (WF.begin (args:= [_,_]) (fn:=Tryz.f129) Kq0 (by exact rfl) Tryz.ntmps129 (by simp) ?_);simp only [ZB,ZK,Nat.reduceAdd];refine r9 ?_;refine WO.Zds (r:=r) (fun(v9:Int) (v:Value) (h7:H)=>v= .int .i64 v9∧Sp wm T h [bx wm b3 [.int .i64 p1],bx wm b5 [.int .i64 p2],bx wm b1 [.int .i64 p0.qK.qG,.slice Zl p0.qK.Zf.length Zk,.slice ZI p0.before.length ZH]] h7) (Zc0) gN rfl (YS.fn ZH2 (Zb lk (Zb lk Zj))) ?_ (WF.begin (args:= [_,_]) (fn:=Tryz.f140) Kq0 (by exact rfl) Tryz.ntmps140 (by simp) ?_)
 ·clear hL hS;rintro v9 v h7 hL ⟨rfl,hS⟩;dsimp only [Zc0] at hL;refine r5 ?_;refine Z8.J4 rfl (ZC lk Zr) ?_;refine r4 ?_;exact rt hL hT hS
 ·skip;simp only [ZB,ZK,Nat.reduceAdd];refine r14 ?_;refine WC.loop (WL.lift hL (fun v15 s=>∃ Zuf h10,s= ⟨Zuf,[],h10,none⟩∧Sp wm T h [bx wm b3 [.int .i64 p1],bx wm b5 [.int .i64 p2],bx wm b1 [.int .i64 p0.qK.qG,.slice Zl p0.qK.Zf.length Zk,.slice ZI p0.before.length ZH]] h10∧Zuf.at 0= .slice ZI p0.before.length ZH∧Zuf.at 1= .func (.func 130) #[] [.pointer (some ⟨b3,0,none⟩),.pointer (some ⟨b5,0,none⟩)].toArray∧Zuf.at 7= .int .i64 (p0.before.length:Int)∧Zuf.at 8= .int .i64 v15) ⟨_,_,rfl,hS.only sl,XZ⟩ ?_);clear hL hS;rintro Zxp v15 s ZBU hL ⟨Zuf,h10,rfl,hS,e12,e13,e14,e16⟩;dsimp only [Zhj] at hL;refine r6 ?_;refine cn hL ?_ ?_
  ·intro hc hL;refine r15 ?_;obtain⟨x18,Zt5,hL⟩:=bS hL;obtain⟨b19,o20,_,ZEp,ZyQ,ZyK,ZOt⟩:=Sl.at_ Xb Zt5;refine r1 ?_;refine WO.w gN rfl (Qh Zbu Um (Z4 fh rfl) (At.fz hS.fz ZyK ZyQ) (j:=0) rfl rfl (ws:= (cE x18)) rfl) ?_;refine WO.inl gN rfl (YS.clo (first:= []) (cap:= [.pointer (some ⟨b3,0,none⟩),.pointer (some ⟨b5,0,none⟩)]) lk ZH3 lks rfl) (WF.begin (args:= [_,_,_]) (fn:=Tryz.f130) Kq0 (by exact rfl) Tryz.ntmps130 (by simp) ?_);simp only [ZB,ZK,Nat.reduceAdd];refine r3 ?_;rintro _ h22 ⟨b21,Z2I,rfl,hS⟩;refine r16 ?_;refine r3 ?_;refine Z8.J4 rfl (ZC lk Zr) ?_;refine r2 ?_;refine cn hL ?_ ?_
   ·intro hc hL;refine r12 ?_;exact Z8.J4 rfl (ZC lk Zr) ⟨_,hL,⟨rfl,hS.only sl⟩⟩
   ·intro hc hL;refine r7 ?_;exact YE.YX (ZBU _ _ hL ⟨_,_,rfl,hS.only sl,XZ⟩)
  ·intro hc hL;refine r11 ?_;exact Z8.J4 rfl (ZC lk Zr) ⟨_,hL,⟨rfl,hS.only sl⟩⟩
theorem Zs2 {F h} {p0:QG} {p1 p2:Int} {Zl Zk ZI ZH} {r} (Zx:Sl Zg h.size h Zl Zk p0.qK.Zf) (Xb:Sl Zu h.size h ZI ZH p0.before) (hL:Zjd F p0 p1 p2=some r):Pure XX 111 #[.agg [.int .i64 p0.qK.qG,.slice Zl p0.qK.Zf.length Zk,.slice ZI p0.before.length ZH].toArray,.int .i64 p1,.int .i64 p2] h (.bool r):=
 WR.YR rfl (ZCB (Nat.le_refl _) Zx Xb hL)
theorem ZCA {F wm h} {p0:QG} {p1:Int} {Zl Zk ZI ZH} {r} (ZP:wm <=h.size) (Zx:Sl Zg wm h Zl Zk p0.qK.Zf) (Xb:Sl Zu wm h ZI ZH p0.before) (hL:ZgF F p0 p1=some r):
 WR XX 112 #[.agg [.int .i64 p0.qK.qG,.slice Zl p0.qK.Zf.length Zk,.slice ZI p0.before.length ZH].toArray,.int .i64 p1] wm h (CP (fun(v:Value) (Gb:List (Ast wm))=>v= .bool r∧Gb= []) [] h):=by
 refine bg Tryz.ntmps112 ZP Z7.nil ?_;intro T hT hS;unfold ZgF at hL;refine r3 ?_;rintro _ h2 ⟨b1,eb1,rfl,hS⟩;refine r7 ?_;refine WO.w gN rfl (UZ Ztg (ZT lk (ZT lk YU)) rfl (cs':= [.int .i64 6,.int .i64 p1,.int .i64 0,.int .i64 0]) rfl) ?_;obtain⟨x3,hx3,hL⟩:=bS hL;refine WO.cp gN rfl (YS.fn Ziz (Zb lk (Zb lk Zj))) (ZeN (p1:= (Zd.mk 6 p1 0 0)) (hS.JD Zx) (hS.JD Xb) hx3) ?_;refine r5 ?_;exact rt hL hT hS
theorem ZmI {F h} {p0:QG} {p1:Int} {Zl Zk ZI ZH} {r} (Zx:Sl Zg h.size h Zl Zk p0.qK.Zf) (Xb:Sl Zu h.size h ZI ZH p0.before) (hL:ZgF F p0 p1=some r):Pure XX 112 #[.agg [.int .i64 p0.qK.qG,.slice Zl p0.qK.Zf.length Zk,.slice ZI p0.before.length ZH].toArray,.int .i64 p1] h (.bool r):=
 WR.YR rfl (ZCA (Nat.le_refl _) Zx Xb hL)
end
end Go.Proofs.YtcnahmgekicbdaaGreat
end
end
