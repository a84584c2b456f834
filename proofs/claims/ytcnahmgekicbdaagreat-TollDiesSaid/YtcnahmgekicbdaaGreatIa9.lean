/- Part 9. -/
import Derived.Test.YtcnahmgekicbdaaGreatIa8
set_option linter.all false
set_option maxHeartbeats 2000000
section
noncomputable section
namespace Go.YN
open Go.Lf
section
variable {X:Ctx} {n wm:Nat} {rd:Option Nat} {ops:Array Oper} {ol:List Oper} {fr:Fr} {ds:List Deferred} {h h0:H} {ty:TypeId} {p:String} {af:Array Edge} {g:Option (Nat×Bool)} {T:Nat ->Prop} {G Gr:List (Ast wm)} {d l df:Nat} {LO:XV} {ps:Array Tmp} {YG bd:Code}
theorem Zno {α β:Type} {body:α ->(α ->Option β) ->Option β} (C:α ->β ->Prop) (hb:∀ next:α ->Option β,(∀ x r,next x=some r ->C x r) ->∀ x r,body x next=some r ->C x r):∀ F x r,loop F body x=some r ->C x r:=by
 intro F
 induction F with
 | zero=>intro x r h;cases h
 | succ F ih=>intro x r h;exact hb _ ih x r h
def dne (c:Code):XV ->XV
 | .loop _ _ fr n ps YG bd df=>.loop .done (some c) fr n ps YG bd df
 | A=>A
def lst (b:Bool) (c:Code) (A:XV):XV:=bif b then dne c A else A
inductive Zte:XX ->Code ->Prop
 | ret:Zte .ret .ret
 | exit (id:Nat):Zte (.exit id) (.exit id)
structure BdS (n lo l:Nat) (fr:Fr) (ps:Array Tmp) (YG bd:Code) (df:Nat) (R:Bool ->H ->Prop) (e:XX) (s:Fs):Prop where
 out:s.h.at l= .loop .busy none fr n ps YG bd df∧
  ((e= .normal∧∀ h',(lo <=l ->Up lo (fun i=>i=l) s.h h') ->h'.at l= .loop .ready none fr n ps YG bd df ->R true h')∨
   (∃ c,Zte e c∧∀ h',(lo <=l ->Up lo (fun i=>i=l) s.h h') ->h'.at l= .loop .done (some c) fr n ps YG bd df ->R false h'))
structure AsS (X:Ctx) (n wm lo l:Nat) (fr:Fr) (ps:Array Tmp) (YG bd:Code) (df:Nat) (R:Bool ->H ->Prop) (e:XX) (s:Fs):Prop where
 out:e= .normal∧s.h.at l= .loop .ready none fr n ps YG bd df∧∀ h1,(lo <=l ->Up lo (fun i=>i=l) s.h h1) ->h1.at l= .loop .busy none fr n ps YG bd df ->WC X n wm (some l) bd ⟨s.fr,s.ds,h1,s.wr⟩ (BdS n lo l fr ps YG bd df R)
theorem Zru.mkS {l:Nat} {args:List Value} {fr fr1:Fr} {ps:Array Tmp} {YG bd:Code} {df:Nat} {R:Bool ->H ->Prop} (lo:Nat) (hat:h.at l= .loop .ready none fr n ps YG bd df) (hw:wm <=l) (hl:Nat.beq args.length ps.toList.length=true) (hs:QI (ps.toList.zip args) n fr=some fr1)
 (k:WC X n wm (some l) YG ⟨fr1,[],h,none⟩ (AsS X n wm lo l fr ps YG bd df R)):Zru X l args.toArray wm h R:=by
 obtain⟨e1,s1,⟨rfl,h1,k1⟩,j1⟩:=k;have o1:(s1.h.at l).own=true:=by rw [h1];rfl
 have s1l:=Ql h1 rfl;obtain⟨e2,s2,⟨h2,k2⟩,j2⟩:=k1 (s1.h.put l (.loop .busy none fr n ps YG bd df)) (fun hl=>Up.put hl o1) (Y4 s1l _);have o2:(s2.h.at l).own=true:=by rw [h2];rfl
 have s2l:=Ql h2 rfl
 have key:∃ b A,R b (s2.h.put l A)∧WV l e2 s2=some (.fin (.ret (.bool b)) (s2.h.put l A)):=by
  rcases k2 with⟨rfl,k2⟩ | ⟨c,hx,k2⟩
  ·refine⟨true,_,k2 _ (fun hl=>Up.put hl o2) (Y4 s2l _),?_⟩;unfold WV;rw [h2]
  ·refine⟨false,_,k2 _ (fun hl=>Up.put hl o2) (Y4 s2l _),?_⟩;unfold WV;rw [h2];cases hx <;> rfl
 obtain⟨b,A,hR,hev⟩:=key;refine⟨b,s2.h.put l A,hR,?_⟩
 classical
 let ih:Jw ->Option Xb:=fun j=>if j= .code YG n wm (some l) ⟨fr1,[],h,none⟩ then some (.code .normal s1) else ZaB (.code bd n wm (some l) {s1 with h:=s1.h.put l (.loop .busy none fr n ps YG bd df)}) (.code e2 s2) j
 have HI:∀ j r,ih j=some r ->Y5 X j r:=by
  intro j r e;dsimp only [ih] at e;split at e
  ·rename_i hj;cases e;rw [hj];exact j1
  ·exact UA (X:=X) j2 j r e
 refine ZaG (C:=cfg X fun _=>false) (ih:=ih) HI ?_;unfold Zdn;rw [hat];have hl':Nat.beq args.toArray.toList.length ps.toList.length=true:=hl;dsimp only;rw [Nm0 hw,hl'];simp only [Bool.and_self,Cq1];have hs':QI (ps.toList.zip args.toArray.toList) n fr=some fr1:=hs;rw [hs'];dsimp only;have i1:ih (.code YG n wm (some l) {fr:=fr1,ds:= [],h:=h})=some (.code .normal s1):=by dsimp only [ih];rw [if_pos rfl]
 rw [i1];show KZ ih l bd n wm .normal s1=_;unfold KZ;dsimp only;rw [h1];dsimp only
 have i2:ih (.code bd n wm (some l) {s1 with h:=s1.h.put l (.loop .busy none fr n ps YG bd df)})=some (.code e2 s2):=by
  dsimp only [ih];split
  ·rename_i hj;exfalso;injection hj with _ _ _ _ hs
   have:({s1 with h:=s1.h.put l (.loop .busy none fr n ps YG bd df)}:Fs).h.at l=h.at l:=by rw [hs]
   dsimp only at this;rw [Y4 s1l,hat] at this;cases this
  ·exact UB _ _
 rw [i2];exact hev
theorem WO.ZKu {Q:XX ->Fs ->Prop} {fo:Operand} {xs:Array Operand} {ts:Array TypeId} {vs:List Value} {n2:Nat} {JM fr1:Fr} {as2 bd2:Code} (hg:Yz ops ⟨some d,.call {callee:= .value fo,args:=xs,argTypes:=ts},ty,p,af,g⟩ fr) (hd:Nat.blt d n=true) (hf:YE fr fo=some (.func (.yield l) #[] #[])) (hx:evs (YE fr) xs.toList=some vs)
 (hS:Sp wm T h0 G h) (pk:Pk G (ob wm l LO) Gr) (hLO:LO= .loop .ready none JM n2 ps as2 bd2 df) (hl:Nat.beq vs.length ps.toList.length=true) (hs:QI (ps.toList.zip vs) n2 JM=some fr1)
 (k:WC X n2 wm (some l) as2 ⟨fr1,[],h,none⟩ (AsS X n2 wm wm l JM ps as2 bd2 df (fun b h'=>WO X n wm rd ops ol ⟨Tr.set fr d (.bool b),ds,h',none⟩ Q))):
 WO X n wm rd ops (⟨some d,.call {callee:= .value fo,args:=xs,argTypes:=ts},ty,p,af,g⟩::ol) ⟨fr,ds,h,none⟩ Q:=by
 obtain⟨h1,h2,h3⟩:=hS.get pk;have hat:=h1.trans hLO;exact WO.yld hg hd hf hx hat (Nb0 hl) (Zru.mkS (lo:=wm) hat h2 hl hs k) fun b h' hk=>hk
theorem AsS.sp {JM:Fr} {R:Bool ->H ->Prop} (hLO:LO= .loop .ready none fr n ps YG bd df) (hS:Sp wm T h0 G h) (pk:Pk G (ob wm l LO) Gr) (k:∀ h1,Sp wm T h0 (ob wm l (bsy LO)::Gr) h1 ->WC X n wm (some l) bd ⟨JM,ds,h1,none⟩ (BdS n wm l fr ps YG bd df R)):AsS X n wm wm l fr ps YG bd df R .normal ⟨JM,ds,h,none⟩:=by
 obtain⟨h1,h2,h3⟩:=hS.get pk;refine⟨⟨rfl,h1.trans hLO,fun h' u e=>k h' ?_⟩⟩;exact hS.one pk (u h2) (fun _ q=>q) ⟨by rw [e,hLO];rfl,h2,by rw [hLO];rfl⟩ fun _ q=>.inl q
theorem BdS.sp {JM:Fr} {R:Bool ->H ->Prop} (hLO:LO= .loop .ready none fr n ps YG bd df) (hS:Sp wm T h0 G h) (pk:Pk G (ob wm l (bsy LO)) Gr) (k:∀ h1,Sp wm T h0 (ob wm l LO::Gr) h1 ->R true h1):BdS n wm l fr ps YG bd df R .normal ⟨JM,ds,h,none⟩:=by
 obtain⟨h1,h2,h3⟩:=hS.get pk;refine⟨⟨h1.trans (by rw [hLO];rfl),.inl ⟨rfl,fun h' u e=>k h' ?_⟩⟩⟩;exact hS.one pk (u h2) (fun _ q=>q) ⟨by rw [e,hLO],h2,by rw [hLO];rfl⟩ fun _ q=>.inl q
theorem BdS.stop {JM:Fr} {R:Bool ->H ->Prop} {e:XX} {c:Code} (hx:Zte e c) (hLO:LO= .loop .ready none fr n ps YG bd df) (hS:Sp wm T h0 G h) (pk:Pk G (ob wm l (bsy LO)) Gr) (k:∀ h1,Sp wm T h0 (ob wm l (lst true c LO)::Gr) h1 ->R false h1):BdS n wm l fr ps YG bd df R e ⟨JM,ds,h,none⟩:=by
 obtain⟨h1,h2,h3⟩:=hS.get pk;refine⟨⟨h1.trans (by rw [hLO];rfl),.inr ⟨c,hx,fun h' u e=>k h' ?_⟩⟩⟩;exact hS.one pk (u h2) (fun _ q=>q) ⟨by rw [e,hLO];rfl,h2,by rw [hLO];rfl⟩ fun _ q=>.inl q
structure RgS (X:Ctx) (wm l:Nat) (fr:Fr) (n:Nat) (ps:Array Tmp) (YG bd:Code) (df:Nat) (ds:List Deferred) (Q:XX ->Fs ->Prop) (h:H):Prop where
 low:wm <=l
 k:(h.at l= .loop .ready none fr n ps YG bd df∧∀ h',Up wm (fun i=>i=l) h h' ->Q .normal ⟨fr,⟨.collected df,#[]⟩::ds,h',none⟩)∨
  (∃ c,h.at l= .loop .done (some c) fr n ps YG bd df∧∀ h',Up wm (fun i=>i=l) h h' ->WC X n wm none c ⟨fr,⟨.collected df,#[]⟩::ds,h',none⟩ Q)
theorem RgS.sp {Q:XX ->Fs ->Prop} (hLO:LO= .loop .ready none fr n ps YG bd df) (hS:Sp wm T h0 G h) (pk:Pk G (ob wm l LO) Gr) (k:∀ h',Sp wm T h0 Gr h' ->Q .normal ⟨fr,⟨.collected df,#[]⟩::ds,h',none⟩):RgS X wm l fr n ps YG bd df ds Q h:=by
 obtain⟨h1,h2,h3⟩:=hS.get pk;refine⟨h2,.inl ⟨h1.trans hLO,fun h' u=>k h' ?_⟩⟩;exact Sp.step (Ga:= [ob wm l LO]) (Gb:= []) (hS.perm pk.perm) u (fun i e=>⟨_,List.mem_singleton.2 rfl,e⟩) Yb.nil fun i ⟨A,m,f⟩=>by simp at m
theorem RgS.stop {Q:XX ->Fs ->Prop} {c:Code} (hLO:LO= .loop .ready none fr n ps YG bd df) (hS:Sp wm T h0 G h) (pk:Pk G (ob wm l (lst true c LO)) Gr) (k:∀ h',Sp wm T h0 Gr h' ->WC X n wm none c ⟨fr,⟨.collected df,#[]⟩::ds,h',none⟩ Q):RgS X wm l fr n ps YG bd df ds Q h:=by
 obtain⟨h1,h2,h3⟩:=hS.get pk;refine⟨h2,.inr ⟨c,h1.trans (by rw [hLO];rfl),fun h' u=>k h' ?_⟩⟩;exact Sp.step (Ga:= [ob wm l (lst true c LO)]) (Gb:= []) (hS.perm pk.perm) u (fun i e=>⟨_,List.mem_singleton.2 rfl,e⟩) Yb.nil fun i ⟨A,m,f⟩=>by simp at m
theorem WC.Zwj {Q:XX ->Fs ->Prop} {gg:Operand} {f:FuncId} {first cap:List Value} (hS:Sp wm T h0 G h) (hg:YE fr gg=some (.func (.func f) first.toArray cap.toArray)) (hf:(X.fns.get f).isSome=true)
 (k:∀ h' l df LO,LO=XV.loop .ready none fr n ps YG bd df ->Sp wm T h0 (ob wm l LO::ob wm df .deferred::G) h' ->WR X f (first ++ ([Value.func (.yield l) #[] #[]] ++ cap)).toArray wm h' (fun _ h2=>RgS X wm l fr n ps YG bd df ds Q h2)):
 WC X n wm none (.rangeFunc gg ps YG bd) ⟨fr,ds,h,none⟩ Q:=by
 have s1:Sp wm T h0 (ob wm h.size .deferred::G) (h.push .deferred):=Zlh rfl hS
 have s2:Sp wm T h0 (ob wm (h.size + 1) (.loop .ready none fr n ps YG bd h.size)::ob wm h.size .deferred::G) ((h.push .deferred).push (.loop .ready none fr n ps YG bd h.size)):=by
  have:=Zlh (A:= .loop .ready none fr n ps YG bd h.size) rfl s1
  rwa [H.size_push] at this
 obtain⟨fn,hf⟩:=Option.isSome_iff_exists.1 hf;obtain⟨e,h3,⟨v,rfl,hr⟩,hj⟩:=k _ _ _ _ rfl s2
 have hac:Ki (cfg X fun _=>false).X ((h.push .deferred).push (.loop .ready none fr n ps YG bd h.size)) (.func (.func f) first.toArray cap.toArray) [Value.func (.yield (h.size + 1)) #[] #[]]=some (.enter f (first ++ ([Value.func (.yield (h.size + 1)) #[] #[]] ++ cap)).toArray,.none):=by
  unfold Ki;have:(cfg X fun _=>false).X.fns.get f=some fn:=hf;dsimp only;rw [this];simp only [List.append_assoc]
 rcases hr.k with⟨hat,hk⟩ | ⟨c,hat,hk⟩
 ·refine⟨.normal,_,hk (h3.put (h.size + 1) (.loop .exhausted none fr n ps YG bd h.size)) (Up.put hr.low (by rw [hat];rfl)),?_⟩;refine X8.2 (WG (C:=cfg X fun _=>false) (ih:=ZaB (.call f _ wm _) (.fin (.ret v) h3)) (UA hj) ?_);show QN (cfg X fun _=>false) _ gg n wm none (h.size + 1) ⟨fr,⟨.collected h.size,#[]⟩::ds,(h.push .deferred).push (.loop .ready none fr n ps YG bd h.size),none⟩=_;unfold QN;dsimp only;rw [hg];dsimp only;rw [hac];dsimp only;unfold U0;rw [UB];dsimp only;rw [hat]
  rfl
 ·obtain⟨e2,s2,hq,hj2⟩:=hk (h3.put (h.size + 1) (.loop .exhausted (some c) fr n ps YG bd h.size)) (Up.put hr.low (by rw [hat];rfl));refine⟨e2,s2,hq,?_⟩
  classical
  let ih:Jw ->Option Xb:=fun j=>if j= .code c n wm none ⟨fr,⟨.collected h.size,#[]⟩::ds,h3.put (h.size + 1) (.loop .exhausted (some c) fr n ps YG bd h.size),none⟩ then some (.code e2 s2) else ZaB (.call f (first ++ ([Value.func (.yield (h.size + 1)) #[] #[]] ++ cap)).toArray wm ((h.push .deferred).push (.loop .ready none fr n ps YG bd h.size))) (.fin (.ret v) h3) j
  have HI:∀ j r,ih j=some r ->Y5 X j r:=by
   intro j r e;dsimp only [ih] at e;split at e
   ·rename_i hj';cases e;rw [hj'];exact hj2
   ·exact UA (X:=X) hj j r e
  refine X8.2 (WG (C:=cfg X fun _=>false) (ih:=ih) HI ?_);show QN (cfg X fun _=>false) _ gg n wm none (h.size + 1) ⟨fr,⟨.collected h.size,#[]⟩::ds,(h.push .deferred).push (.loop .ready none fr n ps YG bd h.size),none⟩=_;unfold QN;dsimp only;rw [hg];dsimp only;rw [hac];dsimp only;unfold U0
  have i1:ih (.call f (first ++ ([Value.func (.yield (h.size + 1)) #[] #[]] ++ cap)).toArray wm ((h.push .deferred).push (.loop .ready none fr n ps YG bd h.size)))=some (.fin (.ret v) h3):=by
   dsimp only [ih];split
   ·rename_i hj';cases hj'
   ·exact UB _ _
  rw [i1];dsimp only;rw [hat];show ih (.code c n wm none _)=_;dsimp only [ih];rw [if_pos rfl]
theorem Znh {κ ν:Type} [DecidableEq κ] {kv:κ ->Value} {vv:ν ->Value} {kt vt:TypeId} {i:Nat} {ll:List (κ×ν)} {t:TypeId} {x y z:Operand} {k:κ} {v:ν} (hS:Sp wm T h0 G h) (pk:Pk G (mp wm kv vv (some i) ll) Gr) (K:Zjp X.P kt kv) (hu:X.P.underlying t=some (.map kt vt)) (hx:YE fr x=some (.map (some i))) (hy:YE fr y=some (kv k)) (hz:YE fr z=some (vv v)):
 HU X wm ⟨none,.insert t x y z,ty,p,af,g⟩ fr h (fun j=>j=i) (fun h'=>Sp wm T h0 (mp wm kv vv (some i) (ZnH ll k v)::Gr) h'):=
 ZLf (ty:=ty) (p:=p) (af:=af) (g:=g) hS pk K hu hx hy hz
section
variable {sf:ST} {m:Nat}
theorem WX.Zem {Q:Fr ->H ->Prop} {o:Oper} {c:Bool} (_:Zi ops o fr c) (h1:c=true ->WX X n wm rd ops sf m h (o::ol) fr Q) (h2:c=false ->WX X n wm rd ops sf m h (o::ol) fr Q):WX X n wm rd ops sf m h (o::ol) fr Q:=by
 cases c
 ·exact h2 rfl
 ·exact h1 rfl
theorem Sp.djs {T0:Nat ->Prop} {G Ga Gr:List (Ast wm)} {B:Ast wm} (s:Sp wm T0 h0 G h) (p:Sel G (B::Ga) Gr):∀ x,Qo Ga x ->¬ B.fp x:=fun x ⟨A,hA,fa⟩ fb=>
 (List.pairwise_cons.1 (s.Zhx p).dis).1 A hA x fb fa
theorem WX.J3 {Q:Fr ->H ->Prop} {op:Op} {c:Bool} (hg:Zi ops ⟨some d,op,ty,p,af,g⟩ fr c) (hc:c=false) (hd:Nat.blt d n=true) (k:WX X n wm rd ops sf (m + 1) h ol (Tr.set fr d undef) Q) (hM:okM ops sf m ⟨some d,op,ty,p,af,g⟩=true):WX X n wm rd ops sf m h (⟨some d,op,ty,p,af,g⟩::ol) fr Q:=WX.off (hg.off hc) hd k hM
end
theorem Zs2 {β:Type} {b:Bool} {x:Option β} {r:β} (h:(bif b then none else x)=some r):b=false∧x=some r:=by
 cases b
 ·exact⟨rfl,h⟩
 ·cases h
theorem Ux (b:Bool):b=true∨b=false:=by cases b <;> simp
end
section
def ZPc (L:List Nat):List Deferred:=L.map fun r=>⟨.collected r,#[]⟩
def cds (wm:Nat) (L:List Nat):Ast wm where
 P:=fun h=>(∀ r ∈ L,h.at r= .deferred∧wm <=r)∧L.Nodup
 fp:=fun i=>i ∈ L
 loc:=fun _ k ⟨h1,h2⟩=>⟨fun r hr=>⟨by rw [k r hr];exact(h1 r hr).1,(h1 r hr).2⟩,h2⟩
 own:=fun⟨h1,_⟩ e=>⟨(h1 _ e).2,by rw [(h1 _ e).1];rfl⟩
section
variable {X:Ctx} {n wm:Nat} {G G1 G2 Gr:List (Ast wm)} {h h0:H} {T:Nat ->Prop} {df:Nat} {L:List Nat} {fr:Fr} {ds:List Deferred}
theorem Sp.ZUJ (s:Sp wm T h0 G h):Sp wm T h0 (cds wm []::G) h:=s.add ⟨fun r hr=>(by cases hr),List.nodup_nil⟩ (fun i hi=>(by cases hi))
theorem Sp.ZUI (s:Sp wm T h0 G h) (p:Pk G (ob wm df .deferred) G1) (q:Pk G1 (cds wm L) G2):Sp wm T h0 (cds wm (df::L)::G2) h:=by
 have s:=s.perm (p.perm.trans (List.Perm.cons _ q.perm));have h1:=s.hold.all (ob wm df .deferred) (by simp);have h2:=s.hold.all (cds wm L) (by simp);have d:=s.hold.dis;rw [List.pairwise_cons,List.pairwise_cons] at d;obtain⟨d1,d2,d3⟩:=d;refine⟨s.wl,s.fz,s.keep,⟨fun A m=>?_,List.pairwise_cons.2 ⟨fun B m i f f'=>?_,d3⟩⟩,fun i f=>?_⟩
 ·rcases List.mem_cons.1 m with m | m
  ·rw [m];refine⟨fun r hr=>?_,List.nodup_cons.2 ⟨fun z=>d1 (cds wm L) (by simp) df rfl z,h2.2⟩⟩;rcases List.mem_cons.1 hr with e | e
   ·rw [e];exact⟨h1.1,h1.2.1⟩
   ·exact h2.1 r e
  ·exact s.hold.all A (by simp [m])
 ·rcases List.mem_cons.1 f with e | e
  ·exact d1 B (by simp [m]) i e f'
  ·exact d2 B m i e f'
 ·obtain⟨A,m,f⟩:=f;rcases List.mem_cons.1 m with m | m
  ·rw [m] at f;rcases List.mem_cons.1 f with e | e
   ·exact s.inn i ⟨ob wm df .deferred,by simp,e⟩
   ·exact s.inn i ⟨cds wm L,by simp,e⟩
  ·exact s.inn i ⟨A,by simp [m],f⟩
theorem Q5.Zzu {fn:Func} {R:Ky ->H ->Prop}:∀ {L:List Nat} {G:List (Ast wm)} {h:H} (_:Sp wm T h0 G h) (_:Pk G (cds wm L) Gr) (_:∀ h',Sp wm T h0 Gr h' ->Q5 X fn wm R .ret ⟨fr,ds,h',none⟩),Q5 X fn wm R .ret ⟨fr,ZPc L ++ ds,h,none⟩
 | [],_,h,hS,pk,k=>k h (hS.drop pk)
 | r::L,G,h,hS,pk,k=>by
   obtain⟨h1,h2⟩:=hS.get pk;have hr:=h1 r (by simp);have hn:=List.nodup_cons.1 h2;refine Q5.col wm hr.2 hr.1 hr.2 fun h' u=>?_
   have s:Sp wm T h0 (cds wm L::Gr) h':=Sp.step (Ga:= [cds wm (r::L)]) (Gb:= [cds wm L]) (hS.perm pk.perm) u (fun i e=>⟨_,List.mem_singleton.2 rfl,by rw [e];exact List.mem_cons_self⟩)
    (Yb.one ⟨fun x hx=>⟨by rw [u.keep x (Ql (h1 x (by simp [hx])).1 rfl) (fun e=>hn.1 (e ▸ hx))];exact(h1 x (by simp [hx])).1,(h1 x (by simp [hx])).2⟩,hn.2⟩)
    fun i ⟨A,m,f⟩=>.inl ⟨_,List.mem_singleton.2 rfl,by rw [List.mem_singleton.1 m] at f;exact List.mem_cons_of_mem _ f⟩
   exact Q5.Zzu s .z k
end
end
section
variable {X:Ctx} {n wm wm':Nat} {rd:Option Nat} {ops:Array Oper} {ol:List Oper} {m:Nat} {sf:ST} {fr:Fr} {h h0:H} {ty:TypeId} {p:String} {af:Array Edge} {g:Option (Nat×Bool)} {T:Nat ->Prop} {G Gr:List (Ast wm)} {d:Nat}
theorem ZVQ {a b:Bool} (ha:a=true) (h:(a && b)=false):b=false:=by cases a <;> simp_all
section
variable {α:Type} {e:Ua α} {a a1 a2:Option Addr} {nn c n1 c1 n2 c2:Nat} {ps:Nat ->Option Addr×Nat×Nat} {xs:List (List α)}
theorem Sp.ZLm {x1 x2:List α} (s:Sp wm T h0 G h) (pk:Pk G (ow wm (Zlc 1 Nat.one_pos) a nn c [⟨[.slice a1 n1 c1],rfl,rfl⟩,⟨[.slice a2 n2 c2],rfl,rfl⟩]) Gr) (k1:n1=x1.length) (s1:Sl e h.size h a1 c1 x1) (k2:n2=x2.length) (s2:Sl e h.size h a2 c2 x2):Sl (X0 e) h.size h a c [x1,x2]:=by
 obtain⟨h1,so⟩:=s.get pk;have hm:=so.max;have hc:=so.cap;refine⟨hm,hc,so.nl,.inr ?_⟩;rcases so.mem with⟨_,_,q⟩ | ⟨i,o,cs,q1,q2,q3,q4,q5,q6⟩
 ·cases q
 ·refine⟨i,o,cs,true,_,q1,q3,.inl (Ql q3 rfl),⟨q6.len,fun k x hk=>?_⟩⟩
  match k with
  | 0=>
    obtain⟨_,g1,_⟩:=q6.get 0 _ rfl;simp at hk;subst hk;exact⟨(a1,c1),by rw [k1] at g1;exact g1,s1⟩
  | 1=>
    obtain⟨_,g1,_⟩:=q6.get 1 _ rfl;simp at hk;subst hk;exact⟨(a2,c2),by rw [k2] at g1;exact g1,s2⟩
  | k + 2=>simp at hk
end
section
variable {α:Type} {e:Ua α} {t el:TypeId} {x:Operand} {a:Option Addr} {nn c:Nat} {xs zs:List α} {a1:Int}
theorem Qd.cases {α:Type} {e:Ua α} {a:Option Addr} {c:Nat} {xs:List α} (s:Qd e wm wm' h a c xs):(a=none∧c=0∧xs= [])∨∃ q,a=some q:=by
 rcases s.mem with⟨h1,h2,h3⟩ | ⟨i,o,cs,h1,_⟩
 ·exact .inl ⟨h1,h2,h3⟩
 ·exact .inr ⟨_,h1⟩
theorem ZuJ {P:Program} {t:TypeId} {x y:Operand} {k k':IntKind} {a b c:Int} (hb:0 <=b) (hc:c=a.fdiv (2 ^ (min b.toNat k.bits))):JJ P .shr t x y (.int k a) (.int k' b)=some (.val (.int k c),.none):=by
 have hp:(plain (.int k a) && plain (.int k' b))=true:=rfl;unfold JJ;rw [hp,Cq1]
 have e1:binOp .shr t (.int k a) (.int k' b)=pure (.int k c):=by
  show Op.shift .shr k a k' b=_;unfold Op.shift;rw [if_neg (by omega),hc]
 have hg:(do eqGuard .shr t x y (.int k a) (.int k' b);binOp .shr t (.int k a) (.int k' b):Sem Value)=pure (.int k c):=by
  rw [e1];rfl
 rw [hg];rfl
theorem ZuK {P:Program} {t:TypeId} {x y:Operand} {a:Int}:JJ P .shr t x y (.int .u64 a) (.int .u64 1)=some (.val (.int .u64 (a / 2)),.none):=
 ZuJ (by decide) (by
  show a / 2=a.fdiv 2;rw [Int.fdiv_eq_ediv_of_nonneg a (by decide)])
theorem ZFq {lo:Operand} {kk:IntKind} (so:Sl e wm' h a c xs) (hev:c % 2=0) (hn:nn=xs.length) (hu:X.P.underlying t=some (.slice el)) (hs:YA X.P el=some e.sz) (hx:YE fr x=some (.slice a nn c))
 (hlo:YE fr lo=some (.int kk a1)) (hz:slL xs a1 xs.length=some zs):
 HE X ⟨some d,.slice t x (some lo) none none,ty,p,af,g⟩ fr h (fun v=>∃ a' c',v= .slice a' zs.length c'∧Zo9 e a c xs a' c' zs):=by
 obtain⟨l,k,rfl,hk,hlk,hkx,rfl⟩:=KP hz;have hk:k=xs.length:=by omega
 subst hk hn;have hlen:((xs.take xs.length).drop l).length=xs.length - l:=by rw [List.length_drop,List.length_take];omega
 have e1:∀ q,obN (some (.int kk (l:Int))) q=some l:=fun q=>rfl
 have e2:obN none xs.length=some xs.length:=rfl;have hcap:=so.cap;rcases so.nl with⟨rfl,rfl⟩ | ⟨rfl,rfl⟩ | ⟨i,o,rfl⟩
 ·have hx0:xs= []:=List.length_eq_zero_iff.1 (by omega);subst hx0;have hl0:l=0:=by simpa using hlk
  subst hl0;refine⟨.slice none 0 0,Je hx (XM hlo) rfl rfl ?_,none,0,rfl,Zho rfl⟩
  have:aslice X.P h t (.slice none 0 0) (some (.int kk ((0:Nat):Int))) none none=some (.slice none 0 0):=by
   unfold aslice;simp only [hu,hs]
   rfl
  exact this
 ·have hx0:xs= []:=List.length_eq_zero_iff.1 (by omega);subst hx0;have hl0:l=0:=by simpa using hlk
  subst hl0;refine⟨.slice (some ⟨0,0,some 0⟩) 0 0,Je hx (XM hlo) rfl rfl ?_,_,0,rfl,Zho rfl⟩
  have:aslice X.P h t (.slice (some ⟨0,0,some 0⟩) 0 0) (some (.int kk ((0:Nat):Int))) none none=some (.slice (some ⟨0,0,some 0⟩) 0 0):=by
   unfold aslice;simp only [hu,hs]
   rfl
  exact this
 ·have hb:Nat.beq (c % 2) 0=true:=by rw [hev];rfl
  have hd:(Nat.ble l xs.length && Nat.ble xs.length (c / 2))=true:=by rw [Nm0 hlk,Nm0 hcap];rfl
  refine⟨.slice (some ⟨i,bif Nat.beq (c / 2) l then o else o + l * e.sz,none⟩) (xs.length - l) (2 * (c / 2 - l)),Je hx (XM hlo) rfl rfl ?_,_,_,by rw [hlen],ZhQ hlk (Nat.le_refl _) ?_⟩
  ·unfold aslice;simp only [hu,hs,e1,e2,hd,hb,Cq1]
  ·cases hcl:Nat.beq (c / 2) l with
   | true=>right;have:=Nb0 hcl;exact⟨rfl,this,by omega⟩
   | false=>left;exact⟨rfl,by omega⟩
end
end
end Go.YN
end
end
section
set_option maxRecDepth 100000
noncomputable section
namespace Go.Proofs.YtcnahmgekicbdaaGreat
section
structure ZQ where
 at_:Int
 UE:Int
 deriving DecidableEq,Inhabited
structure Zb where
 qG:Int
 Zf:(List ZQ)
 deriving DecidableEq,Inhabited
structure Zg where
 kZ:Int
 kV:Int
 kX:Int
 n:Int
 deriving DecidableEq,Inhabited
structure Zd where
 kW:Int
 kV:Int
 kX:Int
 n:Int
 qX:(List Int)
 deriving DecidableEq,Inhabited
structure Zn where
 ZV:Int
 kG:(List Zd)
 deriving DecidableEq,Inhabited
structure Zh where
 qV:(List Int)
 qX:(List (List Int))
 qZ:(List (List Int))
 Zm:(List (List Int))
 Zu:(List (List Zd))
 kQ:(List Zn)
 kK:Int
 deriving DecidableEq,Inhabited
structure ZC where
 Za:Zh
 qK:Zb
 kU:(List Zg)
 deriving DecidableEq,Inhabited
structure ZE where
 act:Int
 a:Int
 b:Int
 deriving DecidableEq,Inhabited
structure Ztg where
 e0:Int
 e1:Int
 deriving DecidableEq,Inhabited
def ZIP:Option Bool:=some true
def Zoj (p0:List Int) (k:Int) (p2:List Int):Option (List Int):=bif Nat.ble p0.length 1000000 && (Nat.beq p2.length 1 && (decide (0 <=k) && decide (k <= (p0.length:Int)))) then some (p0.take k.toNat ++ p2 ++ p0.drop k.toNat) else none
end
section
open Go.YN Go.Lf
def Zj:Ua ZQ where
 sz:=2
 pos:=by decide
 KJ:=Unit
 dflt:= ()
 sh:=fun _ x=>[.int .i64 x.at_,.int .i64 x.UE]
 len:=fun _ _=>rfl
 one:=fun _ _=>rfl
 F:=fun _ _ _ _=>True
 mono:=fun _ x=>x
 up:=fun _ x=>x
def ZpC:Ua Zb where
 sz:=2
 pos:=by decide
 KJ:= (Option Addr×Nat)
 dflt:= (none,0)
 sh:=fun p x=>[.int .i64 x.qG,.slice p.1 x.Zf.length p.2]
 len:=fun _ _=>rfl
 one:=fun _ _=>rfl
 F:=fun wm h p x=>Sl Zj wm h p.1 p.2 x.Zf
 mono:=fun f x=>x.mono f
 up:=fun f x=>x.up f
def Zy:Ua Zg where
 sz:=4
 pos:=by decide
 KJ:=Unit
 dflt:= ()
 sh:=fun _ x=>[.int .i64 x.kZ,.int .i64 x.kV,.int .i64 x.kX,.int .i64 x.n]
 len:=fun _ _=>rfl
 one:=fun _ _=>rfl
 F:=fun _ _ _ _=>True
 mono:=fun _ x=>x
 up:=fun _ x=>x
def Zk:Ua Zd where
 sz:=5
 pos:=by decide
 KJ:= (Option Addr×Nat)
 dflt:= (none,0)
 sh:=fun p x=>[.int .i64 x.kW,.int .i64 x.kV,.int .i64 x.kX,.int .i64 x.n,.slice p.1 x.qX.length p.2]
 len:=fun _ _=>rfl
 one:=fun _ _=>rfl
 F:=fun wm h p x=>Sl (Zl .i64) wm h p.1 p.2 x.qX
 mono:=fun f x=>x.mono f
 up:=fun f x=>x.up f
def KC:Ua Zn where
 sz:=2
 pos:=by decide
 KJ:= (Option Addr×Nat)
 dflt:= (none,0)
 sh:=fun p x=>[.int .i64 x.ZV,.slice p.1 x.kG.length p.2]
 len:=fun _ _=>rfl
 one:=fun _ _=>rfl
 F:=fun wm h p x=>Sl Zk wm h p.1 p.2 x.kG
 mono:=fun f x=>x.mono f
 up:=fun f x=>x.up f
def JZ:Ua ZE where
 sz:=3
 pos:=by decide
 KJ:=Unit
 dflt:= ()
 sh:=fun _ x=>[.int .i64 x.act,.int .i64 x.a,.int .i64 x.b]
 len:=fun _ _=>rfl
 one:=fun _ _=>rfl
 F:=fun _ _ _ _=>True
 mono:=fun _ x=>x
 up:=fun _ x=>x
def Zw:Ne Zn where
 sz:=2
 pos:=by decide
 KJ:=Option Addr×Nat×Nat
 dflt:= (none,0,0)
 sh:=fun p x=>[.int .i64 x.ZV,.slice p.1 p.2.1 p.2.2]
 len:=fun _ _=>rfl
 one:=fun _ _=>rfl
 «YG»:=fun wm p x=>[ow wm Zk p.1 p.2.1 p.2.2 x.kG]
theorem ZeU {wm:Nat}:(∀ h:H,Yb (Zw.YG wm (none,0,0) (default:Zn)) h)∧∀ i,¬ Qo (Zw.YG wm (none,0,0) (default:Zn)) i:=ZpU (e:=Zk)
theorem _root_.Go.YN.Sp.Zbn {wm:Nat} {h h0:H} {T:Nat ->Prop} {G Gr:List (Ast wm)} {a a1:Option Addr} {nn c n1 c1:Nat} {ps:Nat ->Option Addr×Nat×Nat} {xs:List Zn} {k:Int} {x:Zn} (s:Sp wm T h0 G h) (pk:Pk G (Z9 wm Zw a nn c ps xs) Gr) (hk:ZM xs k=some x) (hp:ps k.toNat= (a1,n1,c1)):Sp wm T h0 (nsh wm Zw a nn c ps xs k.toNat [.int .i64 x.ZV,.slice a1 n1 c1]::ow wm Zk a1 n1 c1 x.kG::Gr) h:=by
 have:=s.take pk hk;rw [hp] at this;exact this
theorem _root_.Go.YN.Sp.ZbE {wm:Nat} {h h0:H} {T:Nat ->Prop} {G Gr:List (Ast wm)} {a a1:Option Addr} {nn c n1 c1:Nat} {ps:Nat ->Option Addr×Nat×Nat} {xs:List Zn} {k:Int} {x0:Zn} {v0:Int} {y:List Zd} (s:Sp wm T h0 G h) (sel:Sel G [nsh wm Zw a nn c ps xs k.toNat [.int .i64 v0,.slice a1 n1 c1],ow wm Zk a1 n1 c1 y] Gr) (hk:ZM xs k=some x0):∃ ps':Nat ->Option Addr×Nat×Nat,ps' k.toNat= (a1,n1,c1)∧Sp wm T h0 (Z9 wm Zw a nn c ps' (YU xs k ⟨v0,y⟩)::Gr) h:=
 ⟨_,upd_same ps k.toNat (a1,n1,c1),Sp.fill (e:=Zw) (a1,n1,c1) ⟨v0,y⟩ s hk sel rfl⟩
theorem _root_.Go.YN.Sp.ZbC {wm:Nat} {h h0:H} {T:Nat ->Prop} {G Gr:List (Ast wm)} {a a1:Option Addr} {nn c n1 c1:Nat} {ps:Nat ->Option Addr×Nat×Nat} {xs:List Zn} {k:Int} {x:Zn} (s:Sp wm T h0 G h) (pk:Pk G (Z9 wm Zw a nn c ps xs) Gr) (hk:ZM xs k=some x) (hp:ps k.toNat= (a1,n1,c1)):n1=x.kG.length∧Src Zk wm h a1 c1 x.kG∧Sl Zk h.size h a1 c1 x.kG:=by
 have:= (s.inN pk hk hp).get (A:=ow wm Zk a1 n1 c1 x.kG) .z;exact⟨this.1,this.2.src,this.2.src.sl s.hw⟩
theorem _root_.Go.YN.Sp.ZbN {wm:Nat} {h h0:H} {T:Nat ->Prop} {G Gr:List (Ast wm)} {a:Option Addr} {nn c:Nat} {ps:Nat ->Option Addr×Nat×Nat} {xs:List Zn} {k:Int} {x:Zn} (s:Sp wm T h0 G h) (pk:Pk G (Z9 wm Zw a nn c ps xs) Gr) (hk:ZM xs k=some x):∃ b o a1 n1 c1,ps k.toNat= (a1,n1,c1)∧a=some ⟨b,o,none⟩∧At h b (o + k.toNat * 2) [.int .i64 x.ZV,.slice a1 n1 c1]:=by
 obtain⟨b,o,⟨a1,n1,c1⟩,h1,h2,h3⟩:=s.atN pk hk;exact⟨b,o,a1,n1,c1,h1,h2,h3⟩
theorem Ya:NeR Zw KC:= ⟨rfl,fun{wm h p x} hw hh=>by
 obtain⟨h1,h2⟩:=hh.get (A:=ow wm Zk p.1 p.2.1 p.2.2 x.kG) .z;exact⟨(p.1,p.2.2),by show([.int .i64 x.ZV,.slice p.1 p.2.1 p.2.2]:List Value)= [.int .i64 x.ZV,.slice p.1 x.kG.length p.2.2];rw [h1],h2.src.sl hw⟩⟩
theorem ZK3:XX.P.underlying 3=some (.int .i64):=Kq0
theorem ZQK:XX.P.underlying 4=some .bool:=Kq0
theorem ZK5:XX.P.underlying 22=some (.slice 66):=Kq0
theorem ZK4:XX.P.underlying 25=some (.slice 74):=Kq0
theorem ZvN:XX.P.underlying 28=some (.slice 71):=Kq0
theorem Zac:XX.P.underlying 29=some (.slice 35):=Kq0
theorem ZrC:XX.P.underlying 30=some (.slice 69):=Kq0
theorem ZvM:XX.P.underlying 31=some (.slice 99):=Kq0
theorem ZDx:XX.P.underlying 34=some (.slice 64):=Kq0
theorem Ug:XX.P.underlying 35=some (.slice 3):=Kq0
theorem ZrB:XX.P.underlying 60=some (.slice 4):=Kq0
theorem UO:XX.P.underlying 69=some (.slice 121):=Kq0
theorem ZvO:XX.P.underlying 132=some (.int .u64):=Kq0
theorem Zay:XX.P.underlying 138=some (.map 119 124):=Kq0
theorem Zfw:Y6 XX.P 3=some false:=Kq0
theorem ZDe:Y6 XX.P 4=some false:=Kq0
theorem Ztc:Y6 XX.P 22=some false:=Kq0
theorem Ztb:Y6 XX.P 24=some true:=Kq0
theorem ZEU:Y6 XX.P 28=some false:=Kq0
theorem Zo1:Y6 XX.P 29=some false:=Kq0
theorem Zz5:Y6 XX.P 30=some false:=Kq0
theorem ZET:Y6 XX.P 31=some false:=Kq0
theorem Zfv:Y6 XX.P 33=some true:=Kq0
theorem Zz4:Y6 XX.P 34=some false:=Kq0
theorem Zta:Y6 XX.P 35=some false:=Kq0
theorem Zo0:Y6 XX.P 36=some false:=Kq0
theorem ZPJ:Y6 XX.P 62=some false:=Kq0
theorem Zs9:Y6 XX.P 64=some true:=Kq0
theorem ZoZ:Y6 XX.P 66=some true:=Kq0
theorem Zz3:Y6 XX.P 69=some false:=Kq0
theorem ZES:Y6 XX.P 71=some false:=Kq0
theorem ZPI:Y6 XX.P 72=some false:=Kq0
theorem ZER:Y6 XX.P 74=some true:=Kq0
theorem ZEQ:Y6 XX.P 87=some false:=Kq0
theorem ZEP:Y6 XX.P 99=some true:=Kq0
theorem ZJG:Y6 XX.P 106=some true:=Kq0
theorem ZJF:Y6 XX.P 112=some false:=Kq0
theorem ZJE:Y6 XX.P 119=some false:=Kq0
theorem ZmH:Y6 XX.P 121=some true:=Kq0
theorem Uh:YA XX.P 3=some 1:=Kq0
theorem Znc:YA XX.P 4=some 1:=Kq0
theorem Zk7:YA XX.P 24=some 2:=Kq0
theorem ZFn:YA XX.P 28=some 1:=Kq0
theorem Zv1:YA XX.P 29=some 1:=Kq0
theorem ZFm:YA XX.P 30=some 1:=Kq0
theorem ZFl:YA XX.P 31=some 1:=Kq0
theorem KQ:YA XX.P 33=some 7:=Kq0
theorem ZFk:YA XX.P 34=some 1:=Kq0
theorem Jb:YA XX.P 35=some 1:=Kq0
theorem ZFj:YA XX.P 36=some 1:=Kq0
theorem ZFi:YA XX.P 62=some 1:=Kq0
theorem ZhV:YA XX.P 64=some 4:=Kq0
theorem ZhU:YA XX.P 66=some 2:=Kq0
theorem Zcp:YA XX.P 69=some 1:=Kq0
theorem ZhT:YA XX.P 71=some 1:=Kq0
theorem Zv0:YA XX.P 74=some 3:=Kq0
theorem Zk6:YA XX.P 99=some 2:=Kq0
theorem ZA7:YA XX.P 106=some 3:=Kq0
theorem ZA6:YA XX.P 112=some 1:=Kq0
theorem Q6:YA XX.P 121=some 5:=Kq0
theorem ZlJ:ZI XX.P 24 0 0:=ZI.of Kq0
theorem ZCj:ZI XX.P 24 1 1:=ZI.of Kq0
theorem ZCi:ZI XX.P 33 0 0:=ZI.of Kq0
theorem ZsC:ZI XX.P 33 1 1:=ZI.of Kq0
theorem ZCh:ZI XX.P 33 2 2:=ZI.of Kq0
theorem ZCg:ZI XX.P 33 3 3:=ZI.of Kq0
theorem ZCf:ZI XX.P 33 4 4:=ZI.of Kq0
theorem ZsB:ZI XX.P 33 5 5:=ZI.of Kq0
theorem ZCe:ZI XX.P 33 6 6:=ZI.of Kq0
theorem ZCd:ZI XX.P 64 0 0:=ZI.of Kq0
theorem ZCc:ZI XX.P 64 1 1:=ZI.of Kq0
theorem ZCb:ZI XX.P 64 2 2:=ZI.of Kq0
theorem ZCa:ZI XX.P 64 3 3:=ZI.of Kq0
theorem ZB9:ZI XX.P 66 0 0:=ZI.of Kq0
theorem ZB8:ZI XX.P 66 1 1:=ZI.of Kq0
theorem ZB7:ZI XX.P 74 0 0:=ZI.of Kq0
theorem ZB6:ZI XX.P 74 1 1:=ZI.of Kq0
theorem ZB5:ZI XX.P 74 2 2:=ZI.of Kq0
theorem ZlI:ZI XX.P 91 0 0:=ZI.of Kq0
theorem ZlH:ZI XX.P 91 1 7:=ZI.of Kq0
theorem ZB4:ZI XX.P 91 2 9:=ZI.of Kq0
theorem ZB3:ZI XX.P 96 0 0:=ZI.of Kq0
theorem ZB2:ZI XX.P 96 1 2:=ZI.of Kq0
theorem ZB1:ZI XX.P 96 2 9:=ZI.of Kq0
theorem ZsA:ZI XX.P 99 0 0:=ZI.of Kq0
theorem ZlG:ZI XX.P 99 1 1:=ZI.of Kq0
theorem ZyN:ZI XX.P 106 0 0:=ZI.of Kq0
theorem ZyM:ZI XX.P 106 1 2:=ZI.of Kq0
theorem ZyL:ZI XX.P 121 0 0:=ZI.of Kq0
theorem ZyK:ZI XX.P 121 1 1:=ZI.of Kq0
theorem ZyJ:ZI XX.P 121 2 2:=ZI.of Kq0
theorem ZyI:ZI XX.P 121 3 3:=ZI.of Kq0
theorem Zn7:ZI XX.P 121 4 4:=ZI.of Kq0
theorem ZdJ:Xi XX.P 3=some (.int .i64 0):=Kq0
theorem ZDv:Xi XX.P 4=some (.bool false):=Kq0
theorem Zvk:Xi XX.P 33=some (.agg #[.slice none 0 0,.slice none 0 0,.slice none 0 0,.slice none 0 0,.slice none 0 0,.slice none 0 0,.int .i64 0]):=Kq0
theorem Zeb:Xi XX.P 35=some (.slice none 0 0):=Kq0
theorem ZE6:Xi XX.P 36=some (.int .i64 0):=Kq0
theorem Zpg:Xi XX.P 64=some (.agg #[.int .i64 0,.int .i64 0,.int .i64 0,.int .i64 0]):=Kq0
theorem ZE5:Xi XX.P 66=some (.agg #[.int .i64 0,.int .i64 0]):=Kq0
theorem ZE4:Xi XX.P 67=some (.agg #[.int .i64 0,.int .i64 0]):=Kq0
theorem Zvj:Xi XX.P 69=some (.slice none 0 0):=Kq0
theorem Zvi:Xi XX.P 71=some (.int .i64 0):=Kq0
theorem Zvh:Xi XX.P 74=some (.agg #[.int .i64 0,.int .i64 0,.int .i64 0]):=Kq0
theorem Zvg:Xi XX.P 91=some (.agg #[.slice none 0 0,.slice none 0 0,.slice none 0 0,.slice none 0 0,.slice none 0 0,.slice none 0 0,.int .i64 0,.int .i64 0,.slice none 0 0,.slice none 0 0]):=Kq0
theorem ZE3:Xi XX.P 96=some (.agg #[.int .i64 0,.slice none 0 0,.slice none 0 0,.slice none 0 0,.slice none 0 0,.slice none 0 0,.slice none 0 0,.slice none 0 0,.int .i64 0,.slice none 0 0]):=Kq0
theorem Zvf:Xi XX.P 99=some (.agg #[.int .i64 0,.slice none 0 0]):=Kq0
theorem ZAF:Xi XX.P 106=some (.agg #[.int .i64 0,.slice none 0 0,.slice none 0 0]):=Kq0
theorem ZAE:Xi XX.P 112=some (.nilFunc):=Kq0
theorem Zbj:Xi XX.P 121=some (.agg #[.int .i64 0,.int .i64 0,.int .i64 0,.int .i64 0,.slice none 0 0]):=Kq0
theorem Zc5:Xi XX.P 124=some (.nilFunc):=Kq0
theorem ZzK:Zdz XX.P 33 [.slice none 0 0,.slice none 0 0,.slice none 0 0,.slice none 0 0,.slice none 0 0,.slice none 0 0,.int .i64 0] [(0,1),(1,1),(2,1),(3,1),(4,1),(5,1),(6,1)]:= ⟨_,_,Zvk,rfl,Tryz.underlying33,by kernel_rfl⟩
theorem ZPq:Zdz XX.P 64 [.int .i64 0,.int .i64 0,.int .i64 0,.int .i64 0] [(0,1),(1,1),(2,1),(3,1)]:= ⟨_,_,Zpg,rfl,Tryz.underlying64,by kernel_rfl⟩
theorem ZPp:Zdz XX.P 74 [.int .i64 0,.int .i64 0,.int .i64 0] [(0,1),(1,1),(2,1)]:= ⟨_,_,Zvh,rfl,Tryz.underlying74,by kernel_rfl⟩
theorem ZPo:Zdz XX.P 91 [.slice none 0 0,.slice none 0 0,.slice none 0 0,.slice none 0 0,.slice none 0 0,.slice none 0 0,.int .i64 0,.int .i64 0,.slice none 0 0,.slice none 0 0] [(0,7),(7,2),(9,1)]:= ⟨_,_,Zvg,rfl,Tryz.underlying91,by kernel_rfl⟩
theorem Zjc:Zdz XX.P 121 [.int .i64 0,.int .i64 0,.int .i64 0,.int .i64 0,.slice none 0 0] [(0,1),(1,1),(2,1),(3,1),(4,1)]:= ⟨_,_,Zbj,rfl,Tryz.underlying121,by kernel_rfl⟩
theorem ZzW:Zea XX.P #[28,28] 1 8:= ⟨71,.int .i64 0,by kernel_rfl⟩
theorem Zji:Zea XX.P #[29,29] 1 24:= ⟨35,.slice none 0 0,by kernel_rfl⟩
theorem ZzV:Zea XX.P #[34,34] 4 32:= ⟨64,.agg #[.int .i64 0,.int .i64 0,.int .i64 0,.int .i64 0],by kernel_rfl⟩
theorem Zbc:Zea XX.P #[35,35] 1 8:= ⟨3,.int .i64 0,by kernel_rfl⟩
theorem Zfs:Zea XX.P #[69,69] 5 56:= ⟨121,.agg #[.int .i64 0,.int .i64 0,.int .i64 0,.int .i64 0,.slice none 0 0],by kernel_rfl⟩
theorem ZaD:Zjp XX.P 119 (Value.int .i64):=Zjp.int Kq0
theorem ZPn:K5 XX.P 3=some 8:=Kq0
theorem ZPm:K5 XX.P 4=some 1:=Kq0
theorem ZJu:K5 XX.P 69=some 24:=Kq0
theorem ZJt:K5 XX.P 99=some 32:=Kq0
theorem ZNG:(XX.fns.get 14).isSome=true:=Kq0
theorem ZEk:(XX.fns.get 15).isSome=true:=Kq0
theorem ZNF:(XX.fns.get 16).isSome=true:=Kq0
theorem ZNE:(XX.fns.get 17).isSome=true:=Kq0
theorem ZND:(XX.fns.get 23).isSome=true:=Kq0
theorem ZNC:(XX.fns.get 24).isSome=true:=Kq0
theorem ZNB:(XX.fns.get 29).isSome=true:=Kq0
theorem ZNA:(XX.fns.get 30).isSome=true:=Kq0
theorem ZEj:(XX.fns.get 31).isSome=true:=Kq0
theorem ZEi:(XX.fns.get 32).isSome=true:=Kq0
theorem Zyj:(XX.fns.get 33).isSome=true:=Kq0
theorem ZEh:(XX.fns.get 34).isSome=true:=Kq0
theorem ZNz:(XX.fns.get 38).isSome=true:=Kq0
theorem ZEg:(XX.fns.get 41).isSome=true:=Kq0
theorem ZEf:(XX.fns.get 42).isSome=true:=Kq0
theorem ZNy:(XX.fns.get 46).isSome=true:=Kq0
theorem ZNx:(XX.fns.get 47).isSome=true:=Kq0
theorem ZEe:(XX.fns.get 48).isSome=true:=Kq0
theorem Zyi:(XX.fns.get 54).isSome=true:=Kq0
theorem Zsw:(XX.fns.get 55).isSome=true:=Kq0
theorem ZEd:(XX.fns.get 57).isSome=true:=Kq0
theorem ZNw:(XX.fns.get 60).isSome=true:=Kq0
theorem ZNv:(XX.fns.get 68).isSome=true:=Kq0
theorem Zkt:(XX.fns.get 69).isSome=true:=Kq0
theorem ZEc:(XX.fns.get 70).isSome=true:=Kq0
theorem ZEb:(XX.fns.get 71).isSome=true:=Kq0
theorem ZEa:(XX.fns.get 72).isSome=true:=Kq0
theorem Zyh:(XX.fns.get 73).isSome=true:=Kq0
theorem ZNu:(XX.fns.get 74).isSome=true:=Kq0
theorem ZNt:(XX.fns.get 75).isSome=true:=Kq0
theorem Zsv:(XX.fns.get 84).isSome=true:=Kq0
theorem ZD9:(XX.fns.get 85).isSome=true:=Kq0
theorem Zn0:(XX.fns.get 89).isSome=true:=Kq0
theorem Ul:(XX.fns.get 94).isSome=true:=Kq0
theorem ZnZ:(XX.fns.get 95).isSome=true:=Kq0
theorem ZD8:(XX.fns.get 96).isSome=true:=Kq0
theorem ZD7:(XX.fns.get 97).isSome=true:=Kq0
theorem Zyg:(XX.fns.get 98).isSome=true:=Kq0
theorem Zyf:(XX.fns.get 99).isSome=true:=Kq0
theorem ZHY:(XX.fns.get 100).isSome=true:=Kq0
theorem ZHX:(XX.fns.get 101).isSome=true:=Kq0
theorem ZHW:(XX.fns.get 102).isSome=true:=Kq0
theorem ZHV:(XX.fns.get 103).isSome=true:=Kq0
theorem Zqm:(XX.fns.get 104).isSome=true:=Kq0
theorem ZHU:(XX.fns.get 105).isSome=true:=Kq0
theorem ZHT:(XX.fns.get 106).isSome=true:=Kq0
theorem ZHS:(XX.fns.get 107).isSome=true:=Kq0
theorem ZHR:(XX.fns.get 108).isSome=true:=Kq0
theorem ZHQ:(XX.fns.get 119).isSome=true:=Kq0
theorem Zql:(XX.fns.get 125).isSome=true:=Kq0
theorem Zyq:(XX.fns.get 126).isSome=true:=Kq0
theorem ZHP:(XX.fns.get 127).isSome=true:=Kq0
theorem Zyp:(XX.fns.get 128).isSome=true:=Kq0
theorem Zyo:(XX.fns.get 136).isSome=true:=Kq0
theorem Zyn:(XX.fns.get 137).isSome=true:=Kq0
theorem Zym:(XX.fns.get 138).isSome=true:=Kq0
theorem Zyl:(XX.fns.get 139).isSome=true:=Kq0
theorem Zyk:(XX.fns.get 142).isSome=true:=Kq0
end
end Go.Proofs.YtcnahmgekicbdaaGreat
end
end
section
noncomputable section
namespace Go.YN
open Go.Lf
class ZbQ (P:Program) (t:TypeId):Prop where
 out:Y6 P t=some false
class ZmP (P:Program) (t:TypeId):Prop where
 out:Y6 P t=some true
class SzF (P:Program) (t:TypeId) (n:outParam Nat):Prop where
 out:YA P t=some n
class J6 (P:Program) (t:TypeId) (f:Nat) (o:outParam Nat):Prop where
 out:ZI P t f o
class Zhk (P:Program) (t:TypeId) (e:outParam TypeId):Prop where
 out:P.underlying t=some (.slice e)
class ZJ5 (P:Program) (t:TypeId):Prop where
 out:P.underlying t=some .bool
class ZbP (P:Program) (t:TypeId) (v:outParam Value):Prop where
 out:Xi P t=some v
theorem ia {v:Value} (h:JR v=false):JR v=false:=h
theorem W9 {fr:Fr} {t:Nat} {c:Bool} {v:Value} (h:fr.at t=cond c v undef) (ha:JR v=false) (hc:c=true):YE fr (.tmp t)=some v:=Uv h ha hc
section
variable {X:Ctx} {h:H} {fr:Fr} {ty:TypeId} {p':String} {af:Array Edge} {g:Option (Nat×Bool)} {d:Option Tmp} {wm:Nat} {T:Nat ->Prop} {h0:H} {G Gr:List (Ast wm)}
theorem ZPx {x:Operand} {t:TypeId} {f off b o:Nat} [hf:J6 X.P t f off] (hx:YE fr x=some (.pointer (some ⟨b,o,none⟩))):Qi X h (YE fr) ⟨d,.fieldAddr t x f,ty,p',af,g⟩=some (.val (.pointer (some ⟨b,o + off,none⟩)),.none):=Wt hf.out hx
theorem ZVI {x:Operand} {t:TypeId} {b oo:Nat} {vs:List Value} {v:Value} [ht:ZbQ X.P t] (hx:YE fr x=some (.pointer (some ⟨b,oo,none⟩))) (hS:Sp wm T h0 G h) (pp:Pk G (bx wm b vs) Gr) (hv:vs[oo]? =some v):
 Qi X h (YE fr) ⟨d,.load t x,ty,p',af,g⟩=some (.val v,.none):=Qb ht.out hx (hS.Wu pp) (Nat.zero_add _).symm hv
theorem ZPv {x:Operand} {t:TypeId} {b oo sz:Nat} {vs ws:List Value} [ht:ZmP X.P t] [hs:SzF X.P t sz] (hx:YE fr x=some (.pointer (some ⟨b,oo,none⟩))) (hS:Sp wm T h0 G h) (pp:Pk G (bx wm b vs) Gr) (hj:Nat.ble (oo + sz) vs.length=true) (hv:(vs.drop oo).take sz=ws):
 Qi X h (YE fr) ⟨d,.load t x,ty,p',af,g⟩=some (.val (.agg ws.toArray),.none):=Ub ht.out hs.out hx (hS.Wu pp) (Nat.zero_add _).symm hj hv
theorem ZPy {dd:Tmp} {x:Operand} {t:TypeId} {v:Value} {vs:List Value} (hx:YE fr x=some v) (hS:Sp wm T h0 G h) (hv:v.cells.toList=vs):
 HN X wm ⟨some dd,.box t x,ty,p',af,g⟩ fr h (fun v h'=>∃ b,h.size=b∧v= .pointer (some ⟨b,0,none⟩)∧Sp wm T h0 (bx wm b vs::G) h'):=ZLj hS hx hv
theorem ZPz {dd:Tmp} {t:TypeId} {v:Value} {vs:List Value} [hz:ZbP X.P t v] (hS:Sp wm T h0 G h) (hv:v.cells.toList=vs):
 HN X wm ⟨some dd,.alloc t,ty,p',af,g⟩ fr h (fun v h'=>∃ b,h.size=b∧v= .pointer (some ⟨b,0,none⟩)∧Sp wm T h0 (bx wm b vs::G) h'):=ZDD hS hz.out hv
theorem ZVH {x y:Operand} {t:TypeId} {b o sz:Nat} {cs cs' vs:List Value} {v:Value} [hs:SzF X.P t sz] (hx:YE fr x=some (.pointer (some ⟨b,o,none⟩))) (hS:Sp wm T h0 G h) (pk:Pk G (bx wm b cs) Gr) (hy:YE fr y=some v)
 (hvs:v.cells.toList=vs) (hn:Nat.beq vs.length sz=true) (hl:Nat.ble (o + sz) cs.length=true) (hc:vs.all Value.oneCell'=true) (hv:splice cs o vs=cs'):
 HU X wm ⟨none,.store t x y,ty,p',af,g⟩ fr h (fun i=>i=b) (fun h'=>Sp wm T h0 (bx wm b cs'::Gr) h'):=Zwa hS pk hs.out hx hy hvs hn hl hc hv
theorem ZPw {α:Type} {xs:List α} {v:α} {x y:Operand} {t e:TypeId} {sz b o nn c dd:Nat} {a:Option Addr} {k:Int} [hu:Zhk X.P t e] [hs:SzF X.P e sz] (hx:YE fr x=some (.slice a nn c)) (hy:YE fr y=some (.int .i64 k)) (hn:nn=xs.length) (ha:a=some ⟨b,o,none⟩) (hk:ZM xs k=some v):
 Qi X h (YE fr) ⟨some dd,.indexAddr t x y,ty,p',af,g⟩=some (.val (.pointer (some ⟨b,o + k.toNat * sz,none⟩)),.none):=Qt hu.out hs.out hx hy hn ha hk
theorem ZPu {x:Operand} {t:TypeId} {b o oo j:Nat} {vs:List Value} {v:Value} [ht:ZbQ X.P t] (hx:YE fr x=some (.pointer (some ⟨b,oo,none⟩))) (ha:At h b o vs) (ho:oo=o + j) (hv:vs[j]? =some v):
 Qi X h (YE fr) ⟨d,.load t x,ty,p',af,g⟩=some (.val v,.none):=Qb ht.out hx ha ho hv
theorem ZPt {x:Operand} {t e':TypeId} {a:Option Addr} {mm cc dd:Nat} [hu:Zhk X.P t e'] (hx:YE fr x=some (.slice a mm cc)):
 Qi X h (YE fr) ⟨some dd,.call {callee:= .builtin .len,args:=#[x],argTypes:=#[t]},ty,p',af,g⟩=some (.val (.int .i64 (mm:Int)),.none):=Zdv hu.out hx rfl
end
section
variable {X:Ctx} {n wm:Nat} {rd:Option Nat} {ops:Array Oper} {l:List Oper} {fr:Fr} {ds:List Deferred} {h:H} {ty:TypeId} {p:String} {af:Array Edge} {g:Option (Nat×Bool)} {sf:ST} {m:Nat}
theorem WX.w2 {Q:Fr ->H ->Prop} {d:Nat} {op:Op} {v:Value} (hg:Yz ops ⟨some d,op,ty,p,af,g⟩ fr) (hd:Nat.blt d n=true) (hM:okM ops sf m ⟨some d,op,ty,p,af,g⟩=true) (ha:Qi X h (YE fr) ⟨some d,op,ty,p,af,g⟩=some (.val v,.none)) (k:WX X n wm rd ops sf (m + 1) h l (Tr.set fr d v) Q):
 WX X n wm rd ops sf m h (⟨some d,op,ty,p,af,g⟩::l) fr Q:=WX.w hg hd ha k hM
theorem WX.gv2 {Q:Fr ->H ->Prop} {d:Nat} {op:Op} {c:Bool} {v:Value} (hg:Zi ops ⟨some d,op,ty,p,af,g⟩ fr c) (hd:Nat.blt d n=true) (hM:okM ops sf m ⟨some d,op,ty,p,af,g⟩=true) (ha:c=true ->Qi X h (YE fr) ⟨some d,op,ty,p,af,g⟩=some (.val v,.none)) (k:WX X n wm rd ops sf (m + 1) h l (Tr.set fr d (cond c v undef)) Q):
 WX X n wm rd ops sf m h (⟨some d,op,ty,p,af,g⟩::l) fr Q:=WX.gv hg hd ha k hM
end
structure Kp (q:Prop):Prop where
 out:q
section
variable {X:Ctx} {n wm:Nat} {rd:Option Nat} {Q:XX ->Fs ->Prop}
theorem E0 {p:Prop}(h:p:=by(focus (repeat (first | with_reducible exact fh | ((with_reducible apply Zv);exact rfl) | ((with_reducible apply Yh);exact rfl) | ((with_reducible apply ZN);exact rfl) | ((with_reducible apply Ze);exact rfl) | with_reducible assumption));first|done|fail)):p:=h
theorem cn {c:Operand} {a b:Code} {t:Bool} {fr:Fr} {ds:List Deferred} {h:H} {α:Type} {x y r:α} (hL:(bif t then x else y)=r) (h1:t=true ->x=r ->WC X n wm rd a ⟨fr,ds,h,none⟩ Q) (h2:t=false ->y=r ->WC X n wm rd b ⟨fr,ds,h,none⟩ Q) (hc:YE fr c=some (.bool t):=by(first | exact Kb rfl | (apply Z6;exact E0;(first | exact ia rfl | assumption)) | (apply W9;exact E0;(first | exact ia rfl | assumption);assumption) | fail)):WC X n wm rd (.cond c a b) ⟨fr,ds,h,none⟩ Q:=
 WC.ZPa hc (fun e=>h1 e (JE e hL)) (fun e=>h2 e (JF e hL))
theorem rt {fn:Func} {fr:Fr} {h h0:H} {T:Nat ->Prop} {G G':List (Ast wm)} {wr:Option Nat} {t:Tmp} {β:Type} {x r:β} {g:β ->Value} (hL:some x=some r) (hT:T=Qo G) (hS:Sp wm T h0 G' h) (hr:fn.results.toList= [.tmp t]:=by exact rfl) (hv:YE fr (.tmp t)=some (g x):=by(first | exact Kb rfl | (apply Z6;exact E0;(first | exact ia rfl | assumption)) | (apply W9;exact E0;(first | exact ia rfl | assumption);assumption) | fail)):
 Yf X fn (fun e h'=>∃ v,e= .ret v∧CP (fun v Gb=>v=g r∧Gb= []) G h0 v h') .ret ⟨fr,[],h,wr⟩:=by
 cases hL;exact Yf.WU hr (ZO hv Zx) ⟨_,⟨rfl,rfl⟩,hT ▸ hS.only .n⟩
theorem bg {f:FuncId} {fn:Func} {c:Code} {args:List Value} {n:Nat} {K:Value ->List (Ast wm) ->Prop} {G:List (Ast wm)} {h:H} {fr:Fr} (hnt:fn.ntmps=n) (ZR:wm <=h.size) (hO:Yb G h)
 (k:∀ T,T=Qo (wm:=wm) G ->Sp wm T h G h ->WC X n wm none c ⟨fr,[],h,none⟩ (Yf X fn (fun e h'=>∃ v,e= .ret v∧CP K G h v h'))) (hf:X.fns.get f=some fn:=by kernel_rfl) (hb:fn.body=some c:=by exact rfl) (hn:args.length <=n:=by simp)
 (hfr:QE args 0 .nil=fr:=by(simp only [ZP,Z7,Nat.reduceAdd];exact rfl)):WR X f args.toArray wm h (CP K G h):=by
 subst hfr;exact WF.begin hf hb hnt hn (k _ rfl (Sp.start ZR hO))
end
theorem lk {p:Prop} (h:p:=by(first | exact Kb rfl | (apply Z6;exact E0;(first | exact ia rfl | assumption)) | (apply W9;exact E0;(first | exact ia rfl | assumption);assumption) | fail)):p:=h
theorem lks {p:Prop} (h:p:=by
 repeat (first | exact Zo | (apply Zc;(focus (first | exact Kb rfl | (apply Z6;exact E0;(first | exact ia rfl | assumption)) | (apply W9;exact E0;(first | exact ia rfl | assumption);assumption) | fail);done)))
 done):p:=h
theorem J8 {p:Prop} (h:p:=by
 repeat (first | with_reducible exact fh | ((with_reducible apply Zv);exact rfl) | ((with_reducible apply Yh);exact rfl) | ((with_reducible apply ZN);exact rfl) | ((with_reducible apply Ze);exact rfl) | with_reducible assumption | refine⟨?_,?_⟩)
 done):p:=h
theorem r1 {p q:Prop} (k:q) (h:Kp q ->p:=by
 intro k
 first
 | refine WO.nil ?_
 | refine Zhl.XR ?_
 | refine WC.seq ?_
 | refine WC.region ?_
 | ((first | apply WO.w gN rfl | (apply WO.gv;(focus (first | (apply Zi.yes rfl rfl rfl;exact E0) | (apply Zi.no rfl rfl rfl;exact E0) | (apply Zi.Zvl rfl rfl rfl;exact E0) | (apply Zi.no2 rfl rfl rfl;exact E0) | fail);done);rfl;intro hg) | (apply WX.w2 gN;rfl;rfl) | (apply WX.gv2;(focus (first | (apply Zi.yes rfl rfl rfl;exact E0) | (apply Zi.no rfl rfl rfl;exact E0) | (apply Zi.Zvl rfl rfl rfl;exact E0) | (apply Zi.no2 rfl rfl rfl;exact E0) | fail);done);rfl;rfl;intro hg));(focus (first
   | ((with_reducible apply Ku);(first | exact Kb rfl | (apply Z6;exact E0;(first | exact ia rfl | assumption)) | (apply W9;exact E0;(first | exact ia rfl | assumption);assumption) | fail))
   | ((with_reducible apply ZVI);(focus (first | exact Kb rfl | (apply Z6;exact E0;(first | exact ia rfl | assumption)) | (apply W9;exact E0;(first | exact ia rfl | assumption);assumption) | fail);done);assumption;(focus (first | exact k0 | exact k1 | exact k2 | exact k3 | exact k4 | exact k5 | exact k6 | exact k7 | (repeat (first | exact k7 | apply Pk.s)));done);rfl)
   | ((with_reducible apply ZPx);(first | exact Kb rfl | (apply Z6;exact E0;(first | exact ia rfl | assumption)) | (apply W9;exact E0;(first | exact ia rfl | assumption);assumption) | fail))
   | ((with_reducible apply Jd);(first | exact Kb rfl | (apply Z6;exact E0;(first | exact ia rfl | assumption)) | (apply W9;exact E0;(first | exact ia rfl | assumption);assumption) | fail))
   | ((with_reducible apply Uc);(focus (first | exact Kb rfl | (apply Z6;exact E0;(first | exact ia rfl | assumption)) | (apply W9;exact E0;(first | exact ia rfl | assumption);assumption) | fail);done);(focus (first | exact Kb rfl | (apply Z6;exact E0;(first | exact ia rfl | assumption)) | (apply W9;exact E0;(first | exact ia rfl | assumption);assumption) | fail);done);(first | with_reducible exact ZgF | with_reducible exact ZAb | with_reducible exact Zo4 | with_reducible exact Zz8 | with_reducible exact ZuI | with_reducible exact Zjn | with_reducible exact ZAa | with_reducible exact Zz9 | with_reducible exact ZgE | with_reducible exact ZuN ZJ5.out | with_reducible exact ZuM ZJ5.out))
   | ((with_reducible apply ZPv);(focus (first | exact Kb rfl | (apply Z6;exact E0;(first | exact ia rfl | assumption)) | (apply W9;exact E0;(first | exact ia rfl | assumption);assumption) | fail);done);assumption;(focus (first | exact k0 | exact k1 | exact k2 | exact k3 | exact k4 | exact k5 | exact k6 | exact k7 | (repeat (first | exact k7 | apply Pk.s)));done);rfl;(focus simp only [Nat.zero_add,Nat.reduceAdd,List.drop_succ_cons,List.drop_zero,List.take_succ_cons,List.take_zero,List.take_nil];rfl))
   | ((with_reducible apply ZPt);(first | exact Kb rfl | (apply Z6;exact E0;(first | exact ia rfl | assumption)) | (apply W9;exact E0;(first | exact ia rfl | assumption);assumption) | fail))
   | ((with_reducible apply ZPw);(focus (first | exact Kb rfl | (apply Z6;exact E0;(first | exact ia rfl | assumption)) | (apply W9;exact E0;(first | exact ia rfl | assumption);assumption) | fail);done);(focus (first | exact Kb rfl | (apply Z6;exact E0;(first | exact ia rfl | assumption)) | (apply W9;exact E0;(first | exact ia rfl | assumption);assumption) | fail);done);(focus (exact rfl));assumption;assumption)
   | ((with_reducible apply ZPu);(focus (first | exact Kb rfl | (apply Z6;exact E0;(first | exact ia rfl | assumption)) | (apply W9;exact E0;(first | exact ia rfl | assumption);assumption) | fail);done);(focus (first | assumption | (apply At.fz;(focus (apply Sp.fz;assumption));assumption;assumption));done);(focus (first | exact(Nat.add_zero _).symm | exact rfl);done);rfl)
   | ((with_reducible apply Zq5);(focus (first | exact Kb rfl | (apply Z6;exact E0;(first | exact ia rfl | assumption)) | (apply W9;exact E0;(first | exact ia rfl | assumption);assumption) | fail);done);rfl)
   | ((with_reducible apply Zmz);(first | exact Kb rfl | (apply Z6;exact E0;(first | exact ia rfl | assumption)) | (apply W9;exact E0;(first | exact ia rfl | assumption);assumption) | fail))
   | ((with_reducible apply ZcV);(first | exact Kb rfl | (apply Z6;exact E0;(first | exact ia rfl | assumption)) | (apply W9;exact E0;(first | exact ia rfl | assumption);assumption) | fail))
   | ((with_reducible apply ZmA);(focus (first | exact Kb rfl | (apply Z6;exact E0;(first | exact ia rfl | assumption)) | (apply W9;exact E0;(first | exact ia rfl | assumption);assumption) | fail);done);(focus (apply ZOI;exact E0);done);(first | exact Kb rfl | (apply Z6;exact E0;(first | exact ia rfl | assumption)) | (apply W9;exact E0;(first | exact ia rfl | assumption);assumption) | fail))
   | ((with_reducible apply ZEN);(focus (first | exact Kb rfl | (apply Z6;exact E0;(first | exact ia rfl | assumption)) | (apply W9;exact E0;(first | exact ia rfl | assumption);assumption) | fail);done);(focus (first | exact Kb rfl | (apply Z6;exact E0;(first | exact ia rfl | assumption)) | (apply W9;exact E0;(first | exact ia rfl | assumption);assumption) | fail);done);(apply ZOI;exact E0))
   | fail)))
 | (apply WO.hu gN;(focus (first | (((with_reducible apply ZVH));(focus (first | exact Kb rfl | (apply Z6;exact E0;(first | exact ia rfl | assumption)) | (apply W9;exact E0;(first | exact ia rfl | assumption);assumption) | fail);done);assumption;(focus (first | exact k0 | exact k1 | exact k2 | exact k3 | exact k4 | exact k5 | exact k6 | exact k7 | (repeat (first | exact k7 | apply Pk.s)));done);(focus (first | exact Kb rfl | (apply Z6;exact E0;(first | exact ia rfl | assumption)) | (apply W9;exact E0;(first | exact ia rfl | assumption);assumption) | fail);done);(focus (first | (simp only [Zgt,Zew,ZcP,Zgr,Zgs,Zgv,ZbI,cells_func,ZaH,K4,ZcQ];exact rfl) | exact rfl));exact rfl;exact rfl;exact rfl;(focus simp only [splice,List.take_succ_cons,List.take_zero,List.drop_succ_cons,List.drop_zero,List.cons_append,List.nil_append,List.append_nil,List.length_cons,List.length_nil,Nat.reduceAdd,Nat.zero_add,List.take_nil,List.drop_nil];exact rfl)) | fail)))
 | (apply WO.hn gN rfl;(focus (first | (((with_reducible apply ZPy));(focus (first | exact Kb rfl | (apply Z6;exact E0;(first | exact ia rfl | assumption)) | (apply W9;exact E0;(first | exact ia rfl | assumption);assumption) | fail);done);assumption;(focus (first | (simp only [Zgt,Zew,ZcP,Zgr,Zgs,Zgv,ZbI,cells_func,ZaH,K4,ZcQ];exact rfl) | exact rfl))) | (((with_reducible apply ZPz));assumption;(focus (first | (simp only [Zgt,Zew,ZcP,Zgr,Zgs,Zgv,ZbI,cells_func,ZaH,K4,ZcQ];exact rfl) | exact rfl))) | fail)))
 | refine WC.skip ?_
 | refine WC.ret ?_
 | refine WC.block ?_
 | refine WC.exit ?_
 | refine Zhl.ret ?_
 | refine Zhl.exit ?_
 | refine ZgI.ret ?_
 | refine ZgI.XR ?_
 | refine ZgI.here ?_
 | refine YT.exit ?_
 | refine YT.ret ?_
 | refine WX.nil ?_
 | fail
 exact k.out):p:=h ⟨k⟩
theorem sl {p:Prop} (h:p:=by
 repeat (first | exact Sel.n | (apply Sel.c;(focus (first | exact k0 | exact k1 | exact k2 | exact k3 | exact k4 | exact k5 | exact k6 | exact k7 | (repeat (first | exact k7 | apply Pk.s))))))
 done):p:=h
theorem r2 {p q:Prop} (k:q) (h:Kp q ->p:=by
 intro k
 iterate 2 (refine r1 ?_)
 exact k.out):p:=h ⟨k⟩
theorem r3 {p q:Prop} (k:q) (h:Kp q ->p:=by
 intro k
 iterate 3 (refine r1 ?_)
 exact k.out):p:=h ⟨k⟩
theorem r4 {p q:Prop} (k:q) (h:Kp q ->p:=by
 intro k
 iterate 4 (refine r1 ?_)
 exact k.out):p:=h ⟨k⟩
theorem r5 {p q:Prop} (k:q) (h:Kp q ->p:=by
 intro k
 iterate 5 (refine r1 ?_)
 exact k.out):p:=h ⟨k⟩
theorem r6 {p q:Prop} (k:q) (h:Kp q ->p:=by
 intro k
 iterate 6 (refine r1 ?_)
 exact k.out):p:=h ⟨k⟩
theorem r7 {p q:Prop} (k:q) (h:Kp q ->p:=by
 intro k
 iterate 7 (refine r1 ?_)
 exact k.out):p:=h ⟨k⟩
theorem r8 {p q:Prop} (k:q) (h:Kp q ->p:=by
 intro k
 iterate 8 (refine r1 ?_)
 exact k.out):p:=h ⟨k⟩
theorem r9 {p q:Prop} (k:q) (h:Kp q ->p:=by
 intro k
 iterate 9 (refine r1 ?_)
 exact k.out):p:=h ⟨k⟩
theorem r10 {p q:Prop} (k:q) (h:Kp q ->p:=by
 intro k
 iterate 10 (refine r1 ?_)
 exact k.out):p:=h ⟨k⟩
theorem r11 {p q:Prop} (k:q) (h:Kp q ->p:=by
 intro k
 iterate 11 (refine r1 ?_)
 exact k.out):p:=h ⟨k⟩
theorem r12 {p q:Prop} (k:q) (h:Kp q ->p:=by
 intro k
 iterate 12 (refine r1 ?_)
 exact k.out):p:=h ⟨k⟩
theorem r13 {p q:Prop} (k:q) (h:Kp q ->p:=by
 intro k
 iterate 13 (refine r1 ?_)
 exact k.out):p:=h ⟨k⟩
theorem r14 {p q:Prop} (k:q) (h:Kp q ->p:=by
 intro k
 iterate 14 (refine r1 ?_)
 exact k.out):p:=h ⟨k⟩
theorem r15 {p q:Prop} (k:q) (h:Kp q ->p:=by
 intro k
 iterate 15 (refine r1 ?_)
 exact k.out):p:=h ⟨k⟩
theorem r16 {p q:Prop} (k:q) (h:Kp q ->p:=by
 intro k
 iterate 16 (refine r1 ?_)
 exact k.out):p:=h ⟨k⟩
end Go.YN
end
end
section
set_option maxRecDepth 20000
noncomputable section
namespace Go.Proofs.YtcnahmgekicbdaaGreat
open Go.YN Go.Lf
section
abbrev cE (x:Zg):List Value:= [.int .i64 x.kZ,.int .i64 x.kV,.int .i64 x.kX,.int .i64 x.n]
abbrev cS (x:ZE):List Value:= [.int .i64 x.act,.int .i64 x.a,.int .i64 x.b]
abbrev cP (x:ZQ):List Value:= [.int .i64 x.at_,.int .i64 x.UE]
abbrev cL (x:Zd) (a:Option Addr) (c:Nat):List Value:= [.int .i64 x.kW,.int .i64 x.kV,.int .i64 x.kX,.int .i64 x.n,.slice a x.qX.length c]
abbrev cW (x:Zh) (a0:Option Addr) (c0:Nat) (a1:Option Addr) (c1:Nat) (a2:Option Addr) (c2:Nat) (a3:Option Addr) (c3:Nat) (a4:Option Addr) (c4:Nat) (a5:Option Addr) (c5:Nat):List Value:= [.slice a0 x.qV.length c0,.slice a1 x.qX.length c1,.slice a2 x.qZ.length c2,.slice a3 x.Zm.length c3,.slice a4 x.Zu.length c4,.slice a5 x.kQ.length c5,.int .i64 x.kK]
abbrev cV (a0:Option Addr) (n0 c0:Nat) (a1:Option Addr) (n1 c1:Nat) (a2:Option Addr) (n2 c2:Nat) (a3:Option Addr) (n3 c3:Nat) (a4:Option Addr) (n4 c4:Nat) (a5:Option Addr) (n5 c5:Nat) (s:Int):List Value:= [.slice a0 n0 c0,.slice a1 n1 c1,.slice a2 n2 c2,.slice a3 n3 c3,.slice a4 n4 c4,.slice a5 n5 c5,.int .i64 s]
abbrev cH (a0:Option Addr) (n0 c0:Nat) (a1:Option Addr) (n1 c1:Nat) (a2:Option Addr) (n2 c2:Nat) (a3:Option Addr) (n3 c3:Nat) (a4:Option Addr) (n4 c4:Nat) (a5:Option Addr) (n5 c5:Nat) (s m:Int) (a6:Option Addr) (n6 c6:Nat) (a7:Option Addr) (n7 c7:Nat):List Value:= [.slice a0 n0 c0,.slice a1 n1 c1,.slice a2 n2 c2,.slice a3 n3 c3,.slice a4 n4 c4,.slice a5 n5 c5,.int .i64 s,.int .i64 m,.slice a6 n6 c6,.slice a7 n7 c7]
abbrev gH (wm b:Nat) (x:ZC) (a0:Option Addr) (n0 c0:Nat) (a1:Option Addr) (n1 c1:Nat) (q1:Nat ->Option Addr×Nat×Nat) (a2:Option Addr) (n2 c2:Nat) (q2:Nat ->Option Addr×Nat×Nat) (a3:Option Addr) (n3 c3:Nat) (q3:Nat ->Option Addr×Nat×Nat) (a4:Option Addr) (n4 c4:Nat) (q4:Nat ->Option Addr×Nat×Nat) (a5:Option Addr) (n5 c5:Nat) (q5:Nat ->Option Addr×Nat×Nat) (a6:Option Addr) (c6:Nat) (a7:Option Addr) (n7 c7:Nat):List (Ast wm):= [bx wm b [.slice a0 n0 c0,.slice a1 n1 c1,.slice a2 n2 c2,.slice a3 n3 c3,.slice a4 n4 c4,.slice a5 n5 c5,.int .i64 x.Za.kK,.int .i64 x.qK.qG,.slice a6 x.qK.Zf.length c6,.slice a7 n7 c7],ow wm (Zl .i64) a0 n0 c0 x.Za.qV,Z9 wm (Zz (Zl .i64)) a1 n1 c1 q1 x.Za.qX,Z9 wm (Zz (Zl .i64)) a2 n2 c2 q2 x.Za.qZ,Z9 wm (Zz (Zl .i64)) a3 n3 c3 q3 x.Za.Zm,Z9 wm (Zz Zk) a4 n4 c4 q4 x.Za.Zu,Z9 wm Zw a5 n5 c5 q5 x.Za.kQ,ow wm Zy a7 n7 c7 x.kU]
abbrev gHz (wm b:Nat) (x:ZC) (a0:Option Addr) (n0 c0:Nat) (a1:Option Addr) (n1 c1:Nat) (q1:Nat ->Option Addr×Nat×Nat) (a2:Option Addr) (n2 c2:Nat) (q2:Nat ->Option Addr×Nat×Nat) (a3:Option Addr) (n3 c3:Nat) (q3:Nat ->Option Addr×Nat×Nat) (a4:Option Addr) (n4 c4:Nat) (q4:Nat ->Option Addr×Nat×Nat) (a5:Option Addr) (n5 c5:Nat) (q5:Nat ->Option Addr×Nat×Nat) (a6:Option Addr) (c6:Nat) (a7:Option Addr) (n7 c7:Nat):List (Ast wm):= [bx wm b [.slice a0 n0 c0,.slice a1 n1 c1,.slice a2 n2 c2,.slice a3 n3 c3,.slice a4 n4 c4,.slice a5 n5 c5,.int .i64 x.Za.kK,.int .i64 x.qK.qG,.slice a6 x.qK.Zf.length c6,.slice a7 n7 c7],ow wm (Zl .i64) a0 n0 c0 x.Za.qV,Z9 wm (Zz (Zl .i64)) a1 n1 c1 q1 x.Za.qX,Z9 wm (Zz (Zl .i64)) a2 n2 c2 q2 x.Za.qZ,Z9 wm (Zz (Zl .i64)) a3 n3 c3 q3 x.Za.Zm,Z9 wm (Zz Zk) a4 n4 c4 q4 x.Za.Zu,Z9 wm Zw a5 n5 c5 q5 x.Za.kQ,QF wm (X0 Zj) (a6,c6) x.qK.Zf,ow wm Zy a7 n7 c7 x.kU]
instance:ZbQ XX.P 3:= ⟨Zfw⟩
instance:ZbQ XX.P 4:= ⟨ZDe⟩
instance:ZbQ XX.P 22:= ⟨Ztc⟩
instance:ZmP XX.P 24:= ⟨Ztb⟩
instance:ZbQ XX.P 28:= ⟨ZEU⟩
instance:ZbQ XX.P 29:= ⟨Zo1⟩
instance:ZbQ XX.P 30:= ⟨Zz5⟩
instance:ZbQ XX.P 31:= ⟨ZET⟩
instance:ZmP XX.P 33:= ⟨Zfv⟩
instance:ZbQ XX.P 34:= ⟨Zz4⟩
instance:ZbQ XX.P 35:= ⟨Zta⟩
instance:ZbQ XX.P 36:= ⟨Zo0⟩
instance:ZbQ XX.P 62:= ⟨ZPJ⟩
instance:ZmP XX.P 64:= ⟨Zs9⟩
instance:ZmP XX.P 66:= ⟨ZoZ⟩
instance:ZbQ XX.P 69:= ⟨Zz3⟩
instance:ZbQ XX.P 71:= ⟨ZES⟩
instance:ZbQ XX.P 72:= ⟨ZPI⟩
instance:ZmP XX.P 74:= ⟨ZER⟩
instance:ZbQ XX.P 87:= ⟨ZEQ⟩
instance:ZmP XX.P 99:= ⟨ZEP⟩
instance:ZmP XX.P 106:= ⟨ZJG⟩
instance:ZbQ XX.P 112:= ⟨ZJF⟩
instance:ZbQ XX.P 119:= ⟨ZJE⟩
instance:ZmP XX.P 121:= ⟨ZmH⟩
instance:SzF XX.P 3 1:= ⟨Uh⟩
instance:SzF XX.P 4 1:= ⟨Znc⟩
instance:SzF XX.P 24 2:= ⟨Zk7⟩
instance:SzF XX.P 28 1:= ⟨ZFn⟩
instance:SzF XX.P 29 1:= ⟨Zv1⟩
instance:SzF XX.P 30 1:= ⟨ZFm⟩
instance:SzF XX.P 31 1:= ⟨ZFl⟩
instance:SzF XX.P 33 7:= ⟨KQ⟩
instance:SzF XX.P 34 1:= ⟨ZFk⟩
instance:SzF XX.P 35 1:= ⟨Jb⟩
instance:SzF XX.P 36 1:= ⟨ZFj⟩
instance:SzF XX.P 62 1:= ⟨ZFi⟩
instance:SzF XX.P 64 4:= ⟨ZhV⟩
instance:SzF XX.P 66 2:= ⟨ZhU⟩
instance:SzF XX.P 69 1:= ⟨Zcp⟩
instance:SzF XX.P 71 1:= ⟨ZhT⟩
instance:SzF XX.P 74 3:= ⟨Zv0⟩
instance:SzF XX.P 99 2:= ⟨Zk6⟩
instance:SzF XX.P 106 3:= ⟨ZA7⟩
instance:SzF XX.P 112 1:= ⟨ZA6⟩
instance:SzF XX.P 121 5:= ⟨Q6⟩
instance:J6 XX.P 24 0 0:= ⟨ZlJ⟩
instance:J6 XX.P 24 1 1:= ⟨ZCj⟩
instance:J6 XX.P 33 0 0:= ⟨ZCi⟩
instance:J6 XX.P 33 1 1:= ⟨ZsC⟩
instance:J6 XX.P 33 2 2:= ⟨ZCh⟩
instance:J6 XX.P 33 3 3:= ⟨ZCg⟩
instance:J6 XX.P 33 4 4:= ⟨ZCf⟩
instance:J6 XX.P 33 5 5:= ⟨ZsB⟩
instance:J6 XX.P 33 6 6:= ⟨ZCe⟩
instance:J6 XX.P 64 0 0:= ⟨ZCd⟩
instance:J6 XX.P 64 1 1:= ⟨ZCc⟩
instance:J6 XX.P 64 2 2:= ⟨ZCb⟩
instance:J6 XX.P 64 3 3:= ⟨ZCa⟩
instance:J6 XX.P 66 0 0:= ⟨ZB9⟩
instance:J6 XX.P 66 1 1:= ⟨ZB8⟩
instance:J6 XX.P 74 0 0:= ⟨ZB7⟩
instance:J6 XX.P 74 1 1:= ⟨ZB6⟩
instance:J6 XX.P 74 2 2:= ⟨ZB5⟩
instance:J6 XX.P 91 0 0:= ⟨ZlI⟩
instance:J6 XX.P 91 1 7:= ⟨ZlH⟩
instance:J6 XX.P 91 2 9:= ⟨ZB4⟩
instance:J6 XX.P 96 0 0:= ⟨ZB3⟩
instance:J6 XX.P 96 1 2:= ⟨ZB2⟩
instance:J6 XX.P 96 2 9:= ⟨ZB1⟩
instance:J6 XX.P 99 0 0:= ⟨ZsA⟩
instance:J6 XX.P 99 1 1:= ⟨ZlG⟩
instance:J6 XX.P 106 0 0:= ⟨ZyN⟩
instance:J6 XX.P 106 1 2:= ⟨ZyM⟩
instance:J6 XX.P 121 0 0:= ⟨ZyL⟩
instance:J6 XX.P 121 1 1:= ⟨ZyK⟩
instance:J6 XX.P 121 2 2:= ⟨ZyJ⟩
instance:J6 XX.P 121 3 3:= ⟨ZyI⟩
instance:J6 XX.P 121 4 4:= ⟨Zn7⟩
instance:Zhk XX.P 22 66:= ⟨ZK5⟩
instance:Zhk XX.P 25 74:= ⟨ZK4⟩
instance:Zhk XX.P 28 71:= ⟨ZvN⟩
instance:Zhk XX.P 29 35:= ⟨Zac⟩
instance:Zhk XX.P 30 69:= ⟨ZrC⟩
instance:Zhk XX.P 31 99:= ⟨ZvM⟩
instance:Zhk XX.P 34 64:= ⟨ZDx⟩
instance:Zhk XX.P 35 3:= ⟨Ug⟩
instance:Zhk XX.P 60 4:= ⟨ZrB⟩
instance:Zhk XX.P 69 121:= ⟨UO⟩
instance:ZJ5 XX.P 4:= ⟨ZQK⟩
instance:ZbP XX.P 3 (.int .i64 0):= ⟨ZdJ⟩
instance:ZbP XX.P 4 (.bool false):= ⟨ZDv⟩
instance:ZbP XX.P 33 (.agg #[.slice none 0 0,.slice none 0 0,.slice none 0 0,.slice none 0 0,.slice none 0 0,.slice none 0 0,.int .i64 0]):= ⟨Zvk⟩
instance:ZbP XX.P 35 (.slice none 0 0):= ⟨Zeb⟩
instance:ZbP XX.P 36 (.int .i64 0):= ⟨ZE6⟩
instance:ZbP XX.P 64 (.agg #[.int .i64 0,.int .i64 0,.int .i64 0,.int .i64 0]):= ⟨Zpg⟩
instance:ZbP XX.P 66 (.agg #[.int .i64 0,.int .i64 0]):= ⟨ZE5⟩
instance:ZbP XX.P 67 (.agg #[.int .i64 0,.int .i64 0]):= ⟨ZE4⟩
instance:ZbP XX.P 69 (.slice none 0 0):= ⟨Zvj⟩
instance:ZbP XX.P 71 (.int .i64 0):= ⟨Zvi⟩
instance:ZbP XX.P 74 (.agg #[.int .i64 0,.int .i64 0,.int .i64 0]):= ⟨Zvh⟩
instance:ZbP XX.P 91 (.agg #[.slice none 0 0,.slice none 0 0,.slice none 0 0,.slice none 0 0,.slice none 0 0,.slice none 0 0,.int .i64 0,.int .i64 0,.slice none 0 0,.slice none 0 0]):= ⟨Zvg⟩
instance:ZbP XX.P 96 (.agg #[.int .i64 0,.slice none 0 0,.slice none 0 0,.slice none 0 0,.slice none 0 0,.slice none 0 0,.slice none 0 0,.slice none 0 0,.int .i64 0,.slice none 0 0]):= ⟨ZE3⟩
instance:ZbP XX.P 99 (.agg #[.int .i64 0,.slice none 0 0]):= ⟨Zvf⟩
instance:ZbP XX.P 106 (.agg #[.int .i64 0,.slice none 0 0,.slice none 0 0]):= ⟨ZAF⟩
instance:ZbP XX.P 112 (.nilFunc):= ⟨ZAE⟩
instance:ZbP XX.P 121 (.agg #[.int .i64 0,.int .i64 0,.int .i64 0,.int .i64 0,.slice none 0 0]):= ⟨Zbj⟩
instance:ZbP XX.P 124 (.nilFunc):= ⟨Zc5⟩
end
section
def Zzf (p0:Zb):Option Bool:=
 some (decide ((p0.Zf.length:Int) <=30))
def ZiY (p0:Zb) (v23:Int) (Zli:(Int ->Option Bool)):Int×Int ->(Int×Int ->Option Bool) ->Option Bool:=fun(v34,v36) Zxd=>
 (bif((decide (v36 <= (p0.Zf.length:Int))) && (decide (v34 >=0))) then(bif(v34==v23) then some false else(ZM p0.Zf v34).bind fun x41=>Zxd (x41.UE,YB (v36 + 1))) else Zli (YB (v23 + 1)))
def Zgk (F:Nat) (p0:Zb):Int ->(Int ->Option Bool) ->Option Bool:=fun v23 Zli=>
 (bif decide (v23 < (p0.Zf.length:Int)) then(ZM p0.Zf v23).bind fun x26=>loop F (ZiY p0 v23 Zli) (x26.UE,0) else some true)
def ZiZ (F:Nat) (p0:Zb):Int ->(Int ->Option Bool) ->Option Bool:=fun v9 Zbz=>
 (bif decide (v9 < (p0.Zf.length:Int)) then(ZM p0.Zf v9).bind fun x12=>(bif((((decide (x12.at_ < 0)) || (decide (x12.at_ >=p0.qG))) || (decide (x12.UE < (-1)))) || (decide (x12.UE >= (p0.Zf.length:Int)))) then some false else Zbz (YB (v9 + 1))) else loop F (Zgk F p0) 0)
def ZqG (F:Nat) (p0:Zb):Option Bool:=
 (bif((((decide (p0.qG < 1)) || (decide (p0.qG > 4))) || (decide ((p0.Zf.length:Int) < 1))) || (decide ((p0.Zf.length:Int) > 8))) then some false else loop F (ZiZ F p0) 0)
def ZiV (v10:Int) (ZfS:(Int×Int ->Option Int)):Int ->Option Int:=fun v18=>
 ZfS (v18,YB (v10 + 1))
def Zl4 (p0:(List Zg)) (p1:Int) (p2:Int) (p3:Int):Int×Int ->(Int×Int ->Option Int) ->Option Int:=fun(v6,v10) ZfS=>
 (bif decide (v10 < (p0.length:Int)) then(ZM p0 v10).bind fun x23=>(bif(((x23.kZ==p1) && (x23.kV==p2)) && (x23.kX==p3)) then(ZiV v10 ZfS) (YB (v6 + 1)) else(ZiV v10 ZfS) v6) else some v6)
def ZqD (F:Nat) (p0:(List Zg)) (p1:Int) (p2:Int) (p3:Int):Option Int:=
 loop F (Zl4 p0 p1 p2 p3) (0,0)
def Zoi (p0:Zb) (p1:Int):Option Bool:=
 some ((decide (p1 >=0)) && (decide (p1 < (p0.Zf.length:Int))))
def Zl3 (p0:Zb):(List Int)×Int ->((List Int)×Int ->Option (List Int)) ->Option (List Int):=fun(v9,v14) Zij=>
 (bif decide (v14 >=0) then(app 8 v9 [v14]).bind fun z19=>(ZM p0.Zf v14).bind fun x23=>Zij (z19,x23.UE) else some v9)
def Zy5 (F:Nat) (p0:Zb) (p1:Int):Option (List Int):=
 (ZM p0.Zf p1).bind fun x3=>loop F (Zl3 p0) ([],x3.UE)
end
section
theorem ZIQ {wm h} {p0:Zb} {Zt Zr} {r} (ZR:wm <=h.size) (ZU:Sl Zj wm h Zt Zr p0.Zf) (hL:Zzf p0=some r):
 WR XX 14 #[.agg [.int .i64 p0.qG,.slice Zt p0.Zf.length Zr].toArray] wm h (CP (fun(v:Value) (Gb:List (Ast wm))=>v= .bool r∧Gb= []) [] h):=by
 refine bg Tryz.ntmps14 ZR Yb.nil ?_;intro T hT hS;unfold Zzf at hL;refine r3 ?_;rintro _ h2 ⟨b1,eb1,rfl,hS⟩;refine r13 ?_;exact rt hL hT hS
theorem ZIM {F wm h} {p0:Zb} {Zt Zr} {r} (ZR:wm <=h.size) (ZU:Sl Zj wm h Zt Zr p0.Zf) (hL:ZqG F p0=some r):
 WR XX 17 #[.agg [.int .i64 p0.qG,.slice Zt p0.Zf.length Zr].toArray] wm h (CP (fun(v:Value) (Gb:List (Ast wm))=>v= .bool r∧Gb= []) [] h):=by
 refine bg Tryz.ntmps17 ZR Yb.nil ?_;intro T hT hS;unfold ZqG at hL;refine r3 ?_;rintro _ h2 ⟨b1,eb1,rfl,hS⟩;refine r16 ?_;refine r16 ?_;refine cn hL ?_ ?_
 ·intro hc hL;refine r7 ?_;exact rt hL hT hS
 ·intro hc hL;refine r12 ?_;refine WC.loop (WL.lift hL (fun v9 s=>∃ fr4 h3,s= ⟨fr4,[],h3,none⟩∧Sp wm T h [bx wm b1 [.int .i64 p0.qG,.slice Zt p0.Zf.length Zr]] h3∧fr4.at 1= .pointer (some ⟨b1,0,none⟩)∧fr4.at 3= .int .i64 (p0.Zf.length:Int)∧fr4.at 29= .slice Zt p0.Zf.length Zr∧fr4.at 30= .int .i64 (p0.Zf.length:Int)∧fr4.at 31= .int .i64 v9) ⟨_,_,rfl,hS.only sl,J8⟩ ?_);clear hL hS;rintro Zbz v9 s Zdj hL ⟨fr4,h3,rfl,hS,e5,e6,e7,e8,e10⟩;dsimp only [ZiZ] at hL;refine r6 ?_;refine cn hL ?_ ?_
  ·intro hc hL;refine r6 ?_;obtain⟨x12,ZHu,hL⟩:=bS hL;obtain⟨b13,o14,_,ZNR,ZEz,ZEw,ZEt⟩:=Sl.at_ ZU ZHu;refine r1 ?_;refine WO.w gN rfl (Ub ZoZ ZhU (Z6 fh rfl) (At.fz hS.fz ZEw ZEz) (j:=0) rfl rfl (ws:= (cP x12)) rfl) ?_;refine r1 ?_;rintro _ h16 ⟨b15,Z2h,rfl,hS⟩;refine r1 ?_;rintro h17 hS;refine r16 ?_;refine r11 ?_;refine cn hL ?_ ?_
   ·intro hc hL;refine r11 ?_;exact rt hL hT hS
   ·intro hc hL;refine r7 ?_;exact YT.XR (Zdj _ _ hL ⟨_,_,rfl,hS.only sl,J8⟩)
  ·intro hc hL;refine r15 ?_;refine WC.loop (WL.lift hL (fun v23 s=>∃ Zt7 h18,s= ⟨Zt7,[],h18,none⟩∧Sp wm T h [bx wm b1 [.int .i64 p0.qG,.slice Zt p0.Zf.length Zr]] h18∧Zt7.at 1= .pointer (some ⟨b1,0,none⟩)∧Zt7.at 3= .int .i64 (p0.Zf.length:Int)∧Zt7.at 59= .int .i64 (p0.Zf.length:Int)∧Zt7.at 60= .int .i64 v23) ⟨_,_,rfl,hS.only sl,J8⟩ ?_);clear hL hS;rintro Zli v23 s ZBL hL ⟨Zt7,h18,rfl,hS,e20,e21,e22,e24⟩;dsimp only [Zgk] at hL;refine r6 ?_;refine cn hL ?_ ?_
   ·intro hc hL;refine r15 ?_;obtain⟨x26,ZRQ,hL⟩:=bS hL;obtain⟨b27,o28,_,ZXu,ZYb,ZXU,ZXK⟩:=Sl.at_ ZU ZRQ;refine r12 ?_;refine WC.loop (WL.lift hL (fun p s=>match p with | (v34,v36)=>∃ ZlE h29,s= ⟨ZlE,[],h29,none⟩∧Sp wm T h [bx wm b1 [.int .i64 p0.qG,.slice Zt p0.Zf.length Zr]] h29∧ZlE.at 1= .pointer (some ⟨b1,0,none⟩)∧ZlE.at 3= .int .i64 (p0.Zf.length:Int)∧ZlE.at 6= .int .i64 v23∧ZlE.at 7= .int .i64 v34∧ZlE.at 8= .int .i64 v36∧ZlE.at 59= .int .i64 (p0.Zf.length:Int)∧ZlE.at 60= .int .i64 v23) ⟨_,_,rfl,hS.only sl,J8⟩ ?_);clear hL hS;rintro Zxd ⟨v34,v36⟩ s ZBK hL ⟨ZlE,h29,rfl,hS,e31,e32,e33,e35,e37,e38,e39⟩;dsimp only [ZiY] at hL;refine r12 ?_;refine cn hL ?_ ?_
    ·intro hc hL;refine r12 ?_;refine cn hL ?_ ?_
     ·intro hc hL;refine r16 ?_;exact rt hL hT hS
     ·intro hc hL;refine r6 ?_;obtain⟨x41,ZHr,hL⟩:=bS hL;obtain⟨b42,o43,_,ZXs,ZX7,ZXT,ZXJ⟩:=Sl.at_ ZU ZHr;refine r12 ?_;exact YT.XR (ZBK _ _ hL ⟨_,_,rfl,hS.only sl,J8⟩)
    ·intro hc hL;refine r10 ?_;exact YT.XR (ZBL _ _ hL ⟨_,_,rfl,hS.only sl,J8⟩)
   ·intro hc hL;refine r11 ?_;exact rt hL hT hS
theorem ZIN {F h} {p0:Zb} {Zt Zr} {r} (ZU:Sl Zj h.size h Zt Zr p0.Zf) (hL:ZqG F p0=some r):Pure XX 17 #[.agg [.int .i64 p0.qG,.slice Zt p0.Zf.length Zr].toArray] h (.bool r):=
 WR.Xl rfl (ZIM (Nat.le_refl _) ZU hL)
theorem ZIE {F wm h} {p0:(List Zg)} {p1 p2 p3:Int} {Zt Zr} {r} (ZR:wm <=h.size) (ZU:Sl Zy wm h Zt Zr p0) (hL:ZqD F p0 p1 p2 p3=some r):
 WR XX 32 #[.slice Zt p0.length Zr,.int .i64 p1,.int .i64 p2,.int .i64 p3] wm h (CP (fun(v:Value) (Gb:List (Ast wm))=>v= .int .i64 r∧Gb= []) [] h):=by
 refine bg Tryz.ntmps32 ZR Yb.nil ?_;intro T hT hS;unfold ZqD at hL;refine r16 ?_;refine r3 ?_;refine WC.loop (WL.lift hL (fun p s=>match p with | (v6,v10)=>∃ JM h1,s= ⟨JM,[],h1,none⟩∧Sp wm T h [] h1∧JM.at 1= .int .i64 p1∧JM.at 2= .int .i64 p2∧JM.at 3= .int .i64 p3∧JM.at 9= .int .i64 v6∧JM.at 12= .slice Zt p0.length Zr∧JM.at 13= .int .i64 (p0.length:Int)∧JM.at 14= .int .i64 v10) ⟨_,_,rfl,hS.only .n,J8⟩ ?_);clear hL hS;rintro ZfS ⟨v6,v10⟩ s ZBO hL ⟨JM,h1,rfl,hS,e3,e4,e5,e7,e8,e9,e11⟩;dsimp only [Zl4] at hL;refine r6 ?_;refine cn hL ?_ ?_
 ·intro hc hL;refine r2 ?_;refine WC.ZfM (r:=r) (fun(v18:Int) s=>∃ ZlF h13,s= ⟨ZlF,[],h13,none⟩∧Sp wm T h [] h13∧ZlF.at 1= .int .i64 p1∧ZlF.at 2= .int .i64 p2∧ZlF.at 3= .int .i64 p3∧ZlF.at 9= .int .i64 v18∧ZlF.at 12= .slice Zt p0.length Zr∧ZlF.at 13= .int .i64 (p0.length:Int)∧ZlF.at 14= .int .i64 v10) (ZiV v10 ZfS) ?_ ?_
  ·clear hL hS;rintro v18 s hL ⟨ZlF,h13,rfl,hS,e15,e16,e17,e19,e20,e21,e22⟩;dsimp only [ZiV] at hL;refine r4 ?_;exact YT.XR (ZBO _ _ hL ⟨_,_,rfl,hS.only .n,J8⟩)
  ·skip;refine r3 ?_;obtain⟨x23,ZHs,hL⟩:=bS hL;obtain⟨b24,o25,_,ZNN,ZEx,ZEv,ZN3⟩:=Sl.at_ ZU ZHs;refine r1 ?_;refine WO.w gN rfl (Ub Zs9 ZhV (Z6 fh rfl) (At.fz hS.fz ZEv ZEx) (j:=0) rfl rfl (ws:= (cE x23)) rfl) ?_;refine r1 ?_;rintro _ h27 ⟨b26,Z2e,rfl,hS⟩;refine r1 ?_;rintro h28 hS;refine r16 ?_;refine r6 ?_;refine cn hL ?_ ?_
   ·intro hc hL;refine r6 ?_;exact Jh.XR _ hL ⟨_,_,rfl,hS.only .n,J8⟩
   ·intro hc hL;refine r2 ?_;exact Jh.XR _ hL ⟨_,_,rfl,hS.only .n,J8⟩
 ·intro hc hL;refine r12 ?_;exact rt hL hT hS
theorem Zy8 {F h} {p0:(List Zg)} {p1 p2 p3:Int} {Zt Zr} {r} (ZU:Sl Zy h.size h Zt Zr p0) (hL:ZqD F p0 p1 p2 p3=some r):Pure XX 32 #[.slice Zt p0.length Zr,.int .i64 p1,.int .i64 p2,.int .i64 p3] h (.int .i64 r):=
 WR.Xl rfl (ZIE (Nat.le_refl _) ZU hL)
theorem ZID {wm h} {p0:Zb} {p1:Int} {Zt Zr} {r} (ZR:wm <=h.size) (ZU:Sl Zj wm h Zt Zr p0.Zf) (hL:Zoi p0 p1=some r):
 WR XX 33 #[.agg [.int .i64 p0.qG,.slice Zt p0.Zf.length Zr].toArray,.int .i64 p1] wm h (CP (fun(v:Value) (Gb:List (Ast wm))=>v= .bool r∧Gb= []) [] h):=by
 refine bg Tryz.ntmps33 ZR Yb.nil ?_;intro T hT hS;unfold Zoi at hL;refine r3 ?_;rintro _ h2 ⟨b1,eb1,rfl,hS⟩;refine r16 ?_;refine r2 ?_;exact rt hL hT hS
theorem ZqC {h} {p0:Zb} {p1:Int} {Zt Zr} {r} (ZU:Sl Zj h.size h Zt Zr p0.Zf) (hL:Zoi p0 p1=some r):Pure XX 33 #[.agg [.int .i64 p0.qG,.slice Zt p0.Zf.length Zr].toArray,.int .i64 p1] h (.bool r):=
 WR.Xl rfl (ZID (Nat.le_refl _) ZU hL)
theorem ZIC {F wm h} {p0:Zb} {p1:Int} {Zt Zr} {r} (ZR:wm <=h.size) (ZU:Sl Zj wm h Zt Zr p0.Zf) (hL:Zy5 F p0 p1=some r):
 WR XX 38 #[.agg [.int .i64 p0.qG,.slice Zt p0.Zf.length Zr].toArray,.int .i64 p1] wm h (CP (fun(v:Value) (Gb:List (Ast wm))=>∃ QZ QX QY,v= .slice QZ QX QY∧Gb= [ow wm (Zl .i64) QZ QX QY r]) [] h):=by
 refine bg Tryz.ntmps38 ZR Yb.nil ?_;intro T hT hS;unfold Zy5 at hL;refine r3 ?_;rintro _ h2 ⟨b1,eb1,rfl,hS⟩;refine r14 ?_;obtain⟨x3,hx3,hL⟩:=bS hL;obtain⟨b4,o5,_,ZNL,ZOj,Z0E,ZN1⟩:=Sl.at_ ZU hx3;refine r7 ?_;have hS:=hS.nil (e:= (Zl .i64));refine WC.loop (WL.lift hL (fun p s=>match p with | (v9,v14)=>∃ fr7 h6 a10 c11 n12,s= ⟨fr7,[],h6,none⟩∧Sp wm T h [ow wm (Zl .i64) a10 n12 c11 v9,bx wm b1 [.int .i64 p0.qG,.slice Zt p0.Zf.length Zr]] h6∧fr7.at 2= .pointer (some ⟨b1,0,none⟩)∧fr7.at 5= .slice a10 n12 c11∧fr7.at 6= .int .i64 v14) ⟨_,_,none,0,0,rfl,hS.only sl,J8⟩ ?_);clear hL hS;rintro Zij ⟨v9,v14⟩ s Zlu hL ⟨fr7,h6,a10,c11,n12,rfl,hS,e8,e13,e15⟩;obtain rfl:=hS.on k0;dsimp only [Zl3] at hL;refine r7 ?_;refine cn hL ?_ ?_
 ·intro hc hL;refine r7 ?_;refine WO.hn gN rfl (ZdD (e:= (Zl .i64)) hS Ug Uh ZdJ rfl rfl rfl (Yc lk Y9) rfl [((),v14)] rfl (xs:= [v14]) rfl (by intro q hq;simp only [List.mem_cons,List.not_mem_nil,or_false] at hq;subst hq;exact trivial) rfl) ?_;rintro _ h18 ⟨b17,Z2g,rfl,hS⟩;obtain⟨z19,ZRv,hL⟩:=bS hL;refine WO.hv gN rfl (Zha (e:= (Zl .i64)) hS k1 Zbc lk lk (hS.J2 k0) (hS.on k0) ZRv) ?_;rintro _ h22 ⟨a20,c21,rfl,hS⟩;refine r8 ?_;obtain⟨x23,ZHs,hL⟩:=bS hL;obtain⟨b24,o25,_,ZNN,ZEx,ZEv,ZN3⟩:=Sl.at_ ZU ZHs;refine r5 ?_;exact YT.XR (Zlu _ _ hL ⟨_,_,a20,c21,z19.length,rfl,hS.only sl,J8⟩)
 ·intro hc hL;refine r12 ?_;have hr:=Oi0 hL;subst hr;exact Yf.WU rfl (ZO lk Zx) ⟨_,⟨a10,v9.length,c11,rfl,rfl⟩,hT ▸ hS.only sl⟩
end
section
def ZiS (p0:Zb) (p1:Int):Option Bool:=
 some ((decide (p1 >=0)) && (decide (p1 < (p0.Zf.length:Int))))
end
section
theorem ZIA {wm h} {p0:Zb} {p1:Int} {Zt Zr} {r} (ZR:wm <=h.size) (ZU:Sl Zj wm h Zt Zr p0.Zf) (hL:ZiS p0 p1=some r):
 WR XX 54 #[.agg [.int .i64 p0.qG,.slice Zt p0.Zf.length Zr].toArray,.int .i64 p1] wm h (CP (fun(v:Value) (Gb:List (Ast wm))=>v= .bool r∧Gb= []) [] h):=by
 refine bg Tryz.ntmps54 ZR Yb.nil ?_;intro T hT hS;unfold ZiS at hL;refine r3 ?_;rintro _ h2 ⟨b1,eb1,rfl,hS⟩;refine r16 ?_;refine r2 ?_;exact rt hL hT hS
theorem Zqz {h} {p0:Zb} {p1:Int} {Zt Zr} {r} (ZU:Sl Zj h.size h Zt Zr p0.Zf) (hL:ZiS p0 p1=some r):Pure XX 54 #[.agg [.int .i64 p0.qG,.slice Zt p0.Zf.length Zr].toArray,.int .i64 p1] h (.bool r):=
 WR.Xl rfl (ZIA (Nat.le_refl _) ZU hL)
end
end Go.Proofs.YtcnahmgekicbdaaGreat
end
end
