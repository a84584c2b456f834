/- Part 9. -/
import Derived.Test.YtcnahmgekicbdaaGreatNa8
set_option linter.all false
set_option maxHeartbeats 2000000
section
noncomputable section
namespace Go.YD
open Go.Lf
section
variable {X:Ctx} {n wm:Nat} {rd:Option Nat} {ops:Array Oper} {ol:List Oper} {fr:Fr} {ds:List Deferred} {h h0:H} {ty:TypeId} {p:String} {af:Array Edge} {g:Option (Nat×Bool)} {T:Nat ->Prop} {G Gr:List (Ast wm)} {d l df:Nat} {LO:XQ} {ps:Array Tmp} {YC bd:Code}
theorem ZnD {α β:Type} {body:α ->(α ->Option β) ->Option β} (C:α ->β ->Prop) (hb:∀ next:α ->Option β,(∀ x r,next x=some r ->C x r) ->∀ x r,body x next=some r ->C x r):∀ F x r,loop F body x=some r ->C x r:=by
 intro F
 induction F with
 | zero=>intro x r h;cases h
 | succ F ih=>intro x r h;exact hb _ ih x r h
def dne (c:Code):XQ ->XQ
 | .loop _ _ fr n ps YC bd df=>.loop .done (some c) fr n ps YC bd df
 | A=>A
def lst (b:Bool) (c:Code) (A:XQ):XQ:=bif b then dne c A else A
inductive Zs8:XX ->Code ->Prop
 | ret:Zs8 .ret .ret
 | exit (id:Nat):Zs8 (.exit id) (.exit id)
structure BdS (n lo l:Nat) (fr:Fr) (ps:Array Tmp) (YC bd:Code) (df:Nat) (R:Bool ->H ->Prop) (e:XX) (s:Fs):Prop where
 out:s.h.at l= .loop .busy none fr n ps YC bd df∧
  ((e= .normal∧∀ h',(lo <=l ->Up lo (fun i=>i=l) s.h h') ->h'.at l= .loop .ready none fr n ps YC bd df ->R true h')∨
   (∃ c,Zs8 e c∧∀ h',(lo <=l ->Up lo (fun i=>i=l) s.h h') ->h'.at l= .loop .done (some c) fr n ps YC bd df ->R false h'))
structure AsS (X:Ctx) (n wm lo l:Nat) (fr:Fr) (ps:Array Tmp) (YC bd:Code) (df:Nat) (R:Bool ->H ->Prop) (e:XX) (s:Fs):Prop where
 out:e= .normal∧s.h.at l= .loop .ready none fr n ps YC bd df∧∀ h1,(lo <=l ->Up lo (fun i=>i=l) s.h h1) ->h1.at l= .loop .busy none fr n ps YC bd df ->WC X n wm (some l) bd ⟨s.fr,s.ds,h1,s.wr⟩ (BdS n lo l fr ps YC bd df R)
theorem Zrw.mkS {l:Nat} {args:List Value} {fr fr1:Fr} {ps:Array Tmp} {YC bd:Code} {df:Nat} {R:Bool ->H ->Prop} (lo:Nat) (hat:h.at l= .loop .ready none fr n ps YC bd df) (hw:wm <=l) (hl:Nat.beq args.length ps.toList.length=true) (hs:QG (ps.toList.zip args) n fr=some fr1)
 (k:WC X n wm (some l) YC ⟨fr1,[],h,none⟩ (AsS X n wm lo l fr ps YC bd df R)):Zrw X l args.toArray wm h R:=by
 obtain⟨e1,s1,⟨rfl,h1,k1⟩,j1⟩:=k;have o1:(s1.h.at l).own=true:=by rw [h1];rfl
 have s1l:=X9 h1 rfl;obtain⟨e2,s2,⟨h2,k2⟩,j2⟩:=k1 (s1.h.put l (.loop .busy none fr n ps YC bd df)) (fun hl=>Up.put hl o1) (YQ s1l _);have o2:(s2.h.at l).own=true:=by rw [h2];rfl
 have s2l:=X9 h2 rfl
 have key:∃ b A,R b (s2.h.put l A)∧Wx l e2 s2=some (.fin (.ret (.bool b)) (s2.h.put l A)):=by
  rcases k2 with⟨rfl,k2⟩ | ⟨c,hx,k2⟩
  ·refine⟨true,_,k2 _ (fun hl=>Up.put hl o2) (YQ s2l _),?_⟩;unfold Wx;rw [h2]
  ·refine⟨false,_,k2 _ (fun hl=>Up.put hl o2) (YQ s2l _),?_⟩;unfold Wx;rw [h2];cases hx <;> rfl
 obtain⟨b,A,hR,hev⟩:=key;refine⟨b,s2.h.put l A,hR,?_⟩
 classical
 let ih:Jp ->Option Y6:=fun j=>if j= .code YC n wm (some l) ⟨fr1,[],h,none⟩ then some (.code .normal s1) else Zag (.code bd n wm (some l) {s1 with h:=s1.h.put l (.loop .busy none fr n ps YC bd df)}) (.code e2 s2) j
 have HI:∀ j r,ih j=some r ->Y3 X j r:=by
  intro j r e;dsimp only [ih] at e;split at e
  ·rename_i hj;cases e;rw [hj];exact j1
  ·exact Ur (X:=X) j2 j r e
 refine Zak (C:=cfg X fun _=>false) (ih:=ih) HI ?_;unfold Zc3;rw [hat];have hl':Nat.beq args.toArray.toList.length ps.toList.length=true:=hl;dsimp only;rw [Nm0 hw,hl'];simp only [Bool.and_self,Cq1];have hs':QG (ps.toList.zip args.toArray.toList) n fr=some fr1:=hs;rw [hs'];dsimp only;have i1:ih (.code YC n wm (some l) {fr:=fr1,ds:= [],h:=h})=some (.code .normal s1):=by dsimp only [ih];rw [if_pos rfl]
 rw [i1];show KM ih l bd n wm .normal s1=_;unfold KM;dsimp only;rw [h1];dsimp only
 have i2:ih (.code bd n wm (some l) {s1 with h:=s1.h.put l (.loop .busy none fr n ps YC bd df)})=some (.code e2 s2):=by
  dsimp only [ih];split
  ·rename_i hj;exfalso;injection hj with _ _ _ _ hs
   have:({s1 with h:=s1.h.put l (.loop .busy none fr n ps YC bd df)}:Fs).h.at l=h.at l:=by rw [hs]
   dsimp only at this;rw [YQ s1l,hat] at this;cases this
  ·exact Us _ _
 rw [i2];exact hev
theorem WO.ZJ1 {Q:XX ->Fs ->Prop} {fo:Operand} {xs:Array Operand} {ts:Array TypeId} {vs:List Value} {n2:Nat} {JJ fr1:Fr} {as2 bd2:Code} (hg:Yw ops ⟨some d,.call {callee:= .value fo,args:=xs,argTypes:=ts},ty,p,af,g⟩ fr) (hd:Nat.blt d n=true) (hf:Yz fr fo=some (.func (.yield l) #[] #[])) (hx:evs (Yz fr) xs.toList=some vs)
 (hS:Sp wm T h0 G h) (pk:Pk G (ob wm l LO) Gr) (hLO:LO= .loop .ready none JJ n2 ps as2 bd2 df) (hl:Nat.beq vs.length ps.toList.length=true) (hs:QG (ps.toList.zip vs) n2 JJ=some fr1)
 (k:WC X n2 wm (some l) as2 ⟨fr1,[],h,none⟩ (AsS X n2 wm wm l JJ ps as2 bd2 df (fun b h'=>WO X n wm rd ops ol ⟨Tr.set fr d (.bool b),ds,h',none⟩ Q))):
 WO X n wm rd ops (⟨some d,.call {callee:= .value fo,args:=xs,argTypes:=ts},ty,p,af,g⟩::ol) ⟨fr,ds,h,none⟩ Q:=by
 obtain⟨h1,h2,h3⟩:=hS.get pk;have hat:=h1.trans hLO;exact WO.yld hg hd hf hx hat (Nb0 hl) (Zrw.mkS (lo:=wm) hat h2 hl hs k) fun b h' hk=>hk
theorem AsS.sp {JJ:Fr} {R:Bool ->H ->Prop} (hLO:LO= .loop .ready none fr n ps YC bd df) (hS:Sp wm T h0 G h) (pk:Pk G (ob wm l LO) Gr) (k:∀ h1,Sp wm T h0 (ob wm l (bsy LO)::Gr) h1 ->WC X n wm (some l) bd ⟨JJ,ds,h1,none⟩ (BdS n wm l fr ps YC bd df R)):AsS X n wm wm l fr ps YC bd df R .normal ⟨JJ,ds,h,none⟩:=by
 obtain⟨h1,h2,h3⟩:=hS.get pk;refine⟨⟨rfl,h1.trans hLO,fun h' u e=>k h' ?_⟩⟩;exact hS.one pk (u h2) (fun _ q=>q) ⟨by rw [e,hLO];rfl,h2,by rw [hLO];rfl⟩ fun _ q=>.inl q
theorem BdS.sp {JJ:Fr} {R:Bool ->H ->Prop} (hLO:LO= .loop .ready none fr n ps YC bd df) (hS:Sp wm T h0 G h) (pk:Pk G (ob wm l (bsy LO)) Gr) (k:∀ h1,Sp wm T h0 (ob wm l LO::Gr) h1 ->R true h1):BdS n wm l fr ps YC bd df R .normal ⟨JJ,ds,h,none⟩:=by
 obtain⟨h1,h2,h3⟩:=hS.get pk;refine⟨⟨h1.trans (by rw [hLO];rfl),.inl ⟨rfl,fun h' u e=>k h' ?_⟩⟩⟩;exact hS.one pk (u h2) (fun _ q=>q) ⟨by rw [e,hLO],h2,by rw [hLO];rfl⟩ fun _ q=>.inl q
theorem BdS.stop {JJ:Fr} {R:Bool ->H ->Prop} {e:XX} {c:Code} (hx:Zs8 e c) (hLO:LO= .loop .ready none fr n ps YC bd df) (hS:Sp wm T h0 G h) (pk:Pk G (ob wm l (bsy LO)) Gr) (k:∀ h1,Sp wm T h0 (ob wm l (lst true c LO)::Gr) h1 ->R false h1):BdS n wm l fr ps YC bd df R e ⟨JJ,ds,h,none⟩:=by
 obtain⟨h1,h2,h3⟩:=hS.get pk;refine⟨⟨h1.trans (by rw [hLO];rfl),.inr ⟨c,hx,fun h' u e=>k h' ?_⟩⟩⟩;exact hS.one pk (u h2) (fun _ q=>q) ⟨by rw [e,hLO];rfl,h2,by rw [hLO];rfl⟩ fun _ q=>.inl q
structure RgS (X:Ctx) (wm l:Nat) (fr:Fr) (n:Nat) (ps:Array Tmp) (YC bd:Code) (df:Nat) (ds:List Deferred) (Q:XX ->Fs ->Prop) (h:H):Prop where
 low:wm <=l
 k:(h.at l= .loop .ready none fr n ps YC bd df∧∀ h',Up wm (fun i=>i=l) h h' ->Q .normal ⟨fr,⟨.collected df,#[]⟩::ds,h',none⟩)∨
  (∃ c,h.at l= .loop .done (some c) fr n ps YC bd df∧∀ h',Up wm (fun i=>i=l) h h' ->WC X n wm none c ⟨fr,⟨.collected df,#[]⟩::ds,h',none⟩ Q)
theorem RgS.sp {Q:XX ->Fs ->Prop} (hLO:LO= .loop .ready none fr n ps YC bd df) (hS:Sp wm T h0 G h) (pk:Pk G (ob wm l LO) Gr) (k:∀ h',Sp wm T h0 Gr h' ->Q .normal ⟨fr,⟨.collected df,#[]⟩::ds,h',none⟩):RgS X wm l fr n ps YC bd df ds Q h:=by
 obtain⟨h1,h2,h3⟩:=hS.get pk;refine⟨h2,.inl ⟨h1.trans hLO,fun h' u=>k h' ?_⟩⟩;exact Sp.step (Ga:= [ob wm l LO]) (Gb:= []) (hS.perm pk.perm) u (fun i e=>⟨_,List.mem_singleton.2 rfl,e⟩) Ya.nil fun i ⟨A,m,f⟩=>by simp at m
theorem RgS.stop {Q:XX ->Fs ->Prop} {c:Code} (hLO:LO= .loop .ready none fr n ps YC bd df) (hS:Sp wm T h0 G h) (pk:Pk G (ob wm l (lst true c LO)) Gr) (k:∀ h',Sp wm T h0 Gr h' ->WC X n wm none c ⟨fr,⟨.collected df,#[]⟩::ds,h',none⟩ Q):RgS X wm l fr n ps YC bd df ds Q h:=by
 obtain⟨h1,h2,h3⟩:=hS.get pk;refine⟨h2,.inr ⟨c,h1.trans (by rw [hLO];rfl),fun h' u=>k h' ?_⟩⟩;exact Sp.step (Ga:= [ob wm l (lst true c LO)]) (Gb:= []) (hS.perm pk.perm) u (fun i e=>⟨_,List.mem_singleton.2 rfl,e⟩) Ya.nil fun i ⟨A,m,f⟩=>by simp at m
theorem WC.Zv8 {Q:XX ->Fs ->Prop} {gg:Operand} {f:FuncId} {first cap:List Value} (hS:Sp wm T h0 G h) (hg:Yz fr gg=some (.func (.func f) first.toArray cap.toArray)) (hf:(X.fns.get f).isSome=true)
 (k:∀ h' l df LO,LO=XQ.loop .ready none fr n ps YC bd df ->Sp wm T h0 (ob wm l LO::ob wm df .deferred::G) h' ->WR X f (first ++ ([Value.func (.yield l) #[] #[]] ++ cap)).toArray wm h' (fun _ h2=>RgS X wm l fr n ps YC bd df ds Q h2)):
 WC X n wm none (.rangeFunc gg ps YC bd) ⟨fr,ds,h,none⟩ Q:=by
 have s1:Sp wm T h0 (ob wm h.size .deferred::G) (h.push .deferred):=Zlr rfl hS
 have s2:Sp wm T h0 (ob wm (h.size + 1) (.loop .ready none fr n ps YC bd h.size)::ob wm h.size .deferred::G) ((h.push .deferred).push (.loop .ready none fr n ps YC bd h.size)):=by
  have:=Zlr (A:= .loop .ready none fr n ps YC bd h.size) rfl s1
  rwa [H.size_push] at this
 obtain⟨fn,hf⟩:=Option.isSome_iff_exists.1 hf;obtain⟨e,h3,⟨v,rfl,hr⟩,hj⟩:=k _ _ _ _ rfl s2
 have hac:WT (cfg X fun _=>false).X ((h.push .deferred).push (.loop .ready none fr n ps YC bd h.size)) (.func (.func f) first.toArray cap.toArray) [Value.func (.yield (h.size + 1)) #[] #[]]=some (.enter f (first ++ ([Value.func (.yield (h.size + 1)) #[] #[]] ++ cap)).toArray,.none):=by
  unfold WT;have:(cfg X fun _=>false).X.fns.get f=some fn:=hf;dsimp only;rw [this];simp only [List.append_assoc]
 rcases hr.k with⟨hat,hk⟩ | ⟨c,hat,hk⟩
 ·refine⟨.normal,_,hk (h3.put (h.size + 1) (.loop .exhausted none fr n ps YC bd h.size)) (Up.put hr.low (by rw [hat];rfl)),?_⟩;refine X4.2 (Wm (C:=cfg X fun _=>false) (ih:=Zag (.call f _ wm _) (.fin (.ret v) h3)) (Ur hj) ?_);show QR (cfg X fun _=>false) _ gg n wm none (h.size + 1) ⟨fr,⟨.collected h.size,#[]⟩::ds,(h.push .deferred).push (.loop .ready none fr n ps YC bd h.size),none⟩=_;unfold QR;dsimp only;rw [hg];dsimp only;rw [hac];dsimp only;unfold UN;rw [Us];dsimp only;rw [hat]
  rfl
 ·obtain⟨e2,s2,hq,hj2⟩:=hk (h3.put (h.size + 1) (.loop .exhausted (some c) fr n ps YC bd h.size)) (Up.put hr.low (by rw [hat];rfl));refine⟨e2,s2,hq,?_⟩
  classical
  let ih:Jp ->Option Y6:=fun j=>if j= .code c n wm none ⟨fr,⟨.collected h.size,#[]⟩::ds,h3.put (h.size + 1) (.loop .exhausted (some c) fr n ps YC bd h.size),none⟩ then some (.code e2 s2) else Zag (.call f (first ++ ([Value.func (.yield (h.size + 1)) #[] #[]] ++ cap)).toArray wm ((h.push .deferred).push (.loop .ready none fr n ps YC bd h.size))) (.fin (.ret v) h3) j
  have HI:∀ j r,ih j=some r ->Y3 X j r:=by
   intro j r e;dsimp only [ih] at e;split at e
   ·rename_i hj';cases e;rw [hj'];exact hj2
   ·exact Ur (X:=X) hj j r e
  refine X4.2 (Wm (C:=cfg X fun _=>false) (ih:=ih) HI ?_);show QR (cfg X fun _=>false) _ gg n wm none (h.size + 1) ⟨fr,⟨.collected h.size,#[]⟩::ds,(h.push .deferred).push (.loop .ready none fr n ps YC bd h.size),none⟩=_;unfold QR;dsimp only;rw [hg];dsimp only;rw [hac];dsimp only;unfold UN
  have i1:ih (.call f (first ++ ([Value.func (.yield (h.size + 1)) #[] #[]] ++ cap)).toArray wm ((h.push .deferred).push (.loop .ready none fr n ps YC bd h.size)))=some (.fin (.ret v) h3):=by
   dsimp only [ih];split
   ·rename_i hj';cases hj'
   ·exact Us _ _
  rw [i1];dsimp only;rw [hat];show ih (.code c n wm none _)=_;dsimp only [ih];rw [if_pos rfl]
theorem Znw {κ ν:Type} [DecidableEq κ] {kv:κ ->Value} {vv:ν ->Value} {kt vt:TypeId} {i:Nat} {ll:List (κ×ν)} {t:TypeId} {x y z:Operand} {k:κ} {v:ν} (hS:Sp wm T h0 G h) (pk:Pk G (mp wm kv vv (some i) ll) Gr) (K:ZcI X.P kt kv) (hu:X.P.underlying t=some (.map kt vt)) (hx:Yz fr x=some (.map (some i))) (hy:Yz fr y=some (kv k)) (hz:Yz fr z=some (vv v)):
 HU X wm ⟨none,.insert t x y z,ty,p,af,g⟩ fr h (fun j=>j=i) (fun h'=>Sp wm T h0 (mp wm kv vv (some i) (ZgV ll k v)::Gr) h'):=
 ZDd (ty:=ty) (p:=p) (af:=af) (g:=g) hS pk K hu hx hy hz
section
variable {sf:ST} {m:Nat}
theorem WX.ZdL {Q:Fr ->H ->Prop} {o:Oper} {c:Bool} (_:Zh ops o fr c) (h1:c=true ->WX X n wm rd ops sf m h (o::ol) fr Q) (h2:c=false ->WX X n wm rd ops sf m h (o::ol) fr Q):WX X n wm rd ops sf m h (o::ol) fr Q:=by
 cases c
 ·exact h2 rfl
 ·exact h1 rfl
theorem Sp.djs {T0:Nat ->Prop} {G Ga Gr:List (Ast wm)} {B:Ast wm} (s:Sp wm T0 h0 G h) (p:Sel G (B::Ga) Gr):∀ x,Qn Ga x ->¬ B.fp x:=fun x ⟨A,hA,fa⟩ fb=>
 (List.pairwise_cons.1 (s.Zhl p).dis).1 A hA x fb fa
theorem WX.JU {Q:Fr ->H ->Prop} {op:Op} {c:Bool} (hg:Zh ops ⟨some d,op,ty,p,af,g⟩ fr c) (hc:c=false) (hd:Nat.blt d n=true) (k:WX X n wm rd ops sf (m + 1) h ol (Tr.set fr d undef) Q) (hM:okM ops sf m ⟨some d,op,ty,p,af,g⟩=true):WX X n wm rd ops sf m h (⟨some d,op,ty,p,af,g⟩::ol) fr Q:=WX.off (hg.off hc) hd k hM
end
theorem ZsY {β:Type} {b:Bool} {x:Option β} {r:β} (h:(bif b then none else x)=some r):b=false∧x=some r:=by
 cases b
 ·exact⟨rfl,h⟩
 ·cases h
theorem Uk (b:Bool):b=true∨b=false:=by cases b <;> simp
end
section
def ZOT (L:List Nat):List Deferred:=L.map fun r=>⟨.collected r,#[]⟩
def cds (wm:Nat) (L:List Nat):Ast wm where
 P:=fun h=>(∀ r ∈ L,h.at r= .deferred∧wm <=r)∧L.Nodup
 fp:=fun i=>i ∈ L
 loc:=fun _ k ⟨h1,h2⟩=>⟨fun r hr=>⟨by rw [k r hr];exact(h1 r hr).1,(h1 r hr).2⟩,h2⟩
 own:=fun⟨h1,_⟩ e=>⟨(h1 _ e).2,by rw [(h1 _ e).1];rfl⟩
section
variable {X:Ctx} {n wm:Nat} {G G1 G2 Gr:List (Ast wm)} {h h0:H} {T:Nat ->Prop} {df:Nat} {L:List Nat} {fr:Fr} {ds:List Deferred}
theorem Sp.ZUd (s:Sp wm T h0 G h):Sp wm T h0 (cds wm []::G) h:=s.add ⟨fun r hr=>(by cases hr),List.nodup_nil⟩ (fun i hi=>(by cases hi))
theorem Sp.ZUc (s:Sp wm T h0 G h) (p:Pk G (ob wm df .deferred) G1) (q:Pk G1 (cds wm L) G2):Sp wm T h0 (cds wm (df::L)::G2) h:=by
 have s:=s.perm (p.perm.trans (List.Perm.cons _ q.perm));have h1:=s.hold.all (ob wm df .deferred) (by simp);have h2:=s.hold.all (cds wm L) (by simp);have d:=s.hold.dis;rw [List.pairwise_cons,List.pairwise_cons] at d;obtain⟨d1,d2,d3⟩:=d;refine⟨s.wl,s.fz,s.keep,⟨fun A m=>?_,List.pairwise_cons.2 ⟨fun B m i f f'=>?_,d3⟩⟩,fun i f=>?_⟩
 ·rcases List.mem_cons.1 m with m | m
  ·rw [m];refine⟨fun r hr=>?_,List.nodup_cons.2 ⟨fun z=>d1 (cds wm L) (by simp) df rfl z,h2.2⟩⟩;rcases List.mem_cons.1 hr with e | e
   ·rw [e];exact⟨h1.1,h1.2.1⟩
   ·exact h2.1 r e
  ·exact s.hold.all A (by simp [m])
 ·rcases List.mem_cons.1 f with e | e
  ·exact d1 B (by simp [m]) i e f'
  ·exact d2 B m i e f'
 ·obtain⟨A,m,f⟩:=f;rcases List.mem_cons.1 m with m | m
  ·rw [m] at f;rcases List.mem_cons.1 f with e | e
   ·exact s.inn i ⟨ob wm df .deferred,by simp,e⟩
   ·exact s.inn i ⟨cds wm L,by simp,e⟩
  ·exact s.inn i ⟨A,by simp [m],f⟩
theorem QZ.Zy7 {fn:Func} {R:Kj ->H ->Prop}:∀ {L:List Nat} {G:List (Ast wm)} {h:H} (_:Sp wm T h0 G h) (_:Pk G (cds wm L) Gr) (_:∀ h',Sp wm T h0 Gr h' ->QZ X fn wm R .ret ⟨fr,ds,h',none⟩),QZ X fn wm R .ret ⟨fr,ZOT L ++ ds,h,none⟩
 | [],_,h,hS,pk,k=>k h (hS.drop pk)
 | r::L,G,h,hS,pk,k=>by
   obtain⟨h1,h2⟩:=hS.get pk;have hr:=h1 r (by simp);have hn:=List.nodup_cons.1 h2;refine QZ.col wm hr.2 hr.1 hr.2 fun h' u=>?_
   have s:Sp wm T h0 (cds wm L::Gr) h':=Sp.step (Ga:= [cds wm (r::L)]) (Gb:= [cds wm L]) (hS.perm pk.perm) u (fun i e=>⟨_,List.mem_singleton.2 rfl,by rw [e];exact List.mem_cons_self⟩)
    (Ya.one ⟨fun x hx=>⟨by rw [u.keep x (X9 (h1 x (by simp [hx])).1 rfl) (fun e=>hn.1 (e ▸ hx))];exact(h1 x (by simp [hx])).1,(h1 x (by simp [hx])).2⟩,hn.2⟩)
    fun i ⟨A,m,f⟩=>.inl ⟨_,List.mem_singleton.2 rfl,by rw [List.mem_singleton.1 m] at f;exact List.mem_cons_of_mem _ f⟩
   exact QZ.Zy7 s .z k
end
end
section
variable {X:Ctx} {n wm wm':Nat} {rd:Option Nat} {ops:Array Oper} {ol:List Oper} {m:Nat} {sf:ST} {fr:Fr} {h h0:H} {ty:TypeId} {p:String} {af:Array Edge} {g:Option (Nat×Bool)} {T:Nat ->Prop} {G Gr:List (Ast wm)} {d:Nat}
theorem ZVl {a b:Bool} (ha:a=true) (h:(a && b)=false):b=false:=by cases a <;> simp_all
section
variable {α:Type} {e:JS α} {a a1 a2:Option Addr} {nn c n1 c1 n2 c2:Nat} {ps:Nat ->Option Addr×Nat×Nat} {xs:List (List α)}
theorem Sp.ZKU {x1 x2:List α} (s:Sp wm T h0 G h) (pk:Pk G (ow wm (Zlm 1 Nat.one_pos) a nn c [⟨[.slice a1 n1 c1],rfl,rfl⟩,⟨[.slice a2 n2 c2],rfl,rfl⟩]) Gr) (k1:n1=x1.length) (s1:Sl e h.size h a1 c1 x1) (k2:n2=x2.length) (s2:Sl e h.size h a2 c2 x2):Sl (XT e) h.size h a c [x1,x2]:=by
 obtain⟨h1,so⟩:=s.get pk;have hm:=so.max;have hc:=so.cap;refine⟨hm,hc,so.nl,.inr ?_⟩;rcases so.mem with⟨_,_,q⟩ | ⟨i,o,cs,q1,q2,q3,q4,q5,q6⟩
 ·cases q
 ·refine⟨i,o,cs,true,_,q1,q3,.inl (X9 q3 rfl),⟨q6.len,fun k x hk=>?_⟩⟩
  match k with
  | 0=>
    obtain⟨_,g1,_⟩:=q6.get 0 _ rfl;simp at hk;subst hk;exact⟨(a1,c1),by rw [k1] at g1;exact g1,s1⟩
  | 1=>
    obtain⟨_,g1,_⟩:=q6.get 1 _ rfl;simp at hk;subst hk;exact⟨(a2,c2),by rw [k2] at g1;exact g1,s2⟩
  | k + 2=>simp at hk
end
section
variable {α:Type} {e:JS α} {t el:TypeId} {x:Operand} {a:Option Addr} {nn c:Nat} {xs zs:List α} {a1:Int}
theorem X7.cases {α:Type} {e:JS α} {a:Option Addr} {c:Nat} {xs:List α} (s:X7 e wm wm' h a c xs):(a=none∧c=0∧xs= [])∨∃ q,a=some q:=by
 rcases s.mem with⟨h1,h2,h3⟩ | ⟨i,o,cs,h1,_⟩
 ·exact .inl ⟨h1,h2,h3⟩
 ·exact .inr ⟨_,h1⟩
theorem ZuF {P:Program} {t:TypeId} {x y:Operand} {k k':IntKind} {a b c:Int} (hb:0 <=b) (hc:c=a.fdiv (2 ^ (min b.toNat k.bits))):JH P .shr t x y (.int k a) (.int k' b)=some (.val (.int k c),.none):=by
 have hp:(plain (.int k a) && plain (.int k' b))=true:=rfl;unfold JH;rw [hp,Cq1]
 have e1:binOp .shr t (.int k a) (.int k' b)=pure (.int k c):=by
  show Op.shift .shr k a k' b=_;unfold Op.shift;rw [if_neg (by omega),hc]
 have hg:(do eqGuard .shr t x y (.int k a) (.int k' b);binOp .shr t (.int k a) (.int k' b):Sem Value)=pure (.int k c):=by
  rw [e1];rfl
 rw [hg];rfl
theorem ZuG {P:Program} {t:TypeId} {x y:Operand} {a:Int}:JH P .shr t x y (.int .u64 a) (.int .u64 1)=some (.val (.int .u64 (a / 2)),.none):=
 ZuF (by decide) (by
  show a / 2=a.fdiv 2;rw [Int.fdiv_eq_ediv_of_nonneg a (by decide)])
theorem ZE5 {lo:Operand} {kk:IntKind} (so:Sl e wm' h a c xs) (hev:c % 2=0) (hn:nn=xs.length) (hu:X.P.underlying t=some (.slice el)) (hs:Yl X.P el=some e.sz) (hx:Yz fr x=some (.slice a nn c))
 (hlo:Yz fr lo=some (.int kk a1)) (hz:slL xs a1 xs.length=some zs):
 HE X ⟨some d,.slice t x (some lo) none none,ty,p,af,g⟩ fr h (fun v=>∃ a' c',v= .slice a' zs.length c'∧Zpk e a c xs a' c' zs):=by
 obtain⟨l,k,rfl,hk,hlk,hkx,rfl⟩:=KE hz;have hk:k=xs.length:=by omega
 subst hk hn;have hlen:((xs.take xs.length).drop l).length=xs.length - l:=by rw [List.length_drop,List.length_take];omega
 have e1:∀ q,obN (some (.int kk (l:Int))) q=some l:=fun q=>rfl
 have e2:obN none xs.length=some xs.length:=rfl;have hcap:=so.cap;rcases so.nl with⟨rfl,rfl⟩ | ⟨rfl,rfl⟩ | ⟨i,o,rfl⟩
 ·have hx0:xs= []:=List.length_eq_zero_iff.1 (by omega);subst hx0;have hl0:l=0:=by simpa using hlk
  subst hl0;refine⟨.slice none 0 0,Q9 hx (XI hlo) rfl rfl ?_,none,0,rfl,Zg9 rfl⟩
  have:aslice X.P h t (.slice none 0 0) (some (.int kk ((0:Nat):Int))) none none=some (.slice none 0 0):=by
   unfold aslice;simp only [hu,hs]
   rfl
  exact this
 ·have hx0:xs= []:=List.length_eq_zero_iff.1 (by omega);subst hx0;have hl0:l=0:=by simpa using hlk
  subst hl0;refine⟨.slice (some ⟨0,0,some 0⟩) 0 0,Q9 hx (XI hlo) rfl rfl ?_,_,0,rfl,Zg9 rfl⟩
  have:aslice X.P h t (.slice (some ⟨0,0,some 0⟩) 0 0) (some (.int kk ((0:Nat):Int))) none none=some (.slice (some ⟨0,0,some 0⟩) 0 0):=by
   unfold aslice;simp only [hu,hs]
   rfl
  exact this
 ·have hb:Nat.beq (c % 2) 0=true:=by rw [hev];rfl
  have hd:(Nat.ble l xs.length && Nat.ble xs.length (c / 2))=true:=by rw [Nm0 hlk,Nm0 hcap];rfl
  refine⟨.slice (some ⟨i,bif Nat.beq (c / 2) l then o else o + l * e.sz,none⟩) (xs.length - l) (2 * (c / 2 - l)),Q9 hx (XI hlo) rfl rfl ?_,_,_,by rw [hlen],ZhK hlk (Nat.le_refl _) ?_⟩
  ·unfold aslice;simp only [hu,hs,e1,e2,hd,hb,Cq1]
  ·cases hcl:Nat.beq (c / 2) l with
   | true=>right;have:=Nb0 hcl;exact⟨rfl,this,by omega⟩
   | false=>left;exact⟨rfl,by omega⟩
end
end
end Go.YD
end
end
section
set_option maxRecDepth 100000
noncomputable section
namespace Go.Proofs.YtcnahmgekicbdaaGreat
section
structure ZO where
 at_:Int
 Uv:Int
 deriving DecidableEq,Inhabited
structure Zb where
 qG:Int
 Ze:(List ZO)
 deriving DecidableEq,Inhabited
structure Zf where
 kZ:Int
 kV:Int
 kX:Int
 n:Int
 deriving DecidableEq,Inhabited
structure Zd where
 kW:Int
 kV:Int
 kX:Int
 n:Int
 qX:(List Int)
 deriving DecidableEq,Inhabited
structure Zn where
 ZQ:Int
 kG:(List Zd)
 deriving DecidableEq,Inhabited
structure Zi where
 qV:(List Int)
 qX:(List (List Int))
 qZ:(List (List Int))
 Zl:(List (List Int))
 Zu:(List (List Zd))
 kQ:(List Zn)
 kK:Int
 deriving DecidableEq,Inhabited
structure ZC where
 Za:Zi
 qK:Zb
 kU:(List Zf)
 deriving DecidableEq,Inhabited
structure Zx where
 act:Int
 a:Int
 b:Int
 deriving DecidableEq,Inhabited
structure Yx where
 e0:Int
 e1:Int
 deriving DecidableEq,Inhabited
def ZIn:Option Bool:=some true
def Zos (p0:List Int) (k:Int) (p2:List Int):Option (List Int):=bif Nat.ble p0.length 1000000 && (Nat.beq p2.length 1 && (decide (0 <=k) && decide (k <= (p0.length:Int)))) then some (p0.take k.toNat ++ p2 ++ p0.drop k.toNat) else none
end
section
open Go.YD Go.Lf
def Zj:JS ZO where
 sz:=2
 pos:=by decide
 Ky:=Unit
 dflt:= ()
 sh:=fun _ x=>[.int .i64 x.at_,.int .i64 x.Uv]
 len:=fun _ _=>rfl
 one:=fun _ _=>rfl
 F:=fun _ _ _ _=>True
 mono:=fun _ x=>x
 up:=fun _ x=>x
def ZpO:JS Zb where
 sz:=2
 pos:=by decide
 Ky:= (Option Addr×Nat)
 dflt:= (none,0)
 sh:=fun p x=>[.int .i64 x.qG,.slice p.1 x.Ze.length p.2]
 len:=fun _ _=>rfl
 one:=fun _ _=>rfl
 F:=fun wm h p x=>Sl Zj wm h p.1 p.2 x.Ze
 mono:=fun f x=>x.mono f
 up:=fun f x=>x.up f
def Zz:JS Zf where
 sz:=4
 pos:=by decide
 Ky:=Unit
 dflt:= ()
 sh:=fun _ x=>[.int .i64 x.kZ,.int .i64 x.kV,.int .i64 x.kX,.int .i64 x.n]
 len:=fun _ _=>rfl
 one:=fun _ _=>rfl
 F:=fun _ _ _ _=>True
 mono:=fun _ x=>x
 up:=fun _ x=>x
def Zk:JS Zd where
 sz:=5
 pos:=by decide
 Ky:= (Option Addr×Nat)
 dflt:= (none,0)
 sh:=fun p x=>[.int .i64 x.kW,.int .i64 x.kV,.int .i64 x.kX,.int .i64 x.n,.slice p.1 x.qX.length p.2]
 len:=fun _ _=>rfl
 one:=fun _ _=>rfl
 F:=fun wm h p x=>Sl (Zm .i64) wm h p.1 p.2 x.qX
 mono:=fun f x=>x.mono f
 up:=fun f x=>x.up f
def Ko:JS Zn where
 sz:=2
 pos:=by decide
 Ky:= (Option Addr×Nat)
 dflt:= (none,0)
 sh:=fun p x=>[.int .i64 x.ZQ,.slice p.1 x.kG.length p.2]
 len:=fun _ _=>rfl
 one:=fun _ _=>rfl
 F:=fun wm h p x=>Sl Zk wm h p.1 p.2 x.kG
 mono:=fun f x=>x.mono f
 up:=fun f x=>x.up f
def Xh:JS Zx where
 sz:=3
 pos:=by decide
 Ky:=Unit
 dflt:= ()
 sh:=fun _ x=>[.int .i64 x.act,.int .i64 x.a,.int .i64 x.b]
 len:=fun _ _=>rfl
 one:=fun _ _=>rfl
 F:=fun _ _ _ _=>True
 mono:=fun _ x=>x
 up:=fun _ x=>x
def Zeb:JS Yx where
 sz:=2
 pos:=by decide
 Ky:=Unit
 dflt:= ()
 sh:=fun _ x=>[.int .i64 x.e0,.int .i64 x.e1]
 len:=fun _ _=>rfl
 one:=fun _ _=>rfl
 F:=fun _ _ _ _=>True
 mono:=fun _ x=>x
 up:=fun _ x=>x
def Jy (x:Yx):Value:= .agg [.int .i64 x.e0,.int .i64 x.e1].toArray
def Zv:Ne Zn where
 sz:=2
 pos:=by decide
 Ky:=Option Addr×Nat×Nat
 dflt:= (none,0,0)
 sh:=fun p x=>[.int .i64 x.ZQ,.slice p.1 p.2.1 p.2.2]
 len:=fun _ _=>rfl
 one:=fun _ _=>rfl
 «YC»:=fun wm p x=>[ow wm Zk p.1 p.2.1 p.2.2 x.kG]
theorem Zeo {wm:Nat}:(∀ h:H,Ya (Zv.YC wm (none,0,0) (default:Zn)) h)∧∀ i,¬ Qn (Zv.YC wm (none,0,0) (default:Zn)) i:=Zp5 (e:=Zk)
theorem _root_.Go.YD.Sp.ZaS {wm:Nat} {h h0:H} {T:Nat ->Prop} {G Gr:List (Ast wm)} {a a1:Option Addr} {nn c n1 c1:Nat} {ps:Nat ->Option Addr×Nat×Nat} {xs:List Zn} {k:Int} {x:Zn} (s:Sp wm T h0 G h) (pk:Pk G (Z8 wm Zv a nn c ps xs) Gr) (hk:ZM xs k=some x) (hp:ps k.toNat= (a1,n1,c1)):Sp wm T h0 (nsh wm Zv a nn c ps xs k.toNat [.int .i64 x.ZQ,.slice a1 n1 c1]::ow wm Zk a1 n1 c1 x.kG::Gr) h:=by
 have:=s.take pk hk;rw [hp] at this;exact this
theorem _root_.Go.YD.Sp.Zbd {wm:Nat} {h h0:H} {T:Nat ->Prop} {G Gr:List (Ast wm)} {a a1:Option Addr} {nn c n1 c1:Nat} {ps:Nat ->Option Addr×Nat×Nat} {xs:List Zn} {k:Int} {x0:Zn} {v0:Int} {y:List Zd} (s:Sp wm T h0 G h) (sel:Sel G [nsh wm Zv a nn c ps xs k.toNat [.int .i64 v0,.slice a1 n1 c1],ow wm Zk a1 n1 c1 y] Gr) (hk:ZM xs k=some x0):∃ ps':Nat ->Option Addr×Nat×Nat,ps' k.toNat= (a1,n1,c1)∧Sp wm T h0 (Z8 wm Zv a nn c ps' (Y4 xs k ⟨v0,y⟩)::Gr) h:=
 ⟨_,upd_same ps k.toNat (a1,n1,c1),Sp.fill (e:=Zv) (a1,n1,c1) ⟨v0,y⟩ s hk sel rfl⟩
theorem _root_.Go.YD.Sp.Zba {wm:Nat} {h h0:H} {T:Nat ->Prop} {G Gr:List (Ast wm)} {a a1:Option Addr} {nn c n1 c1:Nat} {ps:Nat ->Option Addr×Nat×Nat} {xs:List Zn} {k:Int} {x:Zn} (s:Sp wm T h0 G h) (pk:Pk G (Z8 wm Zv a nn c ps xs) Gr) (hk:ZM xs k=some x) (hp:ps k.toNat= (a1,n1,c1)):n1=x.kG.length∧Src Zk wm h a1 c1 x.kG∧Sl Zk h.size h a1 c1 x.kG:=by
 have:= (s.inN pk hk hp).get (A:=ow wm Zk a1 n1 c1 x.kG) .z;exact⟨this.1,this.2.src,this.2.src.sl s.hw⟩
theorem _root_.Go.YD.Sp.Zbl {wm:Nat} {h h0:H} {T:Nat ->Prop} {G Gr:List (Ast wm)} {a:Option Addr} {nn c:Nat} {ps:Nat ->Option Addr×Nat×Nat} {xs:List Zn} {k:Int} {x:Zn} (s:Sp wm T h0 G h) (pk:Pk G (Z8 wm Zv a nn c ps xs) Gr) (hk:ZM xs k=some x):∃ b o a1 n1 c1,ps k.toNat= (a1,n1,c1)∧a=some ⟨b,o,none⟩∧At h b (o + k.toNat * 2) [.int .i64 x.ZQ,.slice a1 n1 c1]:=by
 obtain⟨b,o,⟨a1,n1,c1⟩,h1,h2,h3⟩:=s.atN pk hk;exact⟨b,o,a1,n1,c1,h1,h2,h3⟩
theorem Z9:NeR Zv Ko:= ⟨rfl,fun{wm h p x} hw hh=>by
 obtain⟨h1,h2⟩:=hh.get (A:=ow wm Zk p.1 p.2.1 p.2.2 x.kG) .z;exact⟨(p.1,p.2.2),by show([.int .i64 x.ZQ,.slice p.1 p.2.1 p.2.2]:List Value)= [.int .i64 x.ZQ,.slice p.1 x.kG.length p.2.2];rw [h1],h2.src.sl hw⟩⟩
theorem ZKD:XX.P.underlying 3=some (.int .i64):=Kq0
theorem ZQs:XX.P.underlying 4=some .bool:=Kq0
theorem ZvF:XX.P.underlying 22=some (.slice 66):=Kq0
theorem Znk:XX.P.underlying 25=some (.slice 74):=Kq0
theorem ZrE:XX.P.underlying 28=some (.slice 71):=Kq0
theorem Zar:XX.P.underlying 29=some (.slice 35):=Kq0
theorem ZrD:XX.P.underlying 30=some (.slice 69):=Kq0
theorem ZvE:XX.P.underlying 31=some (.slice 99):=Kq0
theorem ZvD:XX.P.underlying 34=some (.slice 64):=Kq0
theorem Um:XX.P.underlying 35=some (.slice 3):=Kq0
theorem ZKC:XX.P.underlying 60=some (.slice 4):=Kq0
theorem UD:XX.P.underlying 69=some (.slice 121):=Kq0
theorem ZvC:XX.P.underlying 77=some (.map 67 3):=Kq0
theorem ZvG:XX.P.underlying 132=some (.int .u64):=Kq0
theorem Zad:XX.P.underlying 138=some (.map 119 124):=Kq0
theorem Zdo:YK XX.P 3=some false:=Kq0
theorem ZI9:YK XX.P 4=some false:=Kq0
theorem ZEy:YK XX.P 22=some false:=Kq0
theorem Zs6:YK XX.P 24=some true:=Kq0
theorem ZEx:YK XX.P 28=some false:=Kq0
theorem Zpb:YK XX.P 29=some false:=Kq0
theorem ZzG:YK XX.P 30=some false:=Kq0
theorem ZEw:YK XX.P 31=some false:=Kq0
theorem Zju:YK XX.P 33=some true:=Kq0
theorem ZEv:YK XX.P 34=some false:=Kq0
theorem Zs5:YK XX.P 35=some false:=Kq0
theorem Zpa:YK XX.P 36=some false:=Kq0
theorem ZPq:YK XX.P 62=some false:=Kq0
theorem Zs4:YK XX.P 64=some true:=Kq0
theorem Zo9:YK XX.P 66=some true:=Kq0
theorem ZzF:YK XX.P 69=some false:=Kq0
theorem ZzE:YK XX.P 71=some false:=Kq0
theorem ZPp:YK XX.P 72=some false:=Kq0
theorem ZzD:YK XX.P 74=some true:=Kq0
theorem ZEt:YK XX.P 87=some false:=Kq0
theorem ZEs:YK XX.P 99=some true:=Kq0
theorem ZJc:YK XX.P 106=some true:=Kq0
theorem ZJb:YK XX.P 112=some false:=Kq0
theorem ZJa:YK XX.P 119=some false:=Kq0
theorem Zm0:YK XX.P 121=some true:=Kq0
theorem Uq:Yl XX.P 3=some 1:=Kq0
theorem ZKK:Yl XX.P 4=some 1:=Kq0
theorem Zlg:Yl XX.P 24=some 2:=Kq0
theorem ZE2:Yl XX.P 28=some 1:=Kq0
theorem ZvQ:Yl XX.P 29=some 1:=Kq0
theorem ZE1:Yl XX.P 30=some 1:=Kq0
theorem ZE0:Yl XX.P 31=some 1:=Kq0
theorem ZbZ:Yl XX.P 33=some 7:=Kq0
theorem ZEZ:Yl XX.P 34=some 1:=Kq0
theorem Jk:Yl XX.P 35=some 1:=Kq0
theorem ZEY:Yl XX.P 36=some 1:=Kq0
theorem ZEX:Yl XX.P 62=some 1:=Kq0
theorem Zfo:Yl XX.P 64=some 4:=Kq0
theorem ZdB:Yl XX.P 66=some 2:=Kq0
theorem ZbY:Yl XX.P 69=some 1:=Kq0
theorem Zfn:Yl XX.P 71=some 1:=Kq0
theorem ZdA:Yl XX.P 74=some 3:=Kq0
theorem Zlf:Yl XX.P 99=some 2:=Kq0
theorem ZAJ:Yl XX.P 106=some 3:=Kq0
theorem ZAI:Yl XX.P 112=some 1:=Kq0
theorem Q0:Yl XX.P 121=some 5:=Kq0
theorem ZlW:ZG XX.P 24 0 0:=ZG.of Kq0
theorem ZBV:ZG XX.P 24 1 1:=ZG.of Kq0
theorem ZBU:ZG XX.P 33 0 0:=ZG.of Kq0
theorem ZsD:ZG XX.P 33 1 1:=ZG.of Kq0
theorem ZBT:ZG XX.P 33 2 2:=ZG.of Kq0
theorem ZBS:ZG XX.P 33 3 3:=ZG.of Kq0
theorem ZBR:ZG XX.P 33 4 4:=ZG.of Kq0
theorem ZsC:ZG XX.P 33 5 5:=ZG.of Kq0
theorem ZBQ:ZG XX.P 33 6 6:=ZG.of Kq0
theorem ZBP:ZG XX.P 64 0 0:=ZG.of Kq0
theorem ZBO:ZG XX.P 64 1 1:=ZG.of Kq0
theorem ZBN:ZG XX.P 64 2 2:=ZG.of Kq0
theorem ZBM:ZG XX.P 64 3 3:=ZG.of Kq0
theorem ZBL:ZG XX.P 66 0 0:=ZG.of Kq0
theorem ZBK:ZG XX.P 66 1 1:=ZG.of Kq0
theorem ZBJ:ZG XX.P 74 0 0:=ZG.of Kq0
theorem ZBI:ZG XX.P 74 1 1:=ZG.of Kq0
theorem ZBH:ZG XX.P 74 2 2:=ZG.of Kq0
theorem ZlV:ZG XX.P 91 0 0:=ZG.of Kq0
theorem ZlU:ZG XX.P 91 1 7:=ZG.of Kq0
theorem ZBG:ZG XX.P 91 2 9:=ZG.of Kq0
theorem ZBF:ZG XX.P 96 0 0:=ZG.of Kq0
theorem ZBE:ZG XX.P 96 1 2:=ZG.of Kq0
theorem ZBD:ZG XX.P 96 2 9:=ZG.of Kq0
theorem ZsB:ZG XX.P 99 0 0:=ZG.of Kq0
theorem ZlT:ZG XX.P 99 1 1:=ZG.of Kq0
theorem ZyA:ZG XX.P 106 0 0:=ZG.of Kq0
theorem Zyz:ZG XX.P 106 1 2:=ZG.of Kq0
theorem Zyy:ZG XX.P 121 0 0:=ZG.of Kq0
theorem Zyx:ZG XX.P 121 1 1:=ZG.of Kq0
theorem Zyw:ZG XX.P 121 2 2:=ZG.of Kq0
theorem Zyv:ZG XX.P 121 3 3:=ZG.of Kq0
theorem Zom:ZG XX.P 121 4 4:=ZG.of Kq0
theorem ZbT:Y7 XX.P 3=some (.int .i64 0):=Kq0
theorem ZJ0:Y7 XX.P 4=some (.bool false):=Kq0
theorem Zvb:Y7 XX.P 33=some (.agg #[.slice none 0 0,.slice none 0 0,.slice none 0 0,.slice none 0 0,.slice none 0 0,.slice none 0 0,.int .i64 0]):=Kq0
theorem Zfg:Y7 XX.P 35=some (.slice none 0 0):=Kq0
theorem ZEL:Y7 XX.P 36=some (.int .i64 0):=Kq0
theorem Zpr:Y7 XX.P 64=some (.agg #[.int .i64 0,.int .i64 0,.int .i64 0,.int .i64 0]):=Kq0
theorem ZEK:Y7 XX.P 66=some (.agg #[.int .i64 0,.int .i64 0]):=Kq0
theorem Zva:Y7 XX.P 67=some (.agg #[.int .i64 0,.int .i64 0]):=Kq0
theorem Zu9:Y7 XX.P 69=some (.slice none 0 0):=Kq0
theorem Zu8:Y7 XX.P 71=some (.int .i64 0):=Kq0
theorem ZhD:Y7 XX.P 74=some (.agg #[.int .i64 0,.int .i64 0,.int .i64 0]):=Kq0
theorem Zu7:Y7 XX.P 91=some (.agg #[.slice none 0 0,.slice none 0 0,.slice none 0 0,.slice none 0 0,.slice none 0 0,.slice none 0 0,.int .i64 0,.int .i64 0,.slice none 0 0,.slice none 0 0]):=Kq0
theorem ZEJ:Y7 XX.P 96=some (.agg #[.int .i64 0,.slice none 0 0,.slice none 0 0,.slice none 0 0,.slice none 0 0,.slice none 0 0,.slice none 0 0,.slice none 0 0,.int .i64 0,.slice none 0 0]):=Kq0
theorem Zu6:Y7 XX.P 99=some (.agg #[.int .i64 0,.slice none 0 0]):=Kq0
theorem ZAd:Y7 XX.P 106=some (.agg #[.int .i64 0,.slice none 0 0,.slice none 0 0]):=Kq0
theorem ZAc:Y7 XX.P 112=some (.nilFunc):=Kq0
theorem ZaN:Y7 XX.P 121=some (.agg #[.int .i64 0,.int .i64 0,.int .i64 0,.int .i64 0,.slice none 0 0]):=Kq0
theorem ZcL:Y7 XX.P 124=some (.nilFunc):=Kq0
theorem ZEo:Zdf XX.P 33 [.slice none 0 0,.slice none 0 0,.slice none 0 0,.slice none 0 0,.slice none 0 0,.slice none 0 0,.int .i64 0] [(0,1),(1,1),(2,1),(3,1),(4,1),(5,1),(6,1)]:= ⟨_,_,Zvb,rfl,Tryz.underlying33,by kernel_rfl⟩
theorem ZO6:Zdf XX.P 64 [.int .i64 0,.int .i64 0,.int .i64 0,.int .i64 0] [(0,1),(1,1),(2,1),(3,1)]:= ⟨_,_,Zpr,rfl,Tryz.underlying64,by kernel_rfl⟩
theorem Zzk:Zta XX.P 67 [.int .i64 0,.int .i64 0] 1:= ⟨_,_,_,Zva,rfl,Tryz.underlying67,by kernel_rfl⟩
theorem Zzj:Zdf XX.P 74 [.int .i64 0,.int .i64 0,.int .i64 0] [(0,1),(1,1),(2,1)]:= ⟨_,_,ZhD,rfl,Tryz.underlying74,by kernel_rfl⟩
theorem ZO5:Zdf XX.P 91 [.slice none 0 0,.slice none 0 0,.slice none 0 0,.slice none 0 0,.slice none 0 0,.slice none 0 0,.int .i64 0,.int .i64 0,.slice none 0 0,.slice none 0 0] [(0,7),(7,2),(9,1)]:= ⟨_,_,Zu7,rfl,Tryz.underlying91,by kernel_rfl⟩
theorem Zjm:Zdf XX.P 121 [.int .i64 0,.int .i64 0,.int .i64 0,.int .i64 0,.slice none 0 0] [(0,1),(1,1),(2,1),(3,1),(4,1)]:= ⟨_,_,ZaN,rfl,Tryz.underlying121,by kernel_rfl⟩
theorem Zzv:ZcK XX.P #[28,28] 1 8:= ⟨71,.int .i64 0,by kernel_rfl⟩
theorem Zjr:ZcK XX.P #[29,29] 1 24:= ⟨35,.slice none 0 0,by kernel_rfl⟩
theorem Zzu:ZcK XX.P #[34,34] 4 32:= ⟨64,.agg #[.int .i64 0,.int .i64 0,.int .i64 0,.int .i64 0],by kernel_rfl⟩
theorem ZcA:ZcK XX.P #[35,35] 1 8:= ⟨3,.int .i64 0,by kernel_rfl⟩
theorem Ze1:ZcK XX.P #[69,69] 5 56:= ⟨121,.agg #[.int .i64 0,.int .i64 0,.int .i64 0,.int .i64 0,.slice none 0 0],by kernel_rfl⟩
theorem Zxi:ZcI XX.P 67 Jy:=ZcI.ZVj (et:=3) Kq0 Kq0 Kq0 (fun x=>x.e0) (fun x=>x.e1) (fun _=>rfl) (fun x y=>by cases x;cases y;simp)
theorem Zai:ZcI XX.P 119 (Value.int .i64):=ZcI.int Kq0
theorem ZO4:Zam XX.P 3=some 8:=Kq0
theorem ZIY:Zam XX.P 69=some 24:=Kq0
theorem ZIX:Zam XX.P 99=some 32:=Kq0
theorem ZNp:(XX.fns.get 14).isSome=true:=Kq0
theorem ZDV:(XX.fns.get 15).isSome=true:=Kq0
theorem ZNo:(XX.fns.get 17).isSome=true:=Kq0
theorem ZNn:(XX.fns.get 23).isSome=true:=Kq0
theorem ZNm:(XX.fns.get 24).isSome=true:=Kq0
theorem ZNl:(XX.fns.get 30).isSome=true:=Kq0
theorem ZDU:(XX.fns.get 31).isSome=true:=Kq0
theorem ZNk:(XX.fns.get 32).isSome=true:=Kq0
theorem Zsy:(XX.fns.get 33).isSome=true:=Kq0
theorem ZNj:(XX.fns.get 34).isSome=true:=Kq0
theorem ZNi:(XX.fns.get 38).isSome=true:=Kq0
theorem ZNh:(XX.fns.get 41).isSome=true:=Kq0
theorem ZNg:(XX.fns.get 42).isSome=true:=Kq0
theorem ZNf:(XX.fns.get 46).isSome=true:=Kq0
theorem ZNe:(XX.fns.get 47).isSome=true:=Kq0
theorem ZDT:(XX.fns.get 48).isSome=true:=Kq0
theorem Zx7:(XX.fns.get 54).isSome=true:=Kq0
theorem Zsx:(XX.fns.get 55).isSome=true:=Kq0
theorem ZDS:(XX.fns.get 57).isSome=true:=Kq0
theorem ZNd:(XX.fns.get 60).isSome=true:=Kq0
theorem ZNc:(XX.fns.get 68).isSome=true:=Kq0
theorem ZkF:(XX.fns.get 69).isSome=true:=Kq0
theorem ZDR:(XX.fns.get 70).isSome=true:=Kq0
theorem ZDQ:(XX.fns.get 71).isSome=true:=Kq0
theorem ZDP:(XX.fns.get 72).isSome=true:=Kq0
theorem Zx6:(XX.fns.get 73).isSome=true:=Kq0
theorem ZNb:(XX.fns.get 74).isSome=true:=Kq0
theorem ZNa:(XX.fns.get 75).isSome=true:=Kq0
theorem Zsw:(XX.fns.get 84).isSome=true:=Kq0
theorem ZDO:(XX.fns.get 85).isSome=true:=Kq0
theorem Zod:(XX.fns.get 89).isSome=true:=Kq0
theorem Ub:(XX.fns.get 94).isSome=true:=Kq0
theorem Zoc:(XX.fns.get 95).isSome=true:=Kq0
theorem ZDN:(XX.fns.get 96).isSome=true:=Kq0
theorem ZDM:(XX.fns.get 97).isSome=true:=Kq0
theorem Zx5:(XX.fns.get 98).isSome=true:=Kq0
theorem Zx4:(XX.fns.get 99).isSome=true:=Kq0
theorem ZHz:(XX.fns.get 100).isSome=true:=Kq0
theorem ZHy:(XX.fns.get 101).isSome=true:=Kq0
theorem ZHx:(XX.fns.get 102).isSome=true:=Kq0
theorem ZHw:(XX.fns.get 103).isSome=true:=Kq0
theorem Zqz:(XX.fns.get 104).isSome=true:=Kq0
theorem ZHv:(XX.fns.get 105).isSome=true:=Kq0
theorem ZHu:(XX.fns.get 106).isSome=true:=Kq0
theorem ZHt:(XX.fns.get 107).isSome=true:=Kq0
theorem ZHs:(XX.fns.get 108).isSome=true:=Kq0
theorem ZHr:(XX.fns.get 119).isSome=true:=Kq0
theorem Zqy:(XX.fns.get 125).isSome=true:=Kq0
theorem Zye:(XX.fns.get 126).isSome=true:=Kq0
theorem ZHq:(XX.fns.get 127).isSome=true:=Kq0
theorem Zyd:(XX.fns.get 128).isSome=true:=Kq0
theorem Zyc:(XX.fns.get 136).isSome=true:=Kq0
theorem Zyb:(XX.fns.get 137).isSome=true:=Kq0
theorem Zya:(XX.fns.get 138).isSome=true:=Kq0
theorem Zx9:(XX.fns.get 139).isSome=true:=Kq0
theorem Zx8:(XX.fns.get 142).isSome=true:=Kq0
end
end Go.Proofs.YtcnahmgekicbdaaGreat
end
end
section
noncomputable section
namespace Go.YD
open Go.Lf
class Zbp (P:Program) (t:TypeId):Prop where
 out:YK P t=some false
class Zkg (P:Program) (t:TypeId):Prop where
 out:YK P t=some true
class SzF (P:Program) (t:TypeId) (n:outParam Nat):Prop where
 out:Yl P t=some n
class JX (P:Program) (t:TypeId) (f:Nat) (o:outParam Nat):Prop where
 out:ZG P t f o
class Zgw (P:Program) (t:TypeId) (e:outParam TypeId):Prop where
 out:P.underlying t=some (.slice e)
class ZJB (P:Program) (t:TypeId):Prop where
 out:P.underlying t=some .bool
class Zbn (P:Program) (t:TypeId) (v:outParam Value):Prop where
 out:Y7 P t=some v
theorem ia {v:Value} (h:JM v=false):JM v=false:=h
theorem WH {fr:Fr} {t:Nat} {c:Bool} {v:Value} (h:fr.at t=cond c v undef) (ha:JM v=false) (hc:c=true):Yz fr (.tmp t)=some v:=Uc h ha hc
section
variable {X:Ctx} {h:H} {fr:Fr} {ty:TypeId} {p':String} {af:Array Edge} {g:Option (Nat×Bool)} {d:Option Tmp} {wm:Nat} {T:Nat ->Prop} {h0:H} {G Gr:List (Ast wm)}
theorem ZPd {x:Operand} {t:TypeId} {f off b o:Nat} [hf:JX X.P t f off] (hx:Yz fr x=some (.pointer (some ⟨b,o,none⟩))):X8 X h (Yz fr) ⟨d,.fieldAddr t x f,ty,p',af,g⟩=some (.val (.pointer (some ⟨b,o + off,none⟩)),.none):=Wd hf.out hx
theorem ZVb {x:Operand} {t:TypeId} {b oo:Nat} {vs:List Value} {v:Value} [ht:Zbp X.P t] (hx:Yz fr x=some (.pointer (some ⟨b,oo,none⟩))) (hS:Sp wm T h0 G h) (pp:Pk G (bx wm b vs) Gr) (hv:vs[oo]? =some v):
 X8 X h (Yz fr) ⟨d,.load t x,ty,p',af,g⟩=some (.val v,.none):=Qd ht.out hx (hS.WQ pp) (Nat.zero_add _).symm hv
theorem ZPb {x:Operand} {t:TypeId} {b oo sz:Nat} {vs ws:List Value} [ht:Zkg X.P t] [hs:SzF X.P t sz] (hx:Yz fr x=some (.pointer (some ⟨b,oo,none⟩))) (hS:Sp wm T h0 G h) (pp:Pk G (bx wm b vs) Gr) (hj:Nat.ble (oo + sz) vs.length=true) (hv:(vs.drop oo).take sz=ws):
 X8 X h (Yz fr) ⟨d,.load t x,ty,p',af,g⟩=some (.val (.agg ws.toArray),.none):=JA ht.out hs.out hx (hS.WQ pp) (Nat.zero_add _).symm hj hv
theorem ZPe {dd:Tmp} {x:Operand} {t:TypeId} {v:Value} {vs:List Value} (hx:Yz fr x=some v) (hS:Sp wm T h0 G h) (hv:v.cells.toList=vs):
 HN X wm ⟨some dd,.box t x,ty,p',af,g⟩ fr h (fun v h'=>∃ b,h.size=b∧v= .pointer (some ⟨b,0,none⟩)∧Sp wm T h0 (bx wm b vs::G) h'):=ZKR hS hx hv
theorem ZPf {dd:Tmp} {t:TypeId} {v:Value} {vs:List Value} [hz:Zbn X.P t v] (hS:Sp wm T h0 G h) (hv:v.cells.toList=vs):
 HN X wm ⟨some dd,.alloc t,ty,p',af,g⟩ fr h (fun v h'=>∃ b,h.size=b∧v= .pointer (some ⟨b,0,none⟩)∧Sp wm T h0 (bx wm b vs::G) h'):=ZDh hS hz.out hv
theorem ZVa {x y:Operand} {t:TypeId} {b o sz:Nat} {cs cs' vs:List Value} {v:Value} [hs:SzF X.P t sz] (hx:Yz fr x=some (.pointer (some ⟨b,o,none⟩))) (hS:Sp wm T h0 G h) (pk:Pk G (bx wm b cs) Gr) (hy:Yz fr y=some v)
 (hvs:v.cells.toList=vs) (hn:Nat.beq vs.length sz=true) (hl:Nat.ble (o + sz) cs.length=true) (hc:vs.all Value.oneCell'=true) (hv:splice cs o vs=cs'):
 HU X wm ⟨none,.store t x y,ty,p',af,g⟩ fr h (fun i=>i=b) (fun h'=>Sp wm T h0 (bx wm b cs'::Gr) h'):=ZAK hS pk hs.out hx hy hvs hn hl hc hv
theorem ZPc {α:Type} {xs:List α} {v:α} {x y:Operand} {t e:TypeId} {sz b o nn c dd:Nat} {a:Option Addr} {k:Int} [hu:Zgw X.P t e] [hs:SzF X.P e sz] (hx:Yz fr x=some (.slice a nn c)) (hy:Yz fr y=some (.int .i64 k)) (hn:nn=xs.length) (ha:a=some ⟨b,o,none⟩) (hk:ZM xs k=some v):
 X8 X h (Yz fr) ⟨some dd,.indexAddr t x y,ty,p',af,g⟩=some (.val (.pointer (some ⟨b,o + k.toNat * sz,none⟩)),.none):=X3 hu.out hs.out hx hy hn ha hk
theorem ZPa {x:Operand} {t:TypeId} {b o oo j:Nat} {vs:List Value} {v:Value} [ht:Zbp X.P t] (hx:Yz fr x=some (.pointer (some ⟨b,oo,none⟩))) (ha:At h b o vs) (ho:oo=o + j) (hv:vs[j]? =some v):
 X8 X h (Yz fr) ⟨d,.load t x,ty,p',af,g⟩=some (.val v,.none):=Qd ht.out hx ha ho hv
theorem ZO9 {x:Operand} {t e':TypeId} {a:Option Addr} {mm cc dd:Nat} [hu:Zgw X.P t e'] (hx:Yz fr x=some (.slice a mm cc)):
 X8 X h (Yz fr) ⟨some dd,.call {callee:= .builtin .len,args:=#[x],argTypes:=#[t]},ty,p',af,g⟩=some (.val (.int .i64 (mm:Int)),.none):=Zdd hu.out hx rfl
end
section
variable {X:Ctx} {n wm:Nat} {rd:Option Nat} {ops:Array Oper} {l:List Oper} {fr:Fr} {ds:List Deferred} {h:H} {ty:TypeId} {p:String} {af:Array Edge} {g:Option (Nat×Bool)} {sf:ST} {m:Nat}
theorem WX.w2 {Q:Fr ->H ->Prop} {d:Nat} {op:Op} {v:Value} (hg:Yw ops ⟨some d,op,ty,p,af,g⟩ fr) (hd:Nat.blt d n=true) (hM:okM ops sf m ⟨some d,op,ty,p,af,g⟩=true) (ha:X8 X h (Yz fr) ⟨some d,op,ty,p,af,g⟩=some (.val v,.none)) (k:WX X n wm rd ops sf (m + 1) h l (Tr.set fr d v) Q):
 WX X n wm rd ops sf m h (⟨some d,op,ty,p,af,g⟩::l) fr Q:=WX.w hg hd ha k hM
theorem WX.gv2 {Q:Fr ->H ->Prop} {d:Nat} {op:Op} {c:Bool} {v:Value} (hg:Zh ops ⟨some d,op,ty,p,af,g⟩ fr c) (hd:Nat.blt d n=true) (hM:okM ops sf m ⟨some d,op,ty,p,af,g⟩=true) (ha:c=true ->X8 X h (Yz fr) ⟨some d,op,ty,p,af,g⟩=some (.val v,.none)) (k:WX X n wm rd ops sf (m + 1) h l (Tr.set fr d (cond c v undef)) Q):
 WX X n wm rd ops sf m h (⟨some d,op,ty,p,af,g⟩::l) fr Q:=WX.gv hg hd ha k hM
end
structure Kp (q:Prop):Prop where
 out:q
section
variable {X:Ctx} {n wm:Nat} {rd:Option Nat} {Q:XX ->Fs ->Prop}
theorem E0 {p:Prop}(h:p:=by(focus (repeat (first | with_reducible exact fh | ((with_reducible apply ZJ);exact rfl) | ((with_reducible apply YR);exact rfl) | ((with_reducible apply Yk);exact rfl) | ((with_reducible apply Zg);exact rfl) | with_reducible assumption));first|done|fail)):p:=h
theorem cn {c:Operand} {a b:Code} {t:Bool} {fr:Fr} {ds:List Deferred} {h:H} {α:Type} {x y r:α} (hL:(bif t then x else y)=r) (h1:t=true ->x=r ->WC X n wm rd a ⟨fr,ds,h,none⟩ Q) (h2:t=false ->y=r ->WC X n wm rd b ⟨fr,ds,h,none⟩ Q) (hc:Yz fr c=some (.bool t):=by(first | exact KU rfl | (apply Z5;exact E0;(first | exact ia rfl | assumption)) | (apply WH;exact E0;(first | exact ia rfl | assumption);assumption) | fail)):WC X n wm rd (.cond c a b) ⟨fr,ds,h,none⟩ Q:=
 WC.ZOR hc (fun e=>h1 e (JD e hL)) (fun e=>h2 e (JE e hL))
theorem rt {fn:Func} {fr:Fr} {h h0:H} {T:Nat ->Prop} {G G':List (Ast wm)} {wr:Option Nat} {t:Tmp} {β:Type} {x r:β} {g:β ->Value} (hL:some x=some r) (hT:T=Qn G) (hS:Sp wm T h0 G' h) (hr:fn.results.toList= [.tmp t]:=by exact rfl) (hv:Yz fr (.tmp t)=some (g x):=by(first | exact KU rfl | (apply Z5;exact E0;(first | exact ia rfl | assumption)) | (apply WH;exact E0;(first | exact ia rfl | assumption);assumption) | fail)):
 Yd X fn (fun e h'=>∃ v,e= .ret v∧CP (fun v Gb=>v=g r∧Gb= []) G h0 v h') .ret ⟨fr,[],h,wr⟩:=by
 cases hL;exact Yd.Ww hr (Z0 hv Zw) ⟨_,⟨rfl,rfl⟩,hT ▸ hS.only .n⟩
theorem bg {f:FuncId} {fn:Func} {c:Code} {args:List Value} {n:Nat} {K:Value ->List (Ast wm) ->Prop} {G:List (Ast wm)} {h:H} {fr:Fr} (hnt:fn.ntmps=n) (ZP:wm <=h.size) (hO:Ya G h)
 (k:∀ T,T=Qn (wm:=wm) G ->Sp wm T h G h ->WC X n wm none c ⟨fr,[],h,none⟩ (Yd X fn (fun e h'=>∃ v,e= .ret v∧CP K G h v h'))) (hf:X.fns.get f=some fn:=by kernel_rfl) (hb:fn.body=some c:=by exact rfl) (hn:args.length <=n:=by simp)
 (hfr:QD args 0 .nil=fr:=by(simp only [ZN,Z4,Nat.reduceAdd];exact rfl)):WR X f args.toArray wm h (CP K G h):=by
 subst hfr;exact WF.begin hf hb hnt hn (k _ rfl (Sp.start ZP hO))
end
theorem lk {p:Prop} (h:p:=by(first | exact KU rfl | (apply Z5;exact E0;(first | exact ia rfl | assumption)) | (apply WH;exact E0;(first | exact ia rfl | assumption);assumption) | fail)):p:=h
theorem lks {p:Prop} (h:p:=by
 repeat (first | exact Zo | (apply Zc;(focus (first | exact KU rfl | (apply Z5;exact E0;(first | exact ia rfl | assumption)) | (apply WH;exact E0;(first | exact ia rfl | assumption);assumption) | fail);done)))
 done):p:=h
theorem QY {p:Prop} (h:p:=by
 repeat (first | with_reducible exact fh | ((with_reducible apply ZJ);exact rfl) | ((with_reducible apply YR);exact rfl) | ((with_reducible apply Yk);exact rfl) | ((with_reducible apply Zg);exact rfl) | with_reducible assumption | refine⟨?_,?_⟩)
 done):p:=h
theorem r1 {p q:Prop} (k:q) (h:Kp q ->p:=by
 intro k
 first
 | refine WO.nil ?_
 | refine Zg6.XM ?_
 | refine WC.seq ?_
 | refine WC.region ?_
 | ((first | apply WO.w gN rfl | (apply WO.gv;(focus (first | (apply Zh.yes rfl rfl rfl;exact E0) | (apply Zh.no rfl rfl rfl;exact E0) | (apply Zh.ZAf rfl rfl rfl;exact E0) | (apply Zh.no2 rfl rfl rfl;exact E0) | fail);done);rfl;intro hg) | (apply WX.w2 gN;rfl;rfl) | (apply WX.gv2;(focus (first | (apply Zh.yes rfl rfl rfl;exact E0) | (apply Zh.no rfl rfl rfl;exact E0) | (apply Zh.ZAf rfl rfl rfl;exact E0) | (apply Zh.no2 rfl rfl rfl;exact E0) | fail);done);rfl;rfl;intro hg));(focus (first
   | ((with_reducible apply Ke);(first | exact KU rfl | (apply Z5;exact E0;(first | exact ia rfl | assumption)) | (apply WH;exact E0;(first | exact ia rfl | assumption);assumption) | fail))
   | ((with_reducible apply ZVb);(focus (first | exact KU rfl | (apply Z5;exact E0;(first | exact ia rfl | assumption)) | (apply WH;exact E0;(first | exact ia rfl | assumption);assumption) | fail);done);assumption;(focus (first | exact k0 | exact k1 | exact k2 | exact k3 | exact k4 | exact k5 | exact k6 | exact k7 | (repeat (first | exact k7 | apply Pk.s)));done);rfl)
   | ((with_reducible apply ZPd);(first | exact KU rfl | (apply Z5;exact E0;(first | exact ia rfl | assumption)) | (apply WH;exact E0;(first | exact ia rfl | assumption);assumption) | fail))
   | ((with_reducible apply Uy);(first | exact KU rfl | (apply Z5;exact E0;(first | exact ia rfl | assumption)) | (apply WH;exact E0;(first | exact ia rfl | assumption);assumption) | fail))
   | ((with_reducible apply JZ);(focus (first | exact KU rfl | (apply Z5;exact E0;(first | exact ia rfl | assumption)) | (apply WH;exact E0;(first | exact ia rfl | assumption);assumption) | fail);done);(focus (first | exact KU rfl | (apply Z5;exact E0;(first | exact ia rfl | assumption)) | (apply WH;exact E0;(first | exact ia rfl | assumption);assumption) | fail);done);(first | with_reducible exact Zgu | with_reducible exact ZzM | with_reducible exact Zpe | with_reducible exact ZzJ | with_reducible exact ZuE | with_reducible exact Zjv | with_reducible exact ZzL | with_reducible exact ZzK | with_reducible exact Zgt | with_reducible exact ZuJ ZJB.out | with_reducible exact ZuI ZJB.out))
   | ((with_reducible apply ZPb);(focus (first | exact KU rfl | (apply Z5;exact E0;(first | exact ia rfl | assumption)) | (apply WH;exact E0;(first | exact ia rfl | assumption);assumption) | fail);done);assumption;(focus (first | exact k0 | exact k1 | exact k2 | exact k3 | exact k4 | exact k5 | exact k6 | exact k7 | (repeat (first | exact k7 | apply Pk.s)));done);rfl;(focus simp only [Nat.zero_add,Nat.reduceAdd,List.drop_succ_cons,List.drop_zero,List.take_succ_cons,List.take_zero,List.take_nil];rfl))
   | ((with_reducible apply ZO9);(first | exact KU rfl | (apply Z5;exact E0;(first | exact ia rfl | assumption)) | (apply WH;exact E0;(first | exact ia rfl | assumption);assumption) | fail))
   | ((with_reducible apply ZPc);(focus (first | exact KU rfl | (apply Z5;exact E0;(first | exact ia rfl | assumption)) | (apply WH;exact E0;(first | exact ia rfl | assumption);assumption) | fail);done);(focus (first | exact KU rfl | (apply Z5;exact E0;(first | exact ia rfl | assumption)) | (apply WH;exact E0;(first | exact ia rfl | assumption);assumption) | fail);done);(focus (exact rfl));assumption;assumption)
   | ((with_reducible apply ZPa);(focus (first | exact KU rfl | (apply Z5;exact E0;(first | exact ia rfl | assumption)) | (apply WH;exact E0;(first | exact ia rfl | assumption);assumption) | fail);done);(focus (first | assumption | (apply At.fz;(focus (apply Sp.fz;assumption));assumption;assumption));done);(focus (first | exact(Nat.add_zero _).symm | exact rfl);done);rfl)
   | ((with_reducible apply Zq9);(focus (first | exact KU rfl | (apply Z5;exact E0;(first | exact ia rfl | assumption)) | (apply WH;exact E0;(first | exact ia rfl | assumption);assumption) | fail);done);rfl)
   | ((with_reducible apply ZmQ);(first | exact KU rfl | (apply Z5;exact E0;(first | exact ia rfl | assumption)) | (apply WH;exact E0;(first | exact ia rfl | assumption);assumption) | fail))
   | ((with_reducible apply Zcw);(first | exact KU rfl | (apply Z5;exact E0;(first | exact ia rfl | assumption)) | (apply WH;exact E0;(first | exact ia rfl | assumption);assumption) | fail))
   | ((with_reducible apply Zra);(focus (first | exact KU rfl | (apply Z5;exact E0;(first | exact ia rfl | assumption)) | (apply WH;exact E0;(first | exact ia rfl | assumption);assumption) | fail);done);(focus (apply ZOy;exact E0);done);(first | exact KU rfl | (apply Z5;exact E0;(first | exact ia rfl | assumption)) | (apply WH;exact E0;(first | exact ia rfl | assumption);assumption) | fail))
   | ((with_reducible apply ZEq);(focus (first | exact KU rfl | (apply Z5;exact E0;(first | exact ia rfl | assumption)) | (apply WH;exact E0;(first | exact ia rfl | assumption);assumption) | fail);done);(focus (first | exact KU rfl | (apply Z5;exact E0;(first | exact ia rfl | assumption)) | (apply WH;exact E0;(first | exact ia rfl | assumption);assumption) | fail);done);(apply ZOy;exact E0))
   | fail)))
 | (apply WO.hu gN;(focus (first | (((with_reducible apply ZVa));(focus (first | exact KU rfl | (apply Z5;exact E0;(first | exact ia rfl | assumption)) | (apply WH;exact E0;(first | exact ia rfl | assumption);assumption) | fail);done);assumption;(focus (first | exact k0 | exact k1 | exact k2 | exact k3 | exact k4 | exact k5 | exact k6 | exact k7 | (repeat (first | exact k7 | apply Pk.s)));done);(focus (first | exact KU rfl | (apply Z5;exact E0;(first | exact ia rfl | assumption)) | (apply WH;exact E0;(first | exact ia rfl | assumption);assumption) | fail);done);(focus (first | (simp only [Zgg,ZdS,Zct,Zge,Zgf,Zgi,Zbg,cells_func,Zal,KO,Zcu];exact rfl) | exact rfl));exact rfl;exact rfl;exact rfl;(focus simp only [splice,List.take_succ_cons,List.take_zero,List.drop_succ_cons,List.drop_zero,List.cons_append,List.nil_append,List.append_nil,List.length_cons,List.length_nil,Nat.reduceAdd,Nat.zero_add,List.take_nil,List.drop_nil];exact rfl)) | fail)))
 | (apply WO.hn gN rfl;(focus (first | (((with_reducible apply ZPe));(focus (first | exact KU rfl | (apply Z5;exact E0;(first | exact ia rfl | assumption)) | (apply WH;exact E0;(first | exact ia rfl | assumption);assumption) | fail);done);assumption;(focus (first | (simp only [Zgg,ZdS,Zct,Zge,Zgf,Zgi,Zbg,cells_func,Zal,KO,Zcu];exact rfl) | exact rfl))) | (((with_reducible apply ZPf));assumption;(focus (first | (simp only [Zgg,ZdS,Zct,Zge,Zgf,Zgi,Zbg,cells_func,Zal,KO,Zcu];exact rfl) | exact rfl))) | fail)))
 | refine WC.skip ?_
 | refine WC.ret ?_
 | refine WC.block ?_
 | refine WC.exit ?_
 | refine Zg6.ret ?_
 | refine Zg6.exit ?_
 | refine Zgy.ret ?_
 | refine Zgy.XM ?_
 | refine Zgy.here ?_
 | refine YT.exit ?_
 | refine YT.ret ?_
 | refine WX.nil ?_
 | fail
 exact k.out):p:=h ⟨k⟩
theorem sl {p:Prop} (h:p:=by
 repeat (first | exact Sel.n | (apply Sel.c;(focus (first | exact k0 | exact k1 | exact k2 | exact k3 | exact k4 | exact k5 | exact k6 | exact k7 | (repeat (first | exact k7 | apply Pk.s))))))
 done):p:=h
theorem r2 {p q:Prop} (k:q) (h:Kp q ->p:=by
 intro k
 iterate 2 (refine r1 ?_)
 exact k.out):p:=h ⟨k⟩
theorem r3 {p q:Prop} (k:q) (h:Kp q ->p:=by
 intro k
 iterate 3 (refine r1 ?_)
 exact k.out):p:=h ⟨k⟩
theorem r4 {p q:Prop} (k:q) (h:Kp q ->p:=by
 intro k
 iterate 4 (refine r1 ?_)
 exact k.out):p:=h ⟨k⟩
theorem r5 {p q:Prop} (k:q) (h:Kp q ->p:=by
 intro k
 iterate 5 (refine r1 ?_)
 exact k.out):p:=h ⟨k⟩
theorem r6 {p q:Prop} (k:q) (h:Kp q ->p:=by
 intro k
 iterate 6 (refine r1 ?_)
 exact k.out):p:=h ⟨k⟩
theorem r7 {p q:Prop} (k:q) (h:Kp q ->p:=by
 intro k
 iterate 7 (refine r1 ?_)
 exact k.out):p:=h ⟨k⟩
theorem r8 {p q:Prop} (k:q) (h:Kp q ->p:=by
 intro k
 iterate 8 (refine r1 ?_)
 exact k.out):p:=h ⟨k⟩
theorem r9 {p q:Prop} (k:q) (h:Kp q ->p:=by
 intro k
 iterate 9 (refine r1 ?_)
 exact k.out):p:=h ⟨k⟩
theorem r10 {p q:Prop} (k:q) (h:Kp q ->p:=by
 intro k
 iterate 10 (refine r1 ?_)
 exact k.out):p:=h ⟨k⟩
theorem r11 {p q:Prop} (k:q) (h:Kp q ->p:=by
 intro k
 iterate 11 (refine r1 ?_)
 exact k.out):p:=h ⟨k⟩
theorem r12 {p q:Prop} (k:q) (h:Kp q ->p:=by
 intro k
 iterate 12 (refine r1 ?_)
 exact k.out):p:=h ⟨k⟩
theorem r13 {p q:Prop} (k:q) (h:Kp q ->p:=by
 intro k
 iterate 13 (refine r1 ?_)
 exact k.out):p:=h ⟨k⟩
theorem r14 {p q:Prop} (k:q) (h:Kp q ->p:=by
 intro k
 iterate 14 (refine r1 ?_)
 exact k.out):p:=h ⟨k⟩
theorem r15 {p q:Prop} (k:q) (h:Kp q ->p:=by
 intro k
 iterate 15 (refine r1 ?_)
 exact k.out):p:=h ⟨k⟩
theorem r16 {p q:Prop} (k:q) (h:Kp q ->p:=by
 intro k
 iterate 16 (refine r1 ?_)
 exact k.out):p:=h ⟨k⟩
end Go.YD
end
end
section
set_option maxRecDepth 20000
noncomputable section
namespace Go.Proofs.YtcnahmgekicbdaaGreat
open Go.YD Go.Lf
section
abbrev cE (x:Zf):List Value:= [.int .i64 x.kZ,.int .i64 x.kV,.int .i64 x.kX,.int .i64 x.n]
abbrev cS (x:Zx):List Value:= [.int .i64 x.act,.int .i64 x.a,.int .i64 x.b]
abbrev cP (x:ZO):List Value:= [.int .i64 x.at_,.int .i64 x.Uv]
abbrev cL (x:Zd) (a:Option Addr) (c:Nat):List Value:= [.int .i64 x.kW,.int .i64 x.kV,.int .i64 x.kX,.int .i64 x.n,.slice a x.qX.length c]
abbrev cW (x:Zi) (a0:Option Addr) (c0:Nat) (a1:Option Addr) (c1:Nat) (a2:Option Addr) (c2:Nat) (a3:Option Addr) (c3:Nat) (a4:Option Addr) (c4:Nat) (a5:Option Addr) (c5:Nat):List Value:= [.slice a0 x.qV.length c0,.slice a1 x.qX.length c1,.slice a2 x.qZ.length c2,.slice a3 x.Zl.length c3,.slice a4 x.Zu.length c4,.slice a5 x.kQ.length c5,.int .i64 x.kK]
abbrev cV (a0:Option Addr) (n0 c0:Nat) (a1:Option Addr) (n1 c1:Nat) (a2:Option Addr) (n2 c2:Nat) (a3:Option Addr) (n3 c3:Nat) (a4:Option Addr) (n4 c4:Nat) (a5:Option Addr) (n5 c5:Nat) (s:Int):List Value:= [.slice a0 n0 c0,.slice a1 n1 c1,.slice a2 n2 c2,.slice a3 n3 c3,.slice a4 n4 c4,.slice a5 n5 c5,.int .i64 s]
abbrev cH (a0:Option Addr) (n0 c0:Nat) (a1:Option Addr) (n1 c1:Nat) (a2:Option Addr) (n2 c2:Nat) (a3:Option Addr) (n3 c3:Nat) (a4:Option Addr) (n4 c4:Nat) (a5:Option Addr) (n5 c5:Nat) (s m:Int) (a6:Option Addr) (n6 c6:Nat) (a7:Option Addr) (n7 c7:Nat):List Value:= [.slice a0 n0 c0,.slice a1 n1 c1,.slice a2 n2 c2,.slice a3 n3 c3,.slice a4 n4 c4,.slice a5 n5 c5,.int .i64 s,.int .i64 m,.slice a6 n6 c6,.slice a7 n7 c7]
abbrev gH (wm b:Nat) (x:ZC) (a0:Option Addr) (n0 c0:Nat) (a1:Option Addr) (n1 c1:Nat) (q1:Nat ->Option Addr×Nat×Nat) (a2:Option Addr) (n2 c2:Nat) (q2:Nat ->Option Addr×Nat×Nat) (a3:Option Addr) (n3 c3:Nat) (q3:Nat ->Option Addr×Nat×Nat) (a4:Option Addr) (n4 c4:Nat) (q4:Nat ->Option Addr×Nat×Nat) (a5:Option Addr) (n5 c5:Nat) (q5:Nat ->Option Addr×Nat×Nat) (a6:Option Addr) (c6:Nat) (a7:Option Addr) (n7 c7:Nat):List (Ast wm):= [bx wm b [.slice a0 n0 c0,.slice a1 n1 c1,.slice a2 n2 c2,.slice a3 n3 c3,.slice a4 n4 c4,.slice a5 n5 c5,.int .i64 x.Za.kK,.int .i64 x.qK.qG,.slice a6 x.qK.Ze.length c6,.slice a7 n7 c7],ow wm (Zm .i64) a0 n0 c0 x.Za.qV,Z8 wm (Zy (Zm .i64)) a1 n1 c1 q1 x.Za.qX,Z8 wm (Zy (Zm .i64)) a2 n2 c2 q2 x.Za.qZ,Z8 wm (Zy (Zm .i64)) a3 n3 c3 q3 x.Za.Zl,Z8 wm (Zy Zk) a4 n4 c4 q4 x.Za.Zu,Z8 wm Zv a5 n5 c5 q5 x.Za.kQ,ow wm Zz a7 n7 c7 x.kU]
abbrev gHz (wm b:Nat) (x:ZC) (a0:Option Addr) (n0 c0:Nat) (a1:Option Addr) (n1 c1:Nat) (q1:Nat ->Option Addr×Nat×Nat) (a2:Option Addr) (n2 c2:Nat) (q2:Nat ->Option Addr×Nat×Nat) (a3:Option Addr) (n3 c3:Nat) (q3:Nat ->Option Addr×Nat×Nat) (a4:Option Addr) (n4 c4:Nat) (q4:Nat ->Option Addr×Nat×Nat) (a5:Option Addr) (n5 c5:Nat) (q5:Nat ->Option Addr×Nat×Nat) (a6:Option Addr) (c6:Nat) (a7:Option Addr) (n7 c7:Nat):List (Ast wm):= [bx wm b [.slice a0 n0 c0,.slice a1 n1 c1,.slice a2 n2 c2,.slice a3 n3 c3,.slice a4 n4 c4,.slice a5 n5 c5,.int .i64 x.Za.kK,.int .i64 x.qK.qG,.slice a6 x.qK.Ze.length c6,.slice a7 n7 c7],ow wm (Zm .i64) a0 n0 c0 x.Za.qV,Z8 wm (Zy (Zm .i64)) a1 n1 c1 q1 x.Za.qX,Z8 wm (Zy (Zm .i64)) a2 n2 c2 q2 x.Za.qZ,Z8 wm (Zy (Zm .i64)) a3 n3 c3 q3 x.Za.Zl,Z8 wm (Zy Zk) a4 n4 c4 q4 x.Za.Zu,Z8 wm Zv a5 n5 c5 q5 x.Za.kQ,QC wm (XT Zj) (a6,c6) x.qK.Ze,ow wm Zz a7 n7 c7 x.kU]
instance:Zbp XX.P 3:= ⟨Zdo⟩
instance:Zbp XX.P 4:= ⟨ZI9⟩
instance:Zbp XX.P 22:= ⟨ZEy⟩
instance:Zkg XX.P 24:= ⟨Zs6⟩
instance:Zbp XX.P 28:= ⟨ZEx⟩
instance:Zbp XX.P 29:= ⟨Zpb⟩
instance:Zbp XX.P 30:= ⟨ZzG⟩
instance:Zbp XX.P 31:= ⟨ZEw⟩
instance:Zkg XX.P 33:= ⟨Zju⟩
instance:Zbp XX.P 34:= ⟨ZEv⟩
instance:Zbp XX.P 35:= ⟨Zs5⟩
instance:Zbp XX.P 36:= ⟨Zpa⟩
instance:Zbp XX.P 62:= ⟨ZPq⟩
instance:Zkg XX.P 64:= ⟨Zs4⟩
instance:Zkg XX.P 66:= ⟨Zo9⟩
instance:Zbp XX.P 69:= ⟨ZzF⟩
instance:Zbp XX.P 71:= ⟨ZzE⟩
instance:Zbp XX.P 72:= ⟨ZPp⟩
instance:Zkg XX.P 74:= ⟨ZzD⟩
instance:Zbp XX.P 87:= ⟨ZEt⟩
instance:Zkg XX.P 99:= ⟨ZEs⟩
instance:Zkg XX.P 106:= ⟨ZJc⟩
instance:Zbp XX.P 112:= ⟨ZJb⟩
instance:Zbp XX.P 119:= ⟨ZJa⟩
instance:Zkg XX.P 121:= ⟨Zm0⟩
instance:SzF XX.P 3 1:= ⟨Uq⟩
instance:SzF XX.P 4 1:= ⟨ZKK⟩
instance:SzF XX.P 24 2:= ⟨Zlg⟩
instance:SzF XX.P 28 1:= ⟨ZE2⟩
instance:SzF XX.P 29 1:= ⟨ZvQ⟩
instance:SzF XX.P 30 1:= ⟨ZE1⟩
instance:SzF XX.P 31 1:= ⟨ZE0⟩
instance:SzF XX.P 33 7:= ⟨ZbZ⟩
instance:SzF XX.P 34 1:= ⟨ZEZ⟩
instance:SzF XX.P 35 1:= ⟨Jk⟩
instance:SzF XX.P 36 1:= ⟨ZEY⟩
instance:SzF XX.P 62 1:= ⟨ZEX⟩
instance:SzF XX.P 64 4:= ⟨Zfo⟩
instance:SzF XX.P 66 2:= ⟨ZdB⟩
instance:SzF XX.P 69 1:= ⟨ZbY⟩
instance:SzF XX.P 71 1:= ⟨Zfn⟩
instance:SzF XX.P 74 3:= ⟨ZdA⟩
instance:SzF XX.P 99 2:= ⟨Zlf⟩
instance:SzF XX.P 106 3:= ⟨ZAJ⟩
instance:SzF XX.P 112 1:= ⟨ZAI⟩
instance:SzF XX.P 121 5:= ⟨Q0⟩
instance:JX XX.P 24 0 0:= ⟨ZlW⟩
instance:JX XX.P 24 1 1:= ⟨ZBV⟩
instance:JX XX.P 33 0 0:= ⟨ZBU⟩
instance:JX XX.P 33 1 1:= ⟨ZsD⟩
instance:JX XX.P 33 2 2:= ⟨ZBT⟩
instance:JX XX.P 33 3 3:= ⟨ZBS⟩
instance:JX XX.P 33 4 4:= ⟨ZBR⟩
instance:JX XX.P 33 5 5:= ⟨ZsC⟩
instance:JX XX.P 33 6 6:= ⟨ZBQ⟩
instance:JX XX.P 64 0 0:= ⟨ZBP⟩
instance:JX XX.P 64 1 1:= ⟨ZBO⟩
instance:JX XX.P 64 2 2:= ⟨ZBN⟩
instance:JX XX.P 64 3 3:= ⟨ZBM⟩
instance:JX XX.P 66 0 0:= ⟨ZBL⟩
instance:JX XX.P 66 1 1:= ⟨ZBK⟩
instance:JX XX.P 74 0 0:= ⟨ZBJ⟩
instance:JX XX.P 74 1 1:= ⟨ZBI⟩
instance:JX XX.P 74 2 2:= ⟨ZBH⟩
instance:JX XX.P 91 0 0:= ⟨ZlV⟩
instance:JX XX.P 91 1 7:= ⟨ZlU⟩
instance:JX XX.P 91 2 9:= ⟨ZBG⟩
instance:JX XX.P 96 0 0:= ⟨ZBF⟩
instance:JX XX.P 96 1 2:= ⟨ZBE⟩
instance:JX XX.P 96 2 9:= ⟨ZBD⟩
instance:JX XX.P 99 0 0:= ⟨ZsB⟩
instance:JX XX.P 99 1 1:= ⟨ZlT⟩
instance:JX XX.P 106 0 0:= ⟨ZyA⟩
instance:JX XX.P 106 1 2:= ⟨Zyz⟩
instance:JX XX.P 121 0 0:= ⟨Zyy⟩
instance:JX XX.P 121 1 1:= ⟨Zyx⟩
instance:JX XX.P 121 2 2:= ⟨Zyw⟩
instance:JX XX.P 121 3 3:= ⟨Zyv⟩
instance:JX XX.P 121 4 4:= ⟨Zom⟩
instance:Zgw XX.P 22 66:= ⟨ZvF⟩
instance:Zgw XX.P 25 74:= ⟨Znk⟩
instance:Zgw XX.P 28 71:= ⟨ZrE⟩
instance:Zgw XX.P 29 35:= ⟨Zar⟩
instance:Zgw XX.P 30 69:= ⟨ZrD⟩
instance:Zgw XX.P 31 99:= ⟨ZvE⟩
instance:Zgw XX.P 34 64:= ⟨ZvD⟩
instance:Zgw XX.P 35 3:= ⟨Um⟩
instance:Zgw XX.P 60 4:= ⟨ZKC⟩
instance:Zgw XX.P 69 121:= ⟨UD⟩
instance:ZJB XX.P 4:= ⟨ZQs⟩
instance:Zbn XX.P 3 (.int .i64 0):= ⟨ZbT⟩
instance:Zbn XX.P 4 (.bool false):= ⟨ZJ0⟩
instance:Zbn XX.P 33 (.agg #[.slice none 0 0,.slice none 0 0,.slice none 0 0,.slice none 0 0,.slice none 0 0,.slice none 0 0,.int .i64 0]):= ⟨Zvb⟩
instance:Zbn XX.P 35 (.slice none 0 0):= ⟨Zfg⟩
instance:Zbn XX.P 36 (.int .i64 0):= ⟨ZEL⟩
instance:Zbn XX.P 64 (.agg #[.int .i64 0,.int .i64 0,.int .i64 0,.int .i64 0]):= ⟨Zpr⟩
instance:Zbn XX.P 66 (.agg #[.int .i64 0,.int .i64 0]):= ⟨ZEK⟩
instance:Zbn XX.P 67 (.agg #[.int .i64 0,.int .i64 0]):= ⟨Zva⟩
instance:Zbn XX.P 69 (.slice none 0 0):= ⟨Zu9⟩
instance:Zbn XX.P 71 (.int .i64 0):= ⟨Zu8⟩
instance:Zbn XX.P 74 (.agg #[.int .i64 0,.int .i64 0,.int .i64 0]):= ⟨ZhD⟩
instance:Zbn XX.P 91 (.agg #[.slice none 0 0,.slice none 0 0,.slice none 0 0,.slice none 0 0,.slice none 0 0,.slice none 0 0,.int .i64 0,.int .i64 0,.slice none 0 0,.slice none 0 0]):= ⟨Zu7⟩
instance:Zbn XX.P 96 (.agg #[.int .i64 0,.slice none 0 0,.slice none 0 0,.slice none 0 0,.slice none 0 0,.slice none 0 0,.slice none 0 0,.slice none 0 0,.int .i64 0,.slice none 0 0]):= ⟨ZEJ⟩
instance:Zbn XX.P 99 (.agg #[.int .i64 0,.slice none 0 0]):= ⟨Zu6⟩
instance:Zbn XX.P 106 (.agg #[.int .i64 0,.slice none 0 0,.slice none 0 0]):= ⟨ZAd⟩
instance:Zbn XX.P 112 (.nilFunc):= ⟨ZAc⟩
instance:Zbn XX.P 121 (.agg #[.int .i64 0,.int .i64 0,.int .i64 0,.int .i64 0,.slice none 0 0]):= ⟨ZaN⟩
instance:Zbn XX.P 124 (.nilFunc):= ⟨ZcL⟩
end
section
def ZB0 (p0:Zb):Option Bool:=
 some (decide ((p0.Ze.length:Int) <=30))
def Zi3 (p0:Zb) (v23:Int) (Zls:(Int ->Option Bool)):Int×Int ->(Int×Int ->Option Bool) ->Option Bool:=fun(v34,v36) Zw0=>
 (bif((decide (v36 <= (p0.Ze.length:Int))) && (decide (v34 >=0))) then(bif(v34==v23) then some false else(ZM p0.Ze v34).bind fun x41=>Zw0 (x41.Uv,YA (v36 + 1))) else Zls (YA (v23 + 1)))
def Zf4 (F:Nat) (p0:Zb):Int ->(Int ->Option Bool) ->Option Bool:=fun v23 Zls=>
 (bif decide (v23 < (p0.Ze.length:Int)) then(ZM p0.Ze v23).bind fun x26=>loop F (Zi3 p0 v23 Zls) (x26.Uv,0) else some true)
def Zi4 (F:Nat) (p0:Zb):Int ->(Int ->Option Bool) ->Option Bool:=fun v9 ZfC=>
 (bif decide (v9 < (p0.Ze.length:Int)) then(ZM p0.Ze v9).bind fun x12=>(bif((((decide (x12.at_ < 0)) || (decide (x12.at_ >=p0.qG))) || (decide (x12.Uv < (-1)))) || (decide (x12.Uv >= (p0.Ze.length:Int)))) then some false else ZfC (YA (v9 + 1))) else loop F (Zf4 F p0) 0)
def Zt9 (F:Nat) (p0:Zb):Option Bool:=
 (bif((((decide (p0.qG < 1)) || (decide (p0.qG > 4))) || (decide ((p0.Ze.length:Int) < 1))) || (decide ((p0.Ze.length:Int) > 8))) then some false else loop F (Zi4 F p0) 0)
def Zi1 (v10:Int) (ZfB:(Int×Int ->Option Int)):Int ->Option Int:=fun v18=>
 ZfB (v18,YA (v10 + 1))
def Zmi (p0:(List Zf)) (p1:Int) (p2:Int) (p3:Int):Int×Int ->(Int×Int ->Option Int) ->Option Int:=fun(v6,v10) ZfB=>
 (bif decide (v10 < (p0.length:Int)) then(ZM p0 v10).bind fun x23=>(bif(((x23.kZ==p1) && (x23.kV==p2)) && (x23.kX==p3)) then(Zi1 v10 ZfB) (YA (v6 + 1)) else(Zi1 v10 ZfB) v6) else some v6)
def Zt8 (F:Nat) (p0:(List Zf)) (p1:Int) (p2:Int) (p3:Int):Option Int:=
 loop F (Zmi p0 p1 p2 p3) (0,0)
def Zf1 (p0:Zb) (p1:Int):Option Bool:=
 some ((decide (p1 >=0)) && (decide (p1 < (p0.Ze.length:Int))))
def Zmg (p0:Zb):(List Int)×Int ->((List Int)×Int ->Option (List Int)) ->Option (List Int):=fun(v9,v14) Ziq=>
 (bif decide (v14 >=0) then(app 8 v9 [v14]).bind fun z19=>(ZM p0.Ze v14).bind fun x23=>Ziq (z19,x23.Uv) else some v9)
def ZyS (F:Nat) (p0:Zb) (p1:Int):Option (List Int):=
 (ZM p0.Ze p1).bind fun x3=>loop F (Zmg p0) ([],x3.Uv)
end
section
theorem ZIo {wm h} {p0:Zb} {Zt Zr} {r} (ZP:wm <=h.size) (ZW:Sl Zj wm h Zt Zr p0.Ze) (hL:ZB0 p0=some r):
 WR XX 14 #[.agg [.int .i64 p0.qG,.slice Zt p0.Ze.length Zr].toArray] wm h (CP (fun(v:Value) (Gb:List (Ast wm))=>v= .bool r∧Gb= []) [] h):=by
 refine bg Tryz.ntmps14 ZP Ya.nil ?_;intro T hT hS;unfold ZB0 at hL;refine r3 ?_;rintro _ h2 ⟨b1,eb1,rfl,hS⟩;refine r13 ?_;exact rt hL hT hS
theorem ZIl {F wm h} {p0:Zb} {Zt Zr} {r} (ZP:wm <=h.size) (ZW:Sl Zj wm h Zt Zr p0.Ze) (hL:Zt9 F p0=some r):
 WR XX 17 #[.agg [.int .i64 p0.qG,.slice Zt p0.Ze.length Zr].toArray] wm h (CP (fun(v:Value) (Gb:List (Ast wm))=>v= .bool r∧Gb= []) [] h):=by
 refine bg Tryz.ntmps17 ZP Ya.nil ?_;intro T hT hS;unfold Zt9 at hL;refine r3 ?_;rintro _ h2 ⟨b1,eb1,rfl,hS⟩;refine r16 ?_;refine r16 ?_;refine cn hL ?_ ?_
 ·intro hc hL;refine r7 ?_;exact rt hL hT hS
 ·intro hc hL;refine r12 ?_;refine WC.loop (WL.lift hL (fun v9 s=>∃ fr4 h3,s= ⟨fr4,[],h3,none⟩∧Sp wm T h [bx wm b1 [.int .i64 p0.qG,.slice Zt p0.Ze.length Zr]] h3∧fr4.at 1= .pointer (some ⟨b1,0,none⟩)∧fr4.at 3= .int .i64 (p0.Ze.length:Int)∧fr4.at 29= .slice Zt p0.Ze.length Zr∧fr4.at 30= .int .i64 (p0.Ze.length:Int)∧fr4.at 31= .int .i64 v9) ⟨_,_,rfl,hS.only sl,QY⟩ ?_);clear hL hS;rintro ZfC v9 s Zhm hL ⟨fr4,h3,rfl,hS,e5,e6,e7,e8,e10⟩;dsimp only [Zi4] at hL;refine r6 ?_;refine cn hL ?_ ?_
  ·intro hc hL;refine r6 ?_;obtain⟨x12,ZRC,hL⟩:=bS hL;obtain⟨b13,o14,_,ZW3,ZOg,ZN3,ZXp⟩:=Sl.at_ ZW ZRC;refine r1 ?_;refine WO.w gN rfl (JA Zo9 ZdB (Z5 fh rfl) (At.fz hS.fz ZN3 ZOg) (j:=0) rfl rfl (ws:= (cP x12)) rfl) ?_;refine r1 ?_;rintro _ h16 ⟨b15,Z1U,rfl,hS⟩;refine r1 ?_;rintro h17 hS;refine r16 ?_;refine r11 ?_;refine cn hL ?_ ?_
   ·intro hc hL;refine r11 ?_;exact rt hL hT hS
   ·intro hc hL;refine r7 ?_;exact YT.XM (Zhm _ _ hL ⟨_,_,rfl,hS.only sl,QY⟩)
  ·intro hc hL;refine r15 ?_;refine WC.loop (WL.lift hL (fun v23 s=>∃ ZtX h18,s= ⟨ZtX,[],h18,none⟩∧Sp wm T h [bx wm b1 [.int .i64 p0.qG,.slice Zt p0.Ze.length Zr]] h18∧ZtX.at 1= .pointer (some ⟨b1,0,none⟩)∧ZtX.at 3= .int .i64 (p0.Ze.length:Int)∧ZtX.at 59= .int .i64 (p0.Ze.length:Int)∧ZtX.at 60= .int .i64 v23) ⟨_,_,rfl,hS.only sl,QY⟩ ?_);clear hL hS;rintro Zls v23 s ZBo hL ⟨ZtX,h18,rfl,hS,e20,e21,e22,e24⟩;dsimp only [Zf4] at hL;refine r6 ?_;refine cn hL ?_ ?_
   ·intro hc hL;refine r15 ?_;obtain⟨x26,ZRz,hL⟩:=bS hL;obtain⟨b27,o28,_,ZW2,ZXN,ZXx,ZXm⟩:=Sl.at_ ZW ZRz;refine r12 ?_;refine WC.loop (WL.lift hL (fun p s=>match p with | (v34,v36)=>∃ ZlQ h29,s= ⟨ZlQ,[],h29,none⟩∧Sp wm T h [bx wm b1 [.int .i64 p0.qG,.slice Zt p0.Ze.length Zr]] h29∧ZlQ.at 1= .pointer (some ⟨b1,0,none⟩)∧ZlQ.at 3= .int .i64 (p0.Ze.length:Int)∧ZlQ.at 6= .int .i64 v23∧ZlQ.at 7= .int .i64 v34∧ZlQ.at 8= .int .i64 v36∧ZlQ.at 59= .int .i64 (p0.Ze.length:Int)∧ZlQ.at 60= .int .i64 v23) ⟨_,_,rfl,hS.only sl,QY⟩ ?_);clear hL hS;rintro Zw0 ⟨v34,v36⟩ s ZBn hL ⟨ZlQ,h29,rfl,hS,e31,e32,e33,e35,e37,e38,e39⟩;dsimp only [Zi3] at hL;refine r12 ?_;refine cn hL ?_ ?_
    ·intro hc hL;refine r12 ?_;refine cn hL ?_ ?_
     ·intro hc hL;refine r16 ?_;exact rt hL hT hS
     ·intro hc hL;refine r6 ?_;obtain⟨x41,Zxp,hL⟩:=bS hL;obtain⟨b42,o43,_,ZW0,ZXJ,ZXw,ZXk⟩:=Sl.at_ ZW Zxp;refine r12 ?_;exact YT.XM (ZBn _ _ hL ⟨_,_,rfl,hS.only sl,QY⟩)
    ·intro hc hL;refine r10 ?_;exact YT.XM (ZBo _ _ hL ⟨_,_,rfl,hS.only sl,QY⟩)
   ·intro hc hL;refine r11 ?_;exact rt hL hT hS
theorem ZIm {F h} {p0:Zb} {Zt Zr} {r} (ZW:Sl Zj h.size h Zt Zr p0.Ze) (hL:Zt9 F p0=some r):Pure XX 17 #[.agg [.int .i64 p0.qG,.slice Zt p0.Ze.length Zr].toArray] h (.bool r):=
 WR.XK rfl (ZIl (Nat.le_refl _) ZW hL)
theorem ZIe {F wm h} {p0:(List Zf)} {p1 p2 p3:Int} {Zt Zr} {r} (ZP:wm <=h.size) (ZW:Sl Zz wm h Zt Zr p0) (hL:Zt8 F p0 p1 p2 p3=some r):
 WR XX 32 #[.slice Zt p0.length Zr,.int .i64 p1,.int .i64 p2,.int .i64 p3] wm h (CP (fun(v:Value) (Gb:List (Ast wm))=>v= .int .i64 r∧Gb= []) [] h):=by
 refine bg Tryz.ntmps32 ZP Ya.nil ?_;intro T hT hS;unfold Zt8 at hL;refine r16 ?_;refine r3 ?_;refine WC.loop (WL.lift hL (fun p s=>match p with | (v6,v10)=>∃ JJ h1,s= ⟨JJ,[],h1,none⟩∧Sp wm T h [] h1∧JJ.at 1= .int .i64 p1∧JJ.at 2= .int .i64 p2∧JJ.at 3= .int .i64 p3∧JJ.at 9= .int .i64 v6∧JJ.at 12= .slice Zt p0.length Zr∧JJ.at 13= .int .i64 (p0.length:Int)∧JJ.at 14= .int .i64 v10) ⟨_,_,rfl,hS.only .n,QY⟩ ?_);clear hL hS;rintro ZfB ⟨v6,v10⟩ s ZBs hL ⟨JJ,h1,rfl,hS,e3,e4,e5,e7,e8,e9,e11⟩;dsimp only [Zmi] at hL;refine r6 ?_;refine cn hL ?_ ?_
 ·intro hc hL;refine r2 ?_;refine WC.Zfq (r:=r) (fun(v18:Int) s=>∃ ZlS h13,s= ⟨ZlS,[],h13,none⟩∧Sp wm T h [] h13∧ZlS.at 1= .int .i64 p1∧ZlS.at 2= .int .i64 p2∧ZlS.at 3= .int .i64 p3∧ZlS.at 9= .int .i64 v18∧ZlS.at 12= .slice Zt p0.length Zr∧ZlS.at 13= .int .i64 (p0.length:Int)∧ZlS.at 14= .int .i64 v10) (Zi1 v10 ZfB) ?_ ?_
  ·clear hL hS;rintro v18 s hL ⟨ZlS,h13,rfl,hS,e15,e16,e17,e19,e20,e21,e22⟩;dsimp only [Zi1] at hL;refine r4 ?_;exact YT.XM (ZBs _ _ hL ⟨_,_,rfl,hS.only .n,QY⟩)
  ·skip;refine r3 ?_;obtain⟨x23,ZG4,hL⟩:=bS hL;obtain⟨b24,o25,_,ZNz,ZD7,ZD5,ZNN⟩:=Sl.at_ ZW ZG4;refine r1 ?_;refine WO.w gN rfl (JA Zs4 Zfo (Z5 fh rfl) (At.fz hS.fz ZD5 ZD7) (j:=0) rfl rfl (ws:= (cE x23)) rfl) ?_;refine r1 ?_;rintro _ h27 ⟨b26,Z1R,rfl,hS⟩;refine r1 ?_;rintro h28 hS;refine r16 ?_;refine r6 ?_;refine cn hL ?_ ?_
   ·intro hc hL;refine r6 ?_;exact JR.XM _ hL ⟨_,_,rfl,hS.only .n,QY⟩
   ·intro hc hL;refine r2 ?_;exact JR.XM _ hL ⟨_,_,rfl,hS.only .n,QY⟩
 ·intro hc hL;refine r12 ?_;exact rt hL hT hS
theorem ZIf {F h} {p0:(List Zf)} {p1 p2 p3:Int} {Zt Zr} {r} (ZW:Sl Zz h.size h Zt Zr p0) (hL:Zt8 F p0 p1 p2 p3=some r):Pure XX 32 #[.slice Zt p0.length Zr,.int .i64 p1,.int .i64 p2,.int .i64 p3] h (.int .i64 r):=
 WR.XK rfl (ZIe (Nat.le_refl _) ZW hL)
theorem ZId {wm h} {p0:Zb} {p1:Int} {Zt Zr} {r} (ZP:wm <=h.size) (ZW:Sl Zj wm h Zt Zr p0.Ze) (hL:Zf1 p0 p1=some r):
 WR XX 33 #[.agg [.int .i64 p0.qG,.slice Zt p0.Ze.length Zr].toArray,.int .i64 p1] wm h (CP (fun(v:Value) (Gb:List (Ast wm))=>v= .bool r∧Gb= []) [] h):=by
 refine bg Tryz.ntmps33 ZP Ya.nil ?_;intro T hT hS;unfold Zf1 at hL;refine r3 ?_;rintro _ h2 ⟨b1,eb1,rfl,hS⟩;refine r16 ?_;refine r2 ?_;exact rt hL hT hS
theorem Zmh {h} {p0:Zb} {p1:Int} {Zt Zr} {r} (ZW:Sl Zj h.size h Zt Zr p0.Ze) (hL:Zf1 p0 p1=some r):Pure XX 33 #[.agg [.int .i64 p0.qG,.slice Zt p0.Ze.length Zr].toArray,.int .i64 p1] h (.bool r):=
 WR.XK rfl (ZId (Nat.le_refl _) ZW hL)
theorem ZIb {F wm h} {p0:Zb} {p1:Int} {Zt Zr} {r} (ZP:wm <=h.size) (ZW:Sl Zj wm h Zt Zr p0.Ze) (hL:ZyS F p0 p1=some r):
 WR XX 38 #[.agg [.int .i64 p0.qG,.slice Zt p0.Ze.length Zr].toArray,.int .i64 p1] wm h (CP (fun(v:Value) (Gb:List (Ast wm))=>∃ Jv Jt Ju,v= .slice Jv Jt Ju∧Gb= [ow wm (Zm .i64) Jv Jt Ju r]) [] h):=by
 refine bg Tryz.ntmps38 ZP Ya.nil ?_;intro T hT hS;unfold ZyS at hL;refine r3 ?_;rintro _ h2 ⟨b1,eb1,rfl,hS⟩;refine r14 ?_;obtain⟨x3,hx3,hL⟩:=bS hL;obtain⟨b4,o5,_,ZNw,ZOa,Z0f,ZNL⟩:=Sl.at_ ZW hx3;refine r7 ?_;have hS:=hS.nil (e:= (Zm .i64));refine WC.loop (WL.lift hL (fun p s=>match p with | (v9,v14)=>∃ fr7 h6 a10 c11 n12,s= ⟨fr7,[],h6,none⟩∧Sp wm T h [ow wm (Zm .i64) a10 n12 c11 v9,bx wm b1 [.int .i64 p0.qG,.slice Zt p0.Ze.length Zr]] h6∧fr7.at 2= .pointer (some ⟨b1,0,none⟩)∧fr7.at 5= .slice a10 n12 c11∧fr7.at 6= .int .i64 v14) ⟨_,_,none,0,0,rfl,hS.only sl,QY⟩ ?_);clear hL hS;rintro Ziq ⟨v9,v14⟩ s ZlE hL ⟨fr7,h6,a10,c11,n12,rfl,hS,e8,e13,e15⟩;obtain rfl:=hS.on k0;dsimp only [Zmg] at hL;refine r7 ?_;refine cn hL ?_ ?_
 ·intro hc hL;refine r7 ?_;refine WO.hn gN rfl (Zb2 (e:= (Zm .i64)) hS Um Uq ZbT rfl rfl rfl (ZL lk YO) rfl [((),v14)] rfl (xs:= [v14]) rfl (by intro q hq;simp only [List.mem_cons,List.not_mem_nil,or_false] at hq;subst hq;exact trivial) rfl) ?_;rintro _ h18 ⟨b17,Z1T,rfl,hS⟩;obtain⟨z19,ZRi,hL⟩:=bS hL;refine WO.hv gN rfl (Zd9 (e:= (Zm .i64)) hS k1 ZcA lk lk (hS.J7 k0) (hS.on k0) ZRi) ?_;rintro _ h22 ⟨a20,c21,rfl,hS⟩;refine r8 ?_;obtain⟨x23,ZG4,hL⟩:=bS hL;obtain⟨b24,o25,_,ZNz,ZD7,ZD5,ZNN⟩:=Sl.at_ ZW ZG4;refine r5 ?_;exact YT.XM (ZlE _ _ hL ⟨_,_,a20,c21,z19.length,rfl,hS.only sl,QY⟩)
 ·intro hc hL;refine r12 ?_;have hr:=Oi0 hL;subst hr;exact Yd.Ww rfl (Z0 lk Zw) ⟨_,⟨a10,v9.length,c11,rfl,rfl⟩,hT ▸ hS.only sl⟩
end
section
def ZiY (p0:Zb) (p1:Int):Option Bool:=
 some ((decide (p1 >=0)) && (decide (p1 < (p0.Ze.length:Int))))
end
section
theorem ZH7 {wm h} {p0:Zb} {p1:Int} {Zt Zr} {r} (ZP:wm <=h.size) (ZW:Sl Zj wm h Zt Zr p0.Ze) (hL:ZiY p0 p1=some r):
 WR XX 54 #[.agg [.int .i64 p0.qG,.slice Zt p0.Ze.length Zr].toArray,.int .i64 p1] wm h (CP (fun(v:Value) (Gb:List (Ast wm))=>v= .bool r∧Gb= []) [] h):=by
 refine bg Tryz.ntmps54 ZP Ya.nil ?_;intro T hT hS;unfold ZiY at hL;refine r3 ?_;rintro _ h2 ⟨b1,eb1,rfl,hS⟩;refine r16 ?_;refine r2 ?_;exact rt hL hT hS
theorem ZqK {h} {p0:Zb} {p1:Int} {Zt Zr} {r} (ZW:Sl Zj h.size h Zt Zr p0.Ze) (hL:ZiY p0 p1=some r):Pure XX 54 #[.agg [.int .i64 p0.qG,.slice Zt p0.Ze.length Zr].toArray,.int .i64 p1] h (.bool r):=
 WR.XK rfl (ZH7 (Nat.le_refl _) ZW hL)
end
end Go.Proofs.YtcnahmgekicbdaaGreat
end
end
