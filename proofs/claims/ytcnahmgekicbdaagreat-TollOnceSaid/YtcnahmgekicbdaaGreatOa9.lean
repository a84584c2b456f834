/- Part 9. -/
import Derived.Test.YtcnahmgekicbdaaGreatOa8
set_option linter.all false
set_option maxHeartbeats 2000000
section
noncomputable section
namespace Go.YF
open Go.Lf
section
variable {X:Ctx} {n wm:Nat} {rd:Option Nat} {ops:Array Oper} {ol:List Oper} {fr:Fr} {ds:List Deferred} {h h0:H} {ty:TypeId} {p:String} {af:Array Edge} {g:Option (Nat×Bool)} {T:Nat ->Prop} {G Gr:List (Ast wm)} {d l df:Nat} {LO:XC} {ps:Array Tmp} {Yz bd:Code}
theorem ZlS {α β:Type} {body:α ->(α ->Option β) ->Option β} (C:α ->β ->Prop) (hb:∀ next:α ->Option β,(∀ x r,next x=some r ->C x r) ->∀ x r,body x next=some r ->C x r):∀ F x r,loop F body x=some r ->C x r:=by
 intro F
 induction F with
 | zero=>intro x r h;cases h
 | succ F ih=>intro x r h;exact hb _ ih x r h
def dne (c:Code):XC ->XC
 | .loop _ _ fr n ps Yz bd df=>.loop .done (some c) fr n ps Yz bd df
 | A=>A
def lst (b:Bool) (c:Code) (A:XC):XC:=bif b then dne c A else A
inductive Zrc:XX ->Code ->Prop
 | ret:Zrc .ret .ret
 | exit (id:Nat):Zrc (.exit id) (.exit id)
structure BdS (n lo l:Nat) (fr:Fr) (ps:Array Tmp) (Yz bd:Code) (df:Nat) (R:Bool ->H ->Prop) (e:XX) (s:Fs):Prop where
 out:s.h.at l= .loop .busy none fr n ps Yz bd df∧
  ((e= .normal∧∀ h',(lo <=l ->Up lo (fun i=>i=l) s.h h') ->h'.at l= .loop .ready none fr n ps Yz bd df ->R true h')∨
   (∃ c,Zrc e c∧∀ h',(lo <=l ->Up lo (fun i=>i=l) s.h h') ->h'.at l= .loop .done (some c) fr n ps Yz bd df ->R false h'))
structure AsS (X:Ctx) (n wm lo l:Nat) (fr:Fr) (ps:Array Tmp) (Yz bd:Code) (df:Nat) (R:Bool ->H ->Prop) (e:XX) (s:Fs):Prop where
 out:e= .normal∧s.h.at l= .loop .ready none fr n ps Yz bd df∧∀ h1,(lo <=l ->Up lo (fun i=>i=l) s.h h1) ->h1.at l= .loop .busy none fr n ps Yz bd df ->WC X n wm (some l) bd ⟨s.fr,s.ds,h1,s.wr⟩ (BdS n lo l fr ps Yz bd df R)
theorem ZpG.mkS {l:Nat} {args:List Value} {fr fr1:Fr} {ps:Array Tmp} {Yz bd:Code} {df:Nat} {R:Bool ->H ->Prop} (lo:Nat) (hat:h.at l= .loop .ready none fr n ps Yz bd df) (hw:wm <=l) (hl:Nat.beq args.length ps.toList.length=true) (hs:Qq (ps.toList.zip args) n fr=some fr1)
 (k:WC X n wm (some l) Yz ⟨fr1,[],h,none⟩ (AsS X n wm lo l fr ps Yz bd df R)):ZpG X l args.toArray wm h R:=by
 obtain⟨e1,s1,⟨rfl,h1,k1⟩,j1⟩:=k;have o1:(s1.h.at l).own=true:=by rw [h1];rfl
 have s1l:=X6 h1 rfl;obtain⟨e2,s2,⟨h2,k2⟩,j2⟩:=k1 (s1.h.put l (.loop .busy none fr n ps Yz bd df)) (fun hl=>Up.put hl o1) (YV s1l _);have o2:(s2.h.at l).own=true:=by rw [h2];rfl
 have s2l:=X6 h2 rfl
 have key:∃ b A,R b (s2.h.put l A)∧U6 l e2 s2=some (.fin (.ret (.bool b)) (s2.h.put l A)):=by
  rcases k2 with⟨rfl,k2⟩ | ⟨c,hx,k2⟩
  ·refine⟨true,_,k2 _ (fun hl=>Up.put hl o2) (YV s2l _),?_⟩;unfold U6;rw [h2]
  ·refine⟨false,_,k2 _ (fun hl=>Up.put hl o2) (YV s2l _),?_⟩;unfold U6;rw [h2];cases hx <;> rfl
 obtain⟨b,A,hR,hev⟩:=key;refine⟨b,s2.h.put l A,hR,?_⟩
 classical
 let ih:QZ ->Option Y1:=fun j=>if j= .code Yz n wm (some l) ⟨fr1,[],h,none⟩ then some (.code .normal s1) else KM (.code bd n wm (some l) {s1 with h:=s1.h.put l (.loop .busy none fr n ps Yz bd df)}) (.code e2 s2) j
 have HI:∀ j r,ih j=some r ->YW X j r:=by
  intro j r e;dsimp only [ih] at e;split at e
  ·rename_i hj;cases e;rw [hj];exact j1
  ·exact J7 (X:=X) j2 j r e
 refine KQ (C:=cfg X fun _=>false) (ih:=ih) HI ?_;unfold Zb9;rw [hat];have hl':Nat.beq args.toArray.toList.length ps.toList.length=true:=hl;dsimp only;rw [Nm0 hw,hl'];simp only [Bool.and_self,Cq1];have hs':Qq (ps.toList.zip args.toArray.toList) n fr=some fr1:=hs;rw [hs'];dsimp only;have i1:ih (.code Yz n wm (some l) {fr:=fr1,ds:= [],h:=h})=some (.code .normal s1):=by dsimp only [ih];rw [if_pos rfl]
 rw [i1];show Kg ih l bd n wm .normal s1=_;unfold Kg;dsimp only;rw [h1];dsimp only
 have i2:ih (.code bd n wm (some l) {s1 with h:=s1.h.put l (.loop .busy none fr n ps Yz bd df)})=some (.code e2 s2):=by
  dsimp only [ih];split
  ·rename_i hj;exfalso;injection hj with _ _ _ _ hs
   have:({s1 with h:=s1.h.put l (.loop .busy none fr n ps Yz bd df)}:Fs).h.at l=h.at l:=by rw [hs]
   dsimp only at this;rw [YV s1l,hat] at this;cases this
  ·exact J8 _ _
 rw [i2];exact hev
theorem WO.ZGZ {Q:XX ->Fs ->Prop} {fo:Operand} {xs:Array Operand} {ts:Array TypeId} {vs:List Value} {n2:Nat} {Jf fr1:Fr} {as2 bd2:Code} (hg:Yu ops ⟨some d,.call {callee:= .value fo,args:=xs,argTypes:=ts},ty,p,af,g⟩ fr) (hd:Nat.blt d n=true) (hf:Yw fr fo=some (.func (.yield l) #[] #[])) (hx:evs (Yw fr) xs.toList=some vs)
 (hS:Sp wm T h0 G h) (pk:Pk G (ob wm l LO) Gr) (hLO:LO= .loop .ready none Jf n2 ps as2 bd2 df) (hl:Nat.beq vs.length ps.toList.length=true) (hs:Qq (ps.toList.zip vs) n2 Jf=some fr1)
 (k:WC X n2 wm (some l) as2 ⟨fr1,[],h,none⟩ (AsS X n2 wm wm l Jf ps as2 bd2 df (fun b h'=>WO X n wm rd ops ol ⟨Tr.set fr d (.bool b),ds,h',none⟩ Q))):
 WO X n wm rd ops (⟨some d,.call {callee:= .value fo,args:=xs,argTypes:=ts},ty,p,af,g⟩::ol) ⟨fr,ds,h,none⟩ Q:=by
 obtain⟨h1,h2,h3⟩:=hS.get pk;have hat:=h1.trans hLO;exact WO.yld hg hd hf hx hat (Nb0 hl) (ZpG.mkS (lo:=wm) hat h2 hl hs k) fun b h' hk=>hk
theorem AsS.sp {Jf:Fr} {R:Bool ->H ->Prop} (hLO:LO= .loop .ready none fr n ps Yz bd df) (hS:Sp wm T h0 G h) (pk:Pk G (ob wm l LO) Gr) (k:∀ h1,Sp wm T h0 (ob wm l (bsy LO)::Gr) h1 ->WC X n wm (some l) bd ⟨Jf,ds,h1,none⟩ (BdS n wm l fr ps Yz bd df R)):AsS X n wm wm l fr ps Yz bd df R .normal ⟨Jf,ds,h,none⟩:=by
 obtain⟨h1,h2,h3⟩:=hS.get pk;refine⟨⟨rfl,h1.trans hLO,fun h' u e=>k h' ?_⟩⟩;exact hS.one pk (u h2) (fun _ q=>q) ⟨by rw [e,hLO];rfl,h2,by rw [hLO];rfl⟩ fun _ q=>.inl q
theorem BdS.sp {Jf:Fr} {R:Bool ->H ->Prop} (hLO:LO= .loop .ready none fr n ps Yz bd df) (hS:Sp wm T h0 G h) (pk:Pk G (ob wm l (bsy LO)) Gr) (k:∀ h1,Sp wm T h0 (ob wm l LO::Gr) h1 ->R true h1):BdS n wm l fr ps Yz bd df R .normal ⟨Jf,ds,h,none⟩:=by
 obtain⟨h1,h2,h3⟩:=hS.get pk;refine⟨⟨h1.trans (by rw [hLO];rfl),.inl ⟨rfl,fun h' u e=>k h' ?_⟩⟩⟩;exact hS.one pk (u h2) (fun _ q=>q) ⟨by rw [e,hLO],h2,by rw [hLO];rfl⟩ fun _ q=>.inl q
theorem BdS.stop {Jf:Fr} {R:Bool ->H ->Prop} {e:XX} {c:Code} (hx:Zrc e c) (hLO:LO= .loop .ready none fr n ps Yz bd df) (hS:Sp wm T h0 G h) (pk:Pk G (ob wm l (bsy LO)) Gr) (k:∀ h1,Sp wm T h0 (ob wm l (lst true c LO)::Gr) h1 ->R false h1):BdS n wm l fr ps Yz bd df R e ⟨Jf,ds,h,none⟩:=by
 obtain⟨h1,h2,h3⟩:=hS.get pk;refine⟨⟨h1.trans (by rw [hLO];rfl),.inr ⟨c,hx,fun h' u e=>k h' ?_⟩⟩⟩;exact hS.one pk (u h2) (fun _ q=>q) ⟨by rw [e,hLO];rfl,h2,by rw [hLO];rfl⟩ fun _ q=>.inl q
structure RgS (X:Ctx) (wm l:Nat) (fr:Fr) (n:Nat) (ps:Array Tmp) (Yz bd:Code) (df:Nat) (ds:List Deferred) (Q:XX ->Fs ->Prop) (h:H):Prop where
 low:wm <=l
 k:(h.at l= .loop .ready none fr n ps Yz bd df∧∀ h',Up wm (fun i=>i=l) h h' ->Q .normal ⟨fr,⟨.collected df,#[]⟩::ds,h',none⟩)∨
  (∃ c,h.at l= .loop .done (some c) fr n ps Yz bd df∧∀ h',Up wm (fun i=>i=l) h h' ->WC X n wm none c ⟨fr,⟨.collected df,#[]⟩::ds,h',none⟩ Q)
theorem RgS.sp {Q:XX ->Fs ->Prop} (hLO:LO= .loop .ready none fr n ps Yz bd df) (hS:Sp wm T h0 G h) (pk:Pk G (ob wm l LO) Gr) (k:∀ h',Sp wm T h0 Gr h' ->Q .normal ⟨fr,⟨.collected df,#[]⟩::ds,h',none⟩):RgS X wm l fr n ps Yz bd df ds Q h:=by
 obtain⟨h1,h2,h3⟩:=hS.get pk;refine⟨h2,.inl ⟨h1.trans hLO,fun h' u=>k h' ?_⟩⟩;exact Sp.step (Ga:= [ob wm l LO]) (Gb:= []) (hS.perm pk.perm) u (fun i e=>⟨_,List.mem_singleton.2 rfl,e⟩) Z5.nil fun i ⟨A,m,f⟩=>by simp at m
theorem RgS.stop {Q:XX ->Fs ->Prop} {c:Code} (hLO:LO= .loop .ready none fr n ps Yz bd df) (hS:Sp wm T h0 G h) (pk:Pk G (ob wm l (lst true c LO)) Gr) (k:∀ h',Sp wm T h0 Gr h' ->WC X n wm none c ⟨fr,⟨.collected df,#[]⟩::ds,h',none⟩ Q):RgS X wm l fr n ps Yz bd df ds Q h:=by
 obtain⟨h1,h2,h3⟩:=hS.get pk;refine⟨h2,.inr ⟨c,h1.trans (by rw [hLO];rfl),fun h' u=>k h' ?_⟩⟩;exact Sp.step (Ga:= [ob wm l (lst true c LO)]) (Gb:= []) (hS.perm pk.perm) u (fun i e=>⟨_,List.mem_singleton.2 rfl,e⟩) Z5.nil fun i ⟨A,m,f⟩=>by simp at m
theorem WC.ZtX {Q:XX ->Fs ->Prop} {gg:Operand} {f:FuncId} {first cap:List Value} (hS:Sp wm T h0 G h) (hg:Yw fr gg=some (.func (.func f) first.toArray cap.toArray)) (hf:(X.fns.get f).isSome=true)
 (k:∀ h' l df LO,LO=XC.loop .ready none fr n ps Yz bd df ->Sp wm T h0 (ob wm l LO::ob wm df .deferred::G) h' ->WR X f (first ++ ([Value.func (.yield l) #[] #[]] ++ cap)).toArray wm h' (fun _ h2=>RgS X wm l fr n ps Yz bd df ds Q h2)):
 WC X n wm none (.rangeFunc gg ps Yz bd) ⟨fr,ds,h,none⟩ Q:=by
 have s1:Sp wm T h0 (ob wm h.size .deferred::G) (h.push .deferred):=ZjX rfl hS
 have s2:Sp wm T h0 (ob wm (h.size + 1) (.loop .ready none fr n ps Yz bd h.size)::ob wm h.size .deferred::G) ((h.push .deferred).push (.loop .ready none fr n ps Yz bd h.size)):=by
  have:=ZjX (A:= .loop .ready none fr n ps Yz bd h.size) rfl s1
  rwa [H.size_push] at this
 obtain⟨fn,hf⟩:=Option.isSome_iff_exists.1 hf;obtain⟨e,h3,⟨v,rfl,hr⟩,hj⟩:=k _ _ _ _ rfl s2
 have hac:Wo (cfg X fun _=>false).X ((h.push .deferred).push (.loop .ready none fr n ps Yz bd h.size)) (.func (.func f) first.toArray cap.toArray) [Value.func (.yield (h.size + 1)) #[] #[]]=some (.enter f (first ++ ([Value.func (.yield (h.size + 1)) #[] #[]] ++ cap)).toArray,.none):=by
  unfold Wo;have:(cfg X fun _=>false).X.fns.get f=some fn:=hf;dsimp only;rw [this];simp only [List.append_assoc]
 rcases hr.k with⟨hat,hk⟩ | ⟨c,hat,hk⟩
 ·refine⟨.normal,_,hk (h3.put (h.size + 1) (.loop .exhausted none fr n ps Yz bd h.size)) (Up.put hr.low (by rw [hat];rfl)),?_⟩;refine XQ.2 (UW (C:=cfg X fun _=>false) (ih:=KM (.call f _ wm _) (.fin (.ret v) h3)) (J7 hj) ?_);show Qy (cfg X fun _=>false) _ gg n wm none (h.size + 1) ⟨fr,⟨.collected h.size,#[]⟩::ds,(h.push .deferred).push (.loop .ready none fr n ps Yz bd h.size),none⟩=_;unfold Qy;dsimp only;rw [hg];dsimp only;rw [hac];dsimp only;unfold Ur;rw [J8];dsimp only;rw [hat]
  rfl
 ·obtain⟨e2,s2,hq,hj2⟩:=hk (h3.put (h.size + 1) (.loop .exhausted (some c) fr n ps Yz bd h.size)) (Up.put hr.low (by rw [hat];rfl));refine⟨e2,s2,hq,?_⟩
  classical
  let ih:QZ ->Option Y1:=fun j=>if j= .code c n wm none ⟨fr,⟨.collected h.size,#[]⟩::ds,h3.put (h.size + 1) (.loop .exhausted (some c) fr n ps Yz bd h.size),none⟩ then some (.code e2 s2) else KM (.call f (first ++ ([Value.func (.yield (h.size + 1)) #[] #[]] ++ cap)).toArray wm ((h.push .deferred).push (.loop .ready none fr n ps Yz bd h.size))) (.fin (.ret v) h3) j
  have HI:∀ j r,ih j=some r ->YW X j r:=by
   intro j r e;dsimp only [ih] at e;split at e
   ·rename_i hj';cases e;rw [hj'];exact hj2
   ·exact J7 (X:=X) hj j r e
  refine XQ.2 (UW (C:=cfg X fun _=>false) (ih:=ih) HI ?_);show Qy (cfg X fun _=>false) _ gg n wm none (h.size + 1) ⟨fr,⟨.collected h.size,#[]⟩::ds,(h.push .deferred).push (.loop .ready none fr n ps Yz bd h.size),none⟩=_;unfold Qy;dsimp only;rw [hg];dsimp only;rw [hac];dsimp only;unfold Ur
  have i1:ih (.call f (first ++ ([Value.func (.yield (h.size + 1)) #[] #[]] ++ cap)).toArray wm ((h.push .deferred).push (.loop .ready none fr n ps Yz bd h.size)))=some (.fin (.ret v) h3):=by
   dsimp only [ih];split
   ·rename_i hj';cases hj'
   ·exact J8 _ _
  rw [i1];dsimp only;rw [hat];show ih (.code c n wm none _)=_;dsimp only [ih];rw [if_pos rfl]
theorem ZlL {κ ν:Type} [DecidableEq κ] {kv:κ ->Value} {vv:ν ->Value} {kt vt:TypeId} {i:Nat} {ll:List (κ×ν)} {t:TypeId} {x y z:Operand} {k:κ} {v:ν} (hS:Sp wm T h0 G h) (pk:Pk G (mp wm kv vv (some i) ll) Gr) (K:ZhS X.P kt kv) (hu:X.P.underlying t=some (.map kt vt)) (hx:Yw fr x=some (.map (some i))) (hy:Yw fr y=some (kv k)) (hz:Yw fr z=some (vv v)):
 HU X wm ⟨none,.insert t x y z,ty,p,af,g⟩ fr h (fun j=>j=i) (fun h'=>Sp wm T h0 (mp wm kv vv (some i) (Zof ll k v)::Gr) h'):=
 ZHJ (ty:=ty) (p:=p) (af:=af) (g:=g) hS pk K hu hx hy hz
section
variable {sf:ST} {m:Nat}
theorem WX.ZcL {Q:Fr ->H ->Prop} {o:Oper} {c:Bool} (_:Zh ops o fr c) (h1:c=true ->WX X n wm rd ops sf m h (o::ol) fr Q) (h2:c=false ->WX X n wm rd ops sf m h (o::ol) fr Q):WX X n wm rd ops sf m h (o::ol) fr Q:=by
 cases c
 ·exact h2 rfl
 ·exact h1 rfl
theorem Sp.djs {T0:Nat ->Prop} {G Ga Gr:List (Ast wm)} {B:Ast wm} (s:Sp wm T0 h0 G h) (p:Sel G (B::Ga) Gr):∀ x,Qa Ga x ->¬ B.fp x:=fun x ⟨A,hA,fa⟩ fb=>
 (List.pairwise_cons.1 (s.ZfT p).dis).1 A hA x fb fa
theorem WX.Jt {Q:Fr ->H ->Prop} {op:Op} {c:Bool} (hg:Zh ops ⟨some d,op,ty,p,af,g⟩ fr c) (hc:c=false) (hd:Nat.blt d n=true) (k:WX X n wm rd ops sf (m + 1) h ol (Tr.set fr d undef) Q) (hM:okM ops sf m ⟨some d,op,ty,p,af,g⟩=true):WX X n wm rd ops sf m h (⟨some d,op,ty,p,af,g⟩::ol) fr Q:=WX.off (hg.off hc) hd k hM
end
theorem Zq4 {β:Type} {b:Bool} {x:Option β} {r:β} (h:(bif b then none else x)=some r):b=false∧x=some r:=by
 cases b
 ·exact⟨rfl,h⟩
 ·cases h
theorem JZ (b:Bool):b=true∨b=false:=by cases b <;> simp
end
section
def ZLv (L:List Nat):List Deferred:=L.map fun r=>⟨.collected r,#[]⟩
def cds (wm:Nat) (L:List Nat):Ast wm where
 P:=fun h=>(∀ r ∈ L,h.at r= .deferred∧wm <=r)∧L.Nodup
 fp:=fun i=>i ∈ L
 loc:=fun _ k ⟨h1,h2⟩=>⟨fun r hr=>⟨by rw [k r hr];exact(h1 r hr).1,(h1 r hr).2⟩,h2⟩
 own:=fun⟨h1,_⟩ e=>⟨(h1 _ e).2,by rw [(h1 _ e).1];rfl⟩
section
variable {X:Ctx} {n wm:Nat} {G G1 G2 Gr:List (Ast wm)} {h h0:H} {T:Nat ->Prop} {df:Nat} {L:List Nat} {fr:Fr} {ds:List Deferred}
theorem Sp.ZQz (s:Sp wm T h0 G h):Sp wm T h0 (cds wm []::G) h:=s.add ⟨fun r hr=>(by cases hr),List.nodup_nil⟩ (fun i hi=>(by cases hi))
theorem Sp.ZQy (s:Sp wm T h0 G h) (p:Pk G (ob wm df .deferred) G1) (q:Pk G1 (cds wm L) G2):Sp wm T h0 (cds wm (df::L)::G2) h:=by
 have s:=s.perm (p.perm.trans (List.Perm.cons _ q.perm));have h1:=s.hold.all (ob wm df .deferred) (by simp);have h2:=s.hold.all (cds wm L) (by simp);have d:=s.hold.dis;rw [List.pairwise_cons,List.pairwise_cons] at d;obtain⟨d1,d2,d3⟩:=d;refine⟨s.wl,s.fz,s.keep,⟨fun A m=>?_,List.pairwise_cons.2 ⟨fun B m i f f'=>?_,d3⟩⟩,fun i f=>?_⟩
 ·rcases List.mem_cons.1 m with m | m
  ·rw [m];refine⟨fun r hr=>?_,List.nodup_cons.2 ⟨fun z=>d1 (cds wm L) (by simp) df rfl z,h2.2⟩⟩;rcases List.mem_cons.1 hr with e | e
   ·rw [e];exact⟨h1.1,h1.2.1⟩
   ·exact h2.1 r e
  ·exact s.hold.all A (by simp [m])
 ·rcases List.mem_cons.1 f with e | e
  ·exact d1 B (by simp [m]) i e f'
  ·exact d2 B m i e f'
 ·obtain⟨A,m,f⟩:=f;rcases List.mem_cons.1 m with m | m
  ·rw [m] at f;rcases List.mem_cons.1 f with e | e
   ·exact s.inn i ⟨ob wm df .deferred,by simp,e⟩
   ·exact s.inn i ⟨cds wm L,by simp,e⟩
  ·exact s.inn i ⟨A,by simp [m],f⟩
theorem QG.ZwN {fn:Func} {R:WB ->H ->Prop}:∀ {L:List Nat} {G:List (Ast wm)} {h:H} (_:Sp wm T h0 G h) (_:Pk G (cds wm L) Gr) (_:∀ h',Sp wm T h0 Gr h' ->QG X fn wm R .ret ⟨fr,ds,h',none⟩),QG X fn wm R .ret ⟨fr,ZLv L ++ ds,h,none⟩
 | [],_,h,hS,pk,k=>k h (hS.drop pk)
 | r::L,G,h,hS,pk,k=>by
   obtain⟨h1,h2⟩:=hS.get pk;have hr:=h1 r (by simp);have hn:=List.nodup_cons.1 h2;refine QG.col wm hr.2 hr.1 hr.2 fun h' u=>?_
   have s:Sp wm T h0 (cds wm L::Gr) h':=Sp.step (Ga:= [cds wm (r::L)]) (Gb:= [cds wm L]) (hS.perm pk.perm) u (fun i e=>⟨_,List.mem_singleton.2 rfl,by rw [e];exact List.mem_cons_self⟩)
    (Z5.one ⟨fun x hx=>⟨by rw [u.keep x (X6 (h1 x (by simp [hx])).1 rfl) (fun e=>hn.1 (e ▸ hx))];exact(h1 x (by simp [hx])).1,(h1 x (by simp [hx])).2⟩,hn.2⟩)
    fun i ⟨A,m,f⟩=>.inl ⟨_,List.mem_singleton.2 rfl,by rw [List.mem_singleton.1 m] at f;exact List.mem_cons_of_mem _ f⟩
   exact QG.ZwN s .z k
end
end
section
variable {X:Ctx} {n wm wm':Nat} {rd:Option Nat} {ops:Array Oper} {ol:List Oper} {m:Nat} {sf:ST} {fr:Fr} {h h0:H} {ty:TypeId} {p:String} {af:Array Edge} {g:Option (Nat×Bool)} {T:Nat ->Prop} {G Gr:List (Ast wm)} {d:Nat}
theorem ZRF {a b:Bool} (ha:a=true) (h:(a && b)=false):b=false:=by cases a <;> simp_all
section
variable {α:Type} {e:JF α} {a a1 a2:Option Addr} {nn c n1 c1 n2 c2:Nat} {ps:Nat ->Option Addr×Nat×Nat} {xs:List (List α)}
theorem Sp.ZHR {x1 x2:List α} (s:Sp wm T h0 G h) (pk:Pk G (ow wm (ZjR 1 Nat.one_pos) a nn c [⟨[.slice a1 n1 c1],rfl,rfl⟩,⟨[.slice a2 n2 c2],rfl,rfl⟩]) Gr) (k1:n1=x1.length) (s1:Sl e h.size h a1 c1 x1) (k2:n2=x2.length) (s2:Sl e h.size h a2 c2 x2):Sl (XF e) h.size h a c [x1,x2]:=by
 obtain⟨h1,so⟩:=s.get pk;have hm:=so.max;have hc:=so.cap;refine⟨hm,hc,so.nl,.inr ?_⟩;rcases so.mem with⟨_,_,q⟩ | ⟨i,o,cs,q1,q2,q3,q4,q5,q6⟩
 ·cases q
 ·refine⟨i,o,cs,true,_,q1,q3,.inl (X6 q3 rfl),⟨q6.len,fun k x hk=>?_⟩⟩
  match k with
  | 0=>
    obtain⟨_,g1,_⟩:=q6.get 0 _ rfl;simp at hk;subst hk;exact⟨(a1,c1),by rw [k1] at g1;exact g1,s1⟩
  | 1=>
    obtain⟨_,g1,_⟩:=q6.get 1 _ rfl;simp at hk;subst hk;exact⟨(a2,c2),by rw [k2] at g1;exact g1,s2⟩
  | k + 2=>simp at hk
end
section
variable {α:Type} {e:JF α} {t el:TypeId} {x:Operand} {a:Option Addr} {nn c:Nat} {xs zs:List α} {a1:Int}
theorem XV.cases {α:Type} {e:JF α} {a:Option Addr} {c:Nat} {xs:List α} (s:XV e wm wm' h a c xs):(a=none∧c=0∧xs= [])∨∃ q,a=some q:=by
 rcases s.mem with⟨h1,h2,h3⟩ | ⟨i,o,cs,h1,_⟩
 ·exact .inl ⟨h1,h2,h3⟩
 ·exact .inr ⟨_,h1⟩
theorem Zsv {P:Program} {t:TypeId} {x y:Operand} {k k':IntKind} {a b c:Int} (hb:0 <=b) (hc:c=a.fdiv (2 ^ (min b.toNat k.bits))):Jd P .shr t x y (.int k a) (.int k' b)=some (.val (.int k c),.none):=by
 have hp:(plain (.int k a) && plain (.int k' b))=true:=rfl;unfold Jd;rw [hp,Cq1]
 have e1:binOp .shr t (.int k a) (.int k' b)=pure (.int k c):=by
  show Op.shift .shr k a k' b=_;unfold Op.shift;rw [if_neg (by omega),hc]
 have hg:(do eqGuard .shr t x y (.int k a) (.int k' b);binOp .shr t (.int k a) (.int k' b):Sem Value)=pure (.int k c):=by
  rw [e1];rfl
 rw [hg];rfl
theorem Zsw {P:Program} {t:TypeId} {x y:Operand} {a:Int}:Jd P .shr t x y (.int .u64 a) (.int .u64 1)=some (.val (.int .u64 (a / 2)),.none):=
 Zsv (by decide) (by
  show a / 2=a.fdiv 2;rw [Int.fdiv_eq_ediv_of_nonneg a (by decide)])
theorem ZCj {lo:Operand} {kk:IntKind} (so:Sl e wm' h a c xs) (hev:c % 2=0) (hn:nn=xs.length) (hu:X.P.underlying t=some (.slice el)) (hs:Yv X.P el=some e.sz) (hx:Yw fr x=some (.slice a nn c))
 (hlo:Yw fr lo=some (.int kk a1)) (hz:slL xs a1 xs.length=some zs):
 HE X ⟨some d,.slice t x (some lo) none none,ty,p,af,g⟩ fr h (fun v=>∃ a' c',v= .slice a' zs.length c'∧Znt e a c xs a' c' zs):=by
 obtain⟨l,k,rfl,hk,hlk,hkx,rfl⟩:=WZ hz;have hk:k=xs.length:=by omega
 subst hk hn;have hlen:((xs.take xs.length).drop l).length=xs.length - l:=by rw [List.length_drop,List.length_take];omega
 have e1:∀ q,obN (some (.int kk (l:Int))) q=some l:=fun q=>rfl
 have e2:obN none xs.length=some xs.length:=rfl;have hcap:=so.cap;rcases so.nl with⟨rfl,rfl⟩ | ⟨rfl,rfl⟩ | ⟨i,o,rfl⟩
 ·have hx0:xs= []:=List.length_eq_zero_iff.1 (by omega);subst hx0;have hl0:l=0:=by simpa using hlk
  subst hl0;refine⟨.slice none 0 0,QL hx (Xy hlo) rfl rfl ?_,none,0,rfl,ZfK rfl⟩
  have:aslice X.P h t (.slice none 0 0) (some (.int kk ((0:Nat):Int))) none none=some (.slice none 0 0):=by
   unfold aslice;simp only [hu,hs]
   rfl
  exact this
 ·have hx0:xs= []:=List.length_eq_zero_iff.1 (by omega);subst hx0;have hl0:l=0:=by simpa using hlk
  subst hl0;refine⟨.slice (some ⟨0,0,some 0⟩) 0 0,QL hx (Xy hlo) rfl rfl ?_,_,0,rfl,ZfK rfl⟩
  have:aslice X.P h t (.slice (some ⟨0,0,some 0⟩) 0 0) (some (.int kk ((0:Nat):Int))) none none=some (.slice (some ⟨0,0,some 0⟩) 0 0):=by
   unfold aslice;simp only [hu,hs]
   rfl
  exact this
 ·have hb:Nat.beq (c % 2) 0=true:=by rw [hev];rfl
  have hd:(Nat.ble l xs.length && Nat.ble xs.length (c / 2))=true:=by rw [Nm0 hlk,Nm0 hcap];rfl
  refine⟨.slice (some ⟨i,bif Nat.beq (c / 2) l then o else o + l * e.sz,none⟩) (xs.length - l) (2 * (c / 2 - l)),QL hx (Xy hlo) rfl rfl ?_,_,_,by rw [hlen],Zgd hlk (Nat.le_refl _) ?_⟩
  ·unfold aslice;simp only [hu,hs,e1,e2,hd,hb,Cq1]
  ·cases hcl:Nat.beq (c / 2) l with
   | true=>right;have:=Nb0 hcl;exact⟨rfl,this,by omega⟩
   | false=>left;exact⟨rfl,by omega⟩
end
end
end Go.YF
end
end
section
set_option maxRecDepth 100000
noncomputable section
namespace Go.Proofs.YtcnahmgekicbdaaGreat
section
structure ZI where
 at_:Int
 Uw:Int
 deriving DecidableEq,Inhabited
structure Zc where
 qG:Int
 Ze:(List ZI)
 deriving DecidableEq,Inhabited
structure Zp where
 kZ:Int
 kV:Int
 kX:Int
 n:Int
 deriving DecidableEq,Inhabited
structure Zd where
 kW:Int
 kV:Int
 kX:Int
 n:Int
 qX:(List Int)
 deriving DecidableEq,Inhabited
structure Zl where
 ZL:Int
 kG:(List Zd)
 deriving DecidableEq,Inhabited
structure Zg where
 qV:(List Int)
 qX:(List (List Int))
 qZ:(List (List Int))
 Zk:(List (List Int))
 Zt:(List (List Zd))
 kQ:(List Zl)
 kK:Int
 deriving DecidableEq,Inhabited
structure ZB where
 Za:Zg
 qK:Zc
 kU:(List Zp)
 deriving DecidableEq,Inhabited
structure Z7 where
 act:Int
 a:Int
 b:Int
 deriving DecidableEq,Inhabited
def ZFt:Option Bool:=some true
def ZmD (p0:List Int) (k:Int) (p2:List Int):Option (List Int):=bif Nat.ble p0.length 1000000 && (Nat.beq p2.length 1 && (decide (0 <=k) && decide (k <= (p0.length:Int)))) then some (p0.take k.toNat ++ p2 ++ p0.drop k.toNat) else none
end
section
open Go.YF Go.Lf
def Zi:JF ZI where
 sz:=2
 pos:=by decide
 Km:=Unit
 dflt:= ()
 sh:=fun _ x=>[.int .i64 x.at_,.int .i64 x.Uw]
 len:=fun _ _=>rfl
 one:=fun _ _=>rfl
 F:=fun _ _ _ _=>True
 mono:=fun _ x=>x
 up:=fun _ x=>x
def ZnV:JF Zc where
 sz:=2
 pos:=by decide
 Km:= (Option Addr×Nat)
 dflt:= (none,0)
 sh:=fun p x=>[.int .i64 x.qG,.slice p.1 x.Ze.length p.2]
 len:=fun _ _=>rfl
 one:=fun _ _=>rfl
 F:=fun wm h p x=>Sl Zi wm h p.1 p.2 x.Ze
 mono:=fun f x=>x.mono f
 up:=fun f x=>x.up f
def Zx:JF Zp where
 sz:=4
 pos:=by decide
 Km:=Unit
 dflt:= ()
 sh:=fun _ x=>[.int .i64 x.kZ,.int .i64 x.kV,.int .i64 x.kX,.int .i64 x.n]
 len:=fun _ _=>rfl
 one:=fun _ _=>rfl
 F:=fun _ _ _ _=>True
 mono:=fun _ x=>x
 up:=fun _ x=>x
def Zj:JF Zd where
 sz:=5
 pos:=by decide
 Km:= (Option Addr×Nat)
 dflt:= (none,0)
 sh:=fun p x=>[.int .i64 x.kW,.int .i64 x.kV,.int .i64 x.kX,.int .i64 x.n,.slice p.1 x.qX.length p.2]
 len:=fun _ _=>rfl
 one:=fun _ _=>rfl
 F:=fun wm h p x=>Sl (Zm .i64) wm h p.1 p.2 x.qX
 mono:=fun f x=>x.mono f
 up:=fun f x=>x.up f
def WJ:JF Zl where
 sz:=2
 pos:=by decide
 Km:= (Option Addr×Nat)
 dflt:= (none,0)
 sh:=fun p x=>[.int .i64 x.ZL,.slice p.1 x.kG.length p.2]
 len:=fun _ _=>rfl
 one:=fun _ _=>rfl
 F:=fun wm h p x=>Sl Zj wm h p.1 p.2 x.kG
 mono:=fun f x=>x.mono f
 up:=fun f x=>x.up f
def J6:JF Z7 where
 sz:=3
 pos:=by decide
 Km:=Unit
 dflt:= ()
 sh:=fun _ x=>[.int .i64 x.act,.int .i64 x.a,.int .i64 x.b]
 len:=fun _ _=>rfl
 one:=fun _ _=>rfl
 F:=fun _ _ _ _=>True
 mono:=fun _ x=>x
 up:=fun _ x=>x
def Zv:Ne Zl where
 sz:=2
 pos:=by decide
 Km:=Option Addr×Nat×Nat
 dflt:= (none,0,0)
 sh:=fun p x=>[.int .i64 x.ZL,.slice p.1 p.2.1 p.2.2]
 len:=fun _ _=>rfl
 one:=fun _ _=>rfl
 «Yz»:=fun wm p x=>[ow wm Zj p.1 p.2.1 p.2.2 x.kG]
theorem Zdl {wm:Nat}:(∀ h:H,Z5 (Zv.Yz wm (none,0,0) (default:Zl)) h)∧∀ i,¬ Qa (Zv.Yz wm (none,0,0) (default:Zl)) i:=Zoe (e:=Zj)
theorem _root_.Go.YF.Sp.Zap {wm:Nat} {h h0:H} {T:Nat ->Prop} {G Gr:List (Ast wm)} {a a1:Option Addr} {nn c n1 c1:Nat} {ps:Nat ->Option Addr×Nat×Nat} {xs:List Zl} {k:Int} {x:Zl} (s:Sp wm T h0 G h) (pk:Pk G (Z0 wm Zv a nn c ps xs) Gr) (hk:ZJ xs k=some x) (hp:ps k.toNat= (a1,n1,c1)):Sp wm T h0 (nsh wm Zv a nn c ps xs k.toNat [.int .i64 x.ZL,.slice a1 n1 c1]::ow wm Zj a1 n1 c1 x.kG::Gr) h:=by
 have:=s.take pk hk;rw [hp] at this;exact this
theorem _root_.Go.YF.Sp.ZaA {wm:Nat} {h h0:H} {T:Nat ->Prop} {G Gr:List (Ast wm)} {a a1:Option Addr} {nn c n1 c1:Nat} {ps:Nat ->Option Addr×Nat×Nat} {xs:List Zl} {k:Int} {x0:Zl} {v0:Int} {y:List Zd} (s:Sp wm T h0 G h) (sel:Sel G [nsh wm Zv a nn c ps xs k.toNat [.int .i64 v0,.slice a1 n1 c1],ow wm Zj a1 n1 c1 y] Gr) (hk:ZJ xs k=some x0):∃ ps':Nat ->Option Addr×Nat×Nat,ps' k.toNat= (a1,n1,c1)∧Sp wm T h0 (Z0 wm Zv a nn c ps' (YX xs k ⟨v0,y⟩)::Gr) h:=
 ⟨_,upd_same ps k.toNat (a1,n1,c1),Sp.fill (e:=Zv) (a1,n1,c1) ⟨v0,y⟩ s hk sel rfl⟩
theorem _root_.Go.YF.Sp.Zaz {wm:Nat} {h h0:H} {T:Nat ->Prop} {G Gr:List (Ast wm)} {a a1:Option Addr} {nn c n1 c1:Nat} {ps:Nat ->Option Addr×Nat×Nat} {xs:List Zl} {k:Int} {x:Zl} (s:Sp wm T h0 G h) (pk:Pk G (Z0 wm Zv a nn c ps xs) Gr) (hk:ZJ xs k=some x) (hp:ps k.toNat= (a1,n1,c1)):n1=x.kG.length∧Src Zj wm h a1 c1 x.kG∧Sl Zj h.size h a1 c1 x.kG:=by
 have:= (s.inN pk hk hp).get (A:=ow wm Zj a1 n1 c1 x.kG) .z;exact⟨this.1,this.2.src,this.2.src.sl s.hw⟩
theorem _root_.Go.YF.Sp.ZaG {wm:Nat} {h h0:H} {T:Nat ->Prop} {G Gr:List (Ast wm)} {a:Option Addr} {nn c:Nat} {ps:Nat ->Option Addr×Nat×Nat} {xs:List Zl} {k:Int} {x:Zl} (s:Sp wm T h0 G h) (pk:Pk G (Z0 wm Zv a nn c ps xs) Gr) (hk:ZJ xs k=some x):∃ b o a1 n1 c1,ps k.toNat= (a1,n1,c1)∧a=some ⟨b,o,none⟩∧At h b (o + k.toNat * 2) [.int .i64 x.ZL,.slice a1 n1 c1]:=by
 obtain⟨b,o,⟨a1,n1,c1⟩,h1,h2,h3⟩:=s.atN pk hk;exact⟨b,o,a1,n1,c1,h1,h2,h3⟩
theorem ZY:NeR Zv WJ:= ⟨rfl,fun{wm h p x} hw hh=>by
 obtain⟨h1,h2⟩:=hh.get (A:=ow wm Zj p.1 p.2.1 p.2.2 x.kG) .z;exact⟨(p.1,p.2.2),by show([.int .i64 x.ZL,.slice p.1 p.2.1 p.2.2]:List Value)= [.int .i64 x.ZL,.slice p.1 x.kG.length p.2.2];rw [h1],h2.src.sl hw⟩⟩
theorem ZHy:XX.P.underlying 3=some (.int .i64):=Kq0
theorem ZM1:XX.P.underlying 4=some .bool:=Kq0
theorem ZHA:XX.P.underlying 22=some (.slice 66):=Kq0
theorem ZHz:XX.P.underlying 25=some (.slice 74):=Kq0
theorem ZpN:XX.P.underlying 28=some (.slice 71):=Kq0
theorem Kr:XX.P.underlying 29=some (.slice 35):=Kq0
theorem ZpM:XX.P.underlying 30=some (.slice 69):=Kq0
theorem Ztw:XX.P.underlying 31=some (.slice 99):=Kq0
theorem ZAD:XX.P.underlying 34=some (.slice 64):=Kq0
theorem Ui:XX.P.underlying 35=some (.slice 3):=Kq0
theorem ZHx:XX.P.underlying 60=some (.slice 4):=Kq0
theorem J4:XX.P.underlying 69=some (.slice 121):=Kq0
theorem Ztx:XX.P.underlying 132=some (.int .u64):=Kq0
theorem KH:XX.P.underlying 138=some (.map 119 124):=Kq0
theorem ZdY:YZ XX.P 3=some false:=Kq0
theorem ZF8:YZ XX.P 4=some false:=Kq0
theorem ZBN:YZ XX.P 22=some false:=Kq0
theorem Zra:YZ XX.P 24=some true:=Kq0
theorem ZBM:YZ XX.P 28=some false:=Kq0
theorem Znl:YZ XX.P 29=some false:=Kq0
theorem Zxj:YZ XX.P 30=some false:=Kq0
theorem ZBL:YZ XX.P 31=some false:=Kq0
theorem ZhM:YZ XX.P 33=some true:=Kq0
theorem ZBK:YZ XX.P 34=some false:=Kq0
theorem Zq9:YZ XX.P 35=some false:=Kq0
theorem Znk:YZ XX.P 36=some false:=Kq0
theorem ZL0:YZ XX.P 62=some false:=Kq0
theorem Zxi:YZ XX.P 64=some true:=Kq0
theorem Znj:YZ XX.P 66=some true:=Kq0
theorem Zxh:YZ XX.P 69=some false:=Kq0
theorem Zxg:YZ XX.P 71=some false:=Kq0
theorem ZLZ:YZ XX.P 72=some false:=Kq0
theorem ZBJ:YZ XX.P 74=some true:=Kq0
theorem ZBI:YZ XX.P 87=some false:=Kq0
theorem ZBH:YZ XX.P 99=some true:=Kq0
theorem ZGb:YZ XX.P 106=some true:=Kq0
theorem ZGa:YZ XX.P 112=some false:=Kq0
theorem ZF9:YZ XX.P 119=some false:=Kq0
theorem Zlh:YZ XX.P 121=some true:=Kq0
theorem Ul:Yv XX.P 3=some 1:=Kq0
theorem ZHI:Yv XX.P 4=some 1:=Kq0
theorem ZjM:Yv XX.P 24=some 2:=Kq0
theorem ZCg:Yv XX.P 28=some 1:=Kq0
theorem ZtH:Yv XX.P 29=some 1:=Kq0
theorem ZCf:Yv XX.P 30=some 1:=Kq0
theorem ZCe:Yv XX.P 31=some 1:=Kq0
theorem Zbg:Yv XX.P 33=some 7:=Kq0
theorem ZCd:Yv XX.P 34=some 1:=Kq0
theorem QJ:Yv XX.P 35=some 1:=Kq0
theorem ZCc:Yv XX.P 36=some 1:=Kq0
theorem ZCb:Yv XX.P 62=some 1:=Kq0
theorem ZjL:Yv XX.P 64=some 4:=Kq0
theorem Zgf:Yv XX.P 66=some 2:=Kq0
theorem Zbf:Yv XX.P 69=some 1:=Kq0
theorem Zed:Yv XX.P 71=some 1:=Kq0
theorem ZtG:Yv XX.P 74=some 3:=Kq0
theorem ZjK:Yv XX.P 99=some 2:=Kq0
theorem Zyg:Yv XX.P 106=some 3:=Kq0
theorem Zyf:Yv XX.P 112=some 1:=Kq0
theorem QH:Yv XX.P 121=some 5:=Kq0
theorem Zkn:ZC XX.P 24 0 0:=ZC.of Kq0
theorem Zzs:ZC XX.P 24 1 1:=ZC.of Kq0
theorem Zzr:ZC XX.P 33 0 0:=ZC.of Kq0
theorem ZqI:ZC XX.P 33 1 1:=ZC.of Kq0
theorem Zzq:ZC XX.P 33 2 2:=ZC.of Kq0
theorem Zzp:ZC XX.P 33 3 3:=ZC.of Kq0
theorem Zzo:ZC XX.P 33 4 4:=ZC.of Kq0
theorem ZqH:ZC XX.P 33 5 5:=ZC.of Kq0
theorem Zzn:ZC XX.P 33 6 6:=ZC.of Kq0
theorem Zzm:ZC XX.P 64 0 0:=ZC.of Kq0
theorem Zzl:ZC XX.P 64 1 1:=ZC.of Kq0
theorem Zzk:ZC XX.P 64 2 2:=ZC.of Kq0
theorem Zzj:ZC XX.P 64 3 3:=ZC.of Kq0
theorem Zzi:ZC XX.P 66 0 0:=ZC.of Kq0
theorem Zzh:ZC XX.P 66 1 1:=ZC.of Kq0
theorem Zzg:ZC XX.P 74 0 0:=ZC.of Kq0
theorem Zzf:ZC XX.P 74 1 1:=ZC.of Kq0
theorem Zze:ZC XX.P 74 2 2:=ZC.of Kq0
theorem Zkm:ZC XX.P 91 0 0:=ZC.of Kq0
theorem Zkl:ZC XX.P 91 1 7:=ZC.of Kq0
theorem Zzd:ZC XX.P 91 2 9:=ZC.of Kq0
theorem Zzc:ZC XX.P 96 0 0:=ZC.of Kq0
theorem Zzb:ZC XX.P 96 1 2:=ZC.of Kq0
theorem Zza:ZC XX.P 96 2 9:=ZC.of Kq0
theorem ZqG:ZC XX.P 99 0 0:=ZC.of Kq0
theorem Zkk:ZC XX.P 99 1 1:=ZC.of Kq0
theorem Zwf:ZC XX.P 106 0 0:=ZC.of Kq0
theorem Zwe:ZC XX.P 106 1 2:=ZC.of Kq0
theorem Zwd:ZC XX.P 121 0 0:=ZC.of Kq0
theorem Zwc:ZC XX.P 121 1 1:=ZC.of Kq0
theorem Zwb:ZC XX.P 121 2 2:=ZC.of Kq0
theorem Zwa:ZC XX.P 121 3 3:=ZC.of Kq0
theorem Zmy:ZC XX.P 121 4 4:=ZC.of Kq0
theorem Zfc:Y6 XX.P 3=some (.int .i64 0):=Kq0
theorem ZGY:Y6 XX.P 4=some (.bool false):=Kq0
theorem Zs3:Y6 XX.P 33=some (.agg #[.slice none 0 0,.slice none 0 0,.slice none 0 0,.slice none 0 0,.slice none 0 0,.slice none 0 0,.int .i64 0]):=Kq0
theorem ZcA:Y6 XX.P 35=some (.slice none 0 0):=Kq0
theorem ZBY:Y6 XX.P 36=some (.int .i64 0):=Kq0
theorem ZnA:Y6 XX.P 64=some (.agg #[.int .i64 0,.int .i64 0,.int .i64 0,.int .i64 0]):=Kq0
theorem ZBX:Y6 XX.P 66=some (.agg #[.int .i64 0,.int .i64 0]):=Kq0
theorem ZBW:Y6 XX.P 67=some (.agg #[.int .i64 0,.int .i64 0]):=Kq0
theorem Zs2:Y6 XX.P 69=some (.slice none 0 0):=Kq0
theorem Zs1:Y6 XX.P 71=some (.int .i64 0):=Kq0
theorem Zs0:Y6 XX.P 74=some (.agg #[.int .i64 0,.int .i64 0,.int .i64 0]):=Kq0
theorem ZsZ:Y6 XX.P 91=some (.agg #[.slice none 0 0,.slice none 0 0,.slice none 0 0,.slice none 0 0,.slice none 0 0,.slice none 0 0,.int .i64 0,.int .i64 0,.slice none 0 0,.slice none 0 0]):=Kq0
theorem ZBV:Y6 XX.P 96=some (.agg #[.int .i64 0,.slice none 0 0,.slice none 0 0,.slice none 0 0,.slice none 0 0,.slice none 0 0,.slice none 0 0,.slice none 0 0,.int .i64 0,.slice none 0 0]):=Kq0
theorem ZsY:Y6 XX.P 99=some (.agg #[.int .i64 0,.slice none 0 0]):=Kq0
theorem ZxQ:Y6 XX.P 106=some (.agg #[.int .i64 0,.slice none 0 0,.slice none 0 0]):=Kq0
theorem ZxP:Y6 XX.P 112=some (.nilFunc):=Kq0
theorem Zam:Y6 XX.P 121=some (.agg #[.int .i64 0,.int .i64 0,.int .i64 0,.int .i64 0,.slice none 0 0]):=Kq0
theorem ZbR:Y6 XX.P 124=some (.nilFunc):=Kq0
theorem ZBD:Zci XX.P 33 [.slice none 0 0,.slice none 0 0,.slice none 0 0,.slice none 0 0,.slice none 0 0,.slice none 0 0,.int .i64 0] [(0,1),(1,1),(2,1),(3,1),(4,1),(5,1),(6,1)]:= ⟨_,_,Zs3,rfl,Tryz.underlying33,by kernel_rfl⟩
theorem ZLI:Zci XX.P 64 [.int .i64 0,.int .i64 0,.int .i64 0,.int .i64 0] [(0,1),(1,1),(2,1),(3,1)]:= ⟨_,_,ZnA,rfl,Tryz.underlying64,by kernel_rfl⟩
theorem ZLH:Zci XX.P 74 [.int .i64 0,.int .i64 0,.int .i64 0] [(0,1),(1,1),(2,1)]:= ⟨_,_,Zs0,rfl,Tryz.underlying74,by kernel_rfl⟩
theorem ZLG:Zci XX.P 91 [.slice none 0 0,.slice none 0 0,.slice none 0 0,.slice none 0 0,.slice none 0 0,.slice none 0 0,.int .i64 0,.int .i64 0,.slice none 0 0,.slice none 0 0] [(0,7),(7,2),(9,1)]:= ⟨_,_,ZsZ,rfl,Tryz.underlying91,by kernel_rfl⟩
theorem ZhF:Zci XX.P 121 [.int .i64 0,.int .i64 0,.int .i64 0,.int .i64 0,.slice none 0 0] [(0,1),(1,1),(2,1),(3,1),(4,1)]:= ⟨_,_,Zam,rfl,Tryz.underlying121,by kernel_rfl⟩
theorem Zw8:Zcz XX.P #[28,28] 1 8:= ⟨71,.int .i64 0,by kernel_rfl⟩
theorem ZhK:Zcz XX.P #[29,29] 1 24:= ⟨35,.slice none 0 0,by kernel_rfl⟩
theorem Zw7:Zcz XX.P #[34,34] 4 32:= ⟨64,.agg #[.int .i64 0,.int .i64 0,.int .i64 0,.int .i64 0],by kernel_rfl⟩
theorem ZdV:Zcz XX.P #[35,35] 1 8:= ⟨3,.int .i64 0,by kernel_rfl⟩
theorem ZdU:Zcz XX.P #[69,69] 5 56:= ⟨121,.agg #[.int .i64 0,.int .i64 0,.int .i64 0,.int .i64 0,.slice none 0 0],by kernel_rfl⟩
theorem KO:ZhS XX.P 119 (Value.int .i64):=ZhS.int Kq0
theorem ZLF:KS XX.P 3=some 8:=Kq0
theorem ZFY:KS XX.P 69=some 24:=Kq0
theorem ZFX:KS XX.P 99=some 32:=Kq0
theorem ZJ8:(XX.fns.get 14).isSome=true:=Kq0
theorem ZBe:(XX.fns.get 15).isSome=true:=Kq0
theorem ZJ7:(XX.fns.get 17).isSome=true:=Kq0
theorem ZJ6:(XX.fns.get 23).isSome=true:=Kq0
theorem ZJ5:(XX.fns.get 24).isSome=true:=Kq0
theorem ZJ4:(XX.fns.get 29).isSome=true:=Kq0
theorem ZJ3:(XX.fns.get 30).isSome=true:=Kq0
theorem ZBd:(XX.fns.get 32).isSome=true:=Kq0
theorem ZBc:(XX.fns.get 33).isSome=true:=Kq0
theorem ZJ2:(XX.fns.get 34).isSome=true:=Kq0
theorem ZJ1:(XX.fns.get 41).isSome=true:=Kq0
theorem ZJ0:(XX.fns.get 42).isSome=true:=Kq0
theorem ZJZ:(XX.fns.get 46).isSome=true:=Kq0
theorem ZJY:(XX.fns.get 47).isSome=true:=Kq0
theorem ZBb:(XX.fns.get 48).isSome=true:=Kq0
theorem ZvM:(XX.fns.get 54).isSome=true:=Kq0
theorem ZqD:(XX.fns.get 55).isSome=true:=Kq0
theorem ZBa:(XX.fns.get 57).isSome=true:=Kq0
theorem ZJX:(XX.fns.get 60).isSome=true:=Kq0
theorem ZJW:(XX.fns.get 68).isSome=true:=Kq0
theorem Zi8:(XX.fns.get 69).isSome=true:=Kq0
theorem ZA9:(XX.fns.get 70).isSome=true:=Kq0
theorem ZA8:(XX.fns.get 71).isSome=true:=Kq0
theorem ZA7:(XX.fns.get 72).isSome=true:=Kq0
theorem ZvL:(XX.fns.get 73).isSome=true:=Kq0
theorem ZJV:(XX.fns.get 74).isSome=true:=Kq0
theorem ZJU:(XX.fns.get 75).isSome=true:=Kq0
theorem ZqC:(XX.fns.get 84).isSome=true:=Kq0
theorem ZA6:(XX.fns.get 85).isSome=true:=Kq0
theorem Zmp:(XX.fns.get 89).isSome=true:=Kq0
theorem JM:(XX.fns.get 94).isSome=true:=Kq0
theorem Zmo:(XX.fns.get 95).isSome=true:=Kq0
theorem ZA5:(XX.fns.get 96).isSome=true:=Kq0
theorem ZA4:(XX.fns.get 97).isSome=true:=Kq0
theorem ZvK:(XX.fns.get 98).isSome=true:=Kq0
theorem ZvJ:(XX.fns.get 99).isSome=true:=Kq0
theorem ZEL:(XX.fns.get 100).isSome=true:=Kq0
theorem ZEK:(XX.fns.get 101).isSome=true:=Kq0
theorem ZEJ:(XX.fns.get 102).isSome=true:=Kq0
theorem ZEI:(XX.fns.get 103).isSome=true:=Kq0
theorem ZoH:(XX.fns.get 104).isSome=true:=Kq0
theorem ZEH:(XX.fns.get 105).isSome=true:=Kq0
theorem ZEG:(XX.fns.get 106).isSome=true:=Kq0
theorem ZEF:(XX.fns.get 107).isSome=true:=Kq0
theorem ZEE:(XX.fns.get 108).isSome=true:=Kq0
theorem ZED:(XX.fns.get 119).isSome=true:=Kq0
theorem ZoG:(XX.fns.get 125).isSome=true:=Kq0
theorem ZvT:(XX.fns.get 126).isSome=true:=Kq0
theorem ZEC:(XX.fns.get 127).isSome=true:=Kq0
theorem ZvS:(XX.fns.get 128).isSome=true:=Kq0
theorem ZvR:(XX.fns.get 136).isSome=true:=Kq0
theorem ZvQ:(XX.fns.get 137).isSome=true:=Kq0
theorem ZvP:(XX.fns.get 138).isSome=true:=Kq0
theorem ZvO:(XX.fns.get 139).isSome=true:=Kq0
theorem ZvN:(XX.fns.get 142).isSome=true:=Kq0
end
end Go.Proofs.YtcnahmgekicbdaaGreat
end
end
section
noncomputable section
namespace Go.YF
open Go.Lf
class ZaJ (P:Program) (t:TypeId):Prop where
 out:YZ P t=some false
class Zlq (P:Program) (t:TypeId):Prop where
 out:YZ P t=some true
class SzF (P:Program) (t:TypeId) (n:outParam Nat):Prop where
 out:Yv P t=some n
class Jy (P:Program) (t:TypeId) (f:Nat) (o:outParam Nat):Prop where
 out:ZC P t f o
class ZfG (P:Program) (t:TypeId) (e:outParam TypeId):Prop where
 out:P.underlying t=some (.slice e)
class ZGB (P:Program) (t:TypeId):Prop where
 out:P.underlying t=some .bool
class ZaI (P:Program) (t:TypeId) (v:outParam Value):Prop where
 out:Y6 P t=some v
theorem ia {v:Value} (h:Jk v=false):Jk v=false:=h
theorem Wh {fr:Fr} {t:Nat} {c:Bool} {v:Value} (h:fr.at t=cond c v undef) (ha:Jk v=false) (hc:c=true):Yw fr (.tmp t)=some v:=UL h ha hc
section
variable {X:Ctx} {h:H} {fr:Fr} {ty:TypeId} {p':String} {af:Array Edge} {g:Option (Nat×Bool)} {d:Option Tmp} {wm:Nat} {T:Nat ->Prop} {h0:H} {G Gr:List (Ast wm)}
theorem ZLP {x:Operand} {t:TypeId} {f off b o:Nat} [hf:Jy X.P t f off] (hx:Yw fr x=some (.pointer (some ⟨b,o,none⟩))):X3 X h (Yw fr) ⟨d,.fieldAddr t x f,ty,p',af,g⟩=some (.val (.pointer (some ⟨b,o + off,none⟩)),.none):=UN hf.out hx
theorem ZRx {x:Operand} {t:TypeId} {b oo:Nat} {vs:List Value} {v:Value} [ht:ZaJ X.P t] (hx:Yw fr x=some (.pointer (some ⟨b,oo,none⟩))) (hS:Sp wm T h0 G h) (pp:Pk G (bx wm b vs) Gr) (hv:vs[oo]? =some v):
 X3 X h (Yw fr) ⟨d,.load t x,ty,p',af,g⟩=some (.val v,.none):=X9 ht.out hx (hS.Wm pp) (Nat.zero_add _).symm hv
theorem ZLN {x:Operand} {t:TypeId} {b oo sz:Nat} {vs ws:List Value} [ht:Zlq X.P t] [hs:SzF X.P t sz] (hx:Yw fr x=some (.pointer (some ⟨b,oo,none⟩))) (hS:Sp wm T h0 G h) (pp:Pk G (bx wm b vs) Gr) (hj:Nat.ble (oo + sz) vs.length=true) (hv:(vs.drop oo).take sz=ws):
 X3 X h (Yw fr) ⟨d,.load t x,ty,p',af,g⟩=some (.val (.agg ws.toArray),.none):=J2 ht.out hs.out hx (hS.Wm pp) (Nat.zero_add _).symm hj hv
theorem ZLQ {dd:Tmp} {x:Operand} {t:TypeId} {v:Value} {vs:List Value} (hx:Yw fr x=some v) (hS:Sp wm T h0 G h) (hv:v.cells.toList=vs):
 HN X wm ⟨some dd,.box t x,ty,p',af,g⟩ fr h (fun v h'=>∃ b,h.size=b∧v= .pointer (some ⟨b,0,none⟩)∧Sp wm T h0 (bx wm b vs::G) h'):=ZHO hS hx hv
theorem ZLR {dd:Tmp} {t:TypeId} {v:Value} {vs:List Value} [hz:ZaI X.P t v] (hS:Sp wm T h0 G h) (hv:v.cells.toList=vs):
 HN X wm ⟨some dd,.alloc t,ty,p',af,g⟩ fr h (fun v h'=>∃ b,h.size=b∧v= .pointer (some ⟨b,0,none⟩)∧Sp wm T h0 (bx wm b vs::G) h'):=ZAJ hS hz.out hv
theorem ZRw {x y:Operand} {t:TypeId} {b o sz:Nat} {cs cs' vs:List Value} {v:Value} [hs:SzF X.P t sz] (hx:Yw fr x=some (.pointer (some ⟨b,o,none⟩))) (hS:Sp wm T h0 G h) (pk:Pk G (bx wm b cs) Gr) (hy:Yw fr y=some v)
 (hvs:v.cells.toList=vs) (hn:Nat.beq vs.length sz=true) (hl:Nat.ble (o + sz) cs.length=true) (hc:vs.all Value.oneCell'=true) (hv:splice cs o vs=cs'):
 HU X wm ⟨none,.store t x y,ty,p',af,g⟩ fr h (fun i=>i=b) (fun h'=>Sp wm T h0 (bx wm b cs'::Gr) h'):=Zyh hS pk hs.out hx hy hvs hn hl hc hv
theorem ZLO {α:Type} {xs:List α} {v:α} {x y:Operand} {t e:TypeId} {sz b o nn c dd:Nat} {a:Option Addr} {k:Int} [hu:ZfG X.P t e] [hs:SzF X.P e sz] (hx:Yw fr x=some (.slice a nn c)) (hy:Yw fr y=some (.int .i64 k)) (hn:nn=xs.length) (ha:a=some ⟨b,o,none⟩) (hk:ZJ xs k=some v):
 X3 X h (Yw fr) ⟨some dd,.indexAddr t x y,ty,p',af,g⟩=some (.val (.pointer (some ⟨b,o + k.toNat * sz,none⟩)),.none):=Qh hu.out hs.out hx hy hn ha hk
theorem ZLM {x:Operand} {t:TypeId} {b o oo j:Nat} {vs:List Value} {v:Value} [ht:ZaJ X.P t] (hx:Yw fr x=some (.pointer (some ⟨b,oo,none⟩))) (ha:At h b o vs) (ho:oo=o + j) (hv:vs[j]? =some v):
 X3 X h (Yw fr) ⟨d,.load t x,ty,p',af,g⟩=some (.val v,.none):=X9 ht.out hx ha ho hv
theorem ZLL {x:Operand} {t e':TypeId} {a:Option Addr} {mm cc dd:Nat} [hu:ZfG X.P t e'] (hx:Yw fr x=some (.slice a mm cc)):
 X3 X h (Yw fr) ⟨some dd,.call {callee:= .builtin .len,args:=#[x],argTypes:=#[t]},ty,p',af,g⟩=some (.val (.int .i64 (mm:Int)),.none):=ZaE hu.out hx rfl
end
section
variable {X:Ctx} {n wm:Nat} {rd:Option Nat} {ops:Array Oper} {l:List Oper} {fr:Fr} {ds:List Deferred} {h:H} {ty:TypeId} {p:String} {af:Array Edge} {g:Option (Nat×Bool)} {sf:ST} {m:Nat}
theorem WX.w2 {Q:Fr ->H ->Prop} {d:Nat} {op:Op} {v:Value} (hg:Yu ops ⟨some d,op,ty,p,af,g⟩ fr) (hd:Nat.blt d n=true) (hM:okM ops sf m ⟨some d,op,ty,p,af,g⟩=true) (ha:X3 X h (Yw fr) ⟨some d,op,ty,p,af,g⟩=some (.val v,.none)) (k:WX X n wm rd ops sf (m + 1) h l (Tr.set fr d v) Q):
 WX X n wm rd ops sf m h (⟨some d,op,ty,p,af,g⟩::l) fr Q:=WX.w hg hd ha k hM
theorem WX.gv2 {Q:Fr ->H ->Prop} {d:Nat} {op:Op} {c:Bool} {v:Value} (hg:Zh ops ⟨some d,op,ty,p,af,g⟩ fr c) (hd:Nat.blt d n=true) (hM:okM ops sf m ⟨some d,op,ty,p,af,g⟩=true) (ha:c=true ->X3 X h (Yw fr) ⟨some d,op,ty,p,af,g⟩=some (.val v,.none)) (k:WX X n wm rd ops sf (m + 1) h l (Tr.set fr d (cond c v undef)) Q):
 WX X n wm rd ops sf m h (⟨some d,op,ty,p,af,g⟩::l) fr Q:=WX.gv hg hd ha k hM
end
structure Kp (q:Prop):Prop where
 out:q
section
variable {X:Ctx} {n wm:Nat} {rd:Option Nat} {Q:XX ->Fs ->Prop}
theorem E0 {p:Prop}(h:p:=by(focus (repeat (first | with_reducible exact fh | ((with_reducible apply ZA);exact rfl) | ((with_reducible apply YJ);exact rfl) | ((with_reducible apply Z9);exact rfl) | ((with_reducible apply Zf);exact rfl) | with_reducible assumption));first|done|fail)):p:=h
theorem cn {c:Operand} {a b:Code} {t:Bool} {fr:Fr} {ds:List Deferred} {h:H} {α:Type} {x y r:α} (hL:(bif t then x else y)=r) (h1:t=true ->x=r ->WC X n wm rd a ⟨fr,ds,h,none⟩ Q) (h2:t=false ->y=r ->WC X n wm rd b ⟨fr,ds,h,none⟩ Q) (hc:Yw fr c=some (.bool t):=by(first | exact Wl rfl | (apply ZV;exact E0;(first | exact ia rfl | assumption)) | (apply Wh;exact E0;(first | exact ia rfl | assumption);assumption) | fail)):WC X n wm rd (.cond c a b) ⟨fr,ds,h,none⟩ Q:=
 WC.ZLt hc (fun e=>h1 e (Q9 e hL)) (fun e=>h2 e (Ja e hL))
theorem rt {fn:Func} {fr:Fr} {h h0:H} {T:Nat ->Prop} {G G':List (Ast wm)} {wr:Option Nat} {t:Tmp} {β:Type} {x r:β} {g:β ->Value} (hL:some x=some r) (hT:T=Qa G) (hS:Sp wm T h0 G' h) (hr:fn.results.toList= [.tmp t]:=by exact rfl) (hv:Yw fr (.tmp t)=some (g x):=by(first | exact Wl rfl | (apply ZV;exact E0;(first | exact ia rfl | assumption)) | (apply Wh;exact E0;(first | exact ia rfl | assumption);assumption) | fail)):
 Yd X fn (fun e h'=>∃ v,e= .ret v∧CP (fun v Gb=>v=g r∧Gb= []) G h0 v h') .ret ⟨fr,[],h,wr⟩:=by
 cases hL;exact Yd.U9 hr (ZW hv Zu) ⟨_,⟨rfl,rfl⟩,hT ▸ hS.only .n⟩
theorem bg {f:FuncId} {fn:Func} {c:Code} {args:List Value} {n:Nat} {K:Value ->List (Ast wm) ->Prop} {G:List (Ast wm)} {h:H} {fr:Fr} (hnt:fn.ntmps=n) (ZK:wm <=h.size) (hO:Z5 G h)
 (k:∀ T,T=Qa (wm:=wm) G ->Sp wm T h G h ->WC X n wm none c ⟨fr,[],h,none⟩ (Yd X fn (fun e h'=>∃ v,e= .ret v∧CP K G h v h'))) (hf:X.fns.get f=some fn:=by kernel_rfl) (hb:fn.body=some c:=by exact rfl) (hn:args.length <=n:=by simp)
 (hfr:Qk args 0 .nil=fr:=by(simp only [ZH,ZU,Nat.reduceAdd];exact rfl)):WR X f args.toArray wm h (CP K G h):=by
 subst hfr;exact WF.begin hf hb hnt hn (k _ rfl (Sp.start ZK hO))
end
theorem lk {p:Prop} (h:p:=by(first | exact Wl rfl | (apply ZV;exact E0;(first | exact ia rfl | assumption)) | (apply Wh;exact E0;(first | exact ia rfl | assumption);assumption) | fail)):p:=h
theorem lks {p:Prop} (h:p:=by
 repeat (first | exact Zo | (apply Zb;(focus (first | exact Wl rfl | (apply ZV;exact E0;(first | exact ia rfl | assumption)) | (apply Wh;exact E0;(first | exact ia rfl | assumption);assumption) | fail);done)))
 done):p:=h
theorem JN {p:Prop} (h:p:=by
 repeat (first | with_reducible exact fh | ((with_reducible apply ZA);exact rfl) | ((with_reducible apply YJ);exact rfl) | ((with_reducible apply Z9);exact rfl) | ((with_reducible apply Zf);exact rfl) | with_reducible assumption | refine⟨?_,?_⟩)
 done):p:=h
theorem r1 {p q:Prop} (k:q) (h:Kp q ->p:=by
 intro k
 first
 | refine WO.nil ?_
 | refine ZfH.XK ?_
 | refine WC.seq ?_
 | refine WC.region ?_
 | ((first | apply WO.w gN rfl | (apply WO.gv;(focus (first | (apply Zh.yes rfl rfl rfl;exact E0) | (apply Zh.no rfl rfl rfl;exact E0) | (apply Zh.ZxS rfl rfl rfl;exact E0) | (apply Zh.no2 rfl rfl rfl;exact E0) | fail);done);rfl;intro hg) | (apply WX.w2 gN;rfl;rfl) | (apply WX.gv2;(focus (first | (apply Zh.yes rfl rfl rfl;exact E0) | (apply Zh.no rfl rfl rfl;exact E0) | (apply Zh.ZxS rfl rfl rfl;exact E0) | (apply Zh.no2 rfl rfl rfl;exact E0) | fail);done);rfl;rfl;intro hg));(focus (first
   | ((with_reducible apply Wy);(first | exact Wl rfl | (apply ZV;exact E0;(first | exact ia rfl | assumption)) | (apply Wh;exact E0;(first | exact ia rfl | assumption);assumption) | fail))
   | ((with_reducible apply ZRx);(focus (first | exact Wl rfl | (apply ZV;exact E0;(first | exact ia rfl | assumption)) | (apply Wh;exact E0;(first | exact ia rfl | assumption);assumption) | fail);done);assumption;(focus (first | exact k0 | exact k1 | exact k2 | exact k3 | exact k4 | exact k5 | exact k6 | exact k7 | (repeat (first | exact k7 | apply Pk.s)));done);rfl)
   | ((with_reducible apply ZLP);(first | exact Wl rfl | (apply ZV;exact E0;(first | exact ia rfl | assumption)) | (apply Wh;exact E0;(first | exact ia rfl | assumption);assumption) | fail))
   | ((with_reducible apply Ud);(first | exact Wl rfl | (apply ZV;exact E0;(first | exact ia rfl | assumption)) | (apply Wh;exact E0;(first | exact ia rfl | assumption);assumption) | fail))
   | ((with_reducible apply JE);(focus (first | exact Wl rfl | (apply ZV;exact E0;(first | exact ia rfl | assumption)) | (apply Wh;exact E0;(first | exact ia rfl | assumption);assumption) | fail);done);(focus (first | exact Wl rfl | (apply ZV;exact E0;(first | exact ia rfl | assumption)) | (apply Wh;exact E0;(first | exact ia rfl | assumption);assumption) | fail);done);(first | with_reducible exact Ze8 | with_reducible exact Zxp | with_reducible exact Zno | with_reducible exact Zxm | with_reducible exact Zsu | with_reducible exact ZhQ | with_reducible exact Zxo | with_reducible exact Zxn | with_reducible exact Ze7 | with_reducible exact Zsz ZGB.out | with_reducible exact Zsy ZGB.out))
   | ((with_reducible apply ZLN);(focus (first | exact Wl rfl | (apply ZV;exact E0;(first | exact ia rfl | assumption)) | (apply Wh;exact E0;(first | exact ia rfl | assumption);assumption) | fail);done);assumption;(focus (first | exact k0 | exact k1 | exact k2 | exact k3 | exact k4 | exact k5 | exact k6 | exact k7 | (repeat (first | exact k7 | apply Pk.s)));done);rfl;(focus simp only [Nat.zero_add,Nat.reduceAdd,List.drop_succ_cons,List.drop_zero,List.take_succ_cons,List.take_zero,List.take_nil];rfl))
   | ((with_reducible apply ZLL);(first | exact Wl rfl | (apply ZV;exact E0;(first | exact ia rfl | assumption)) | (apply Wh;exact E0;(first | exact ia rfl | assumption);assumption) | fail))
   | ((with_reducible apply ZLO);(focus (first | exact Wl rfl | (apply ZV;exact E0;(first | exact ia rfl | assumption)) | (apply Wh;exact E0;(first | exact ia rfl | assumption);assumption) | fail);done);(focus (first | exact Wl rfl | (apply ZV;exact E0;(first | exact ia rfl | assumption)) | (apply Wh;exact E0;(first | exact ia rfl | assumption);assumption) | fail);done);(focus (exact rfl));assumption;assumption)
   | ((with_reducible apply ZLM);(focus (first | exact Wl rfl | (apply ZV;exact E0;(first | exact ia rfl | assumption)) | (apply Wh;exact E0;(first | exact ia rfl | assumption);assumption) | fail);done);(focus (first | assumption | (apply At.fz;(focus (apply Sp.fz;assumption));assumption;assumption));done);(focus (first | exact(Nat.add_zero _).symm | exact rfl);done);rfl)
   | ((with_reducible apply Zpj);(focus (first | exact Wl rfl | (apply ZV;exact E0;(first | exact ia rfl | assumption)) | (apply Wh;exact E0;(first | exact ia rfl | assumption);assumption) | fail);done);rfl)
   | ((with_reducible apply Zlb);(first | exact Wl rfl | (apply ZV;exact E0;(first | exact ia rfl | assumption)) | (apply Wh;exact E0;(first | exact ia rfl | assumption);assumption) | fail))
   | ((with_reducible apply ZbH);(first | exact Wl rfl | (apply ZV;exact E0;(first | exact ia rfl | assumption)) | (apply Wh;exact E0;(first | exact ia rfl | assumption);assumption) | fail))
   | ((with_reducible apply ZeZ);(focus (first | exact Wl rfl | (apply ZV;exact E0;(first | exact ia rfl | assumption)) | (apply Wh;exact E0;(first | exact ia rfl | assumption);assumption) | fail);done);(focus (apply ZLa;exact E0);done);(first | exact Wl rfl | (apply ZV;exact E0;(first | exact ia rfl | assumption)) | (apply Wh;exact E0;(first | exact ia rfl | assumption);assumption) | fail))
   | ((with_reducible apply ZBF);(focus (first | exact Wl rfl | (apply ZV;exact E0;(first | exact ia rfl | assumption)) | (apply Wh;exact E0;(first | exact ia rfl | assumption);assumption) | fail);done);(focus (first | exact Wl rfl | (apply ZV;exact E0;(first | exact ia rfl | assumption)) | (apply Wh;exact E0;(first | exact ia rfl | assumption);assumption) | fail);done);(apply ZLa;exact E0))
   | fail)))
 | (apply WO.hu gN;(focus (first | (((with_reducible apply ZRw));(focus (first | exact Wl rfl | (apply ZV;exact E0;(first | exact ia rfl | assumption)) | (apply Wh;exact E0;(first | exact ia rfl | assumption);assumption) | fail);done);assumption;(focus (first | exact k0 | exact k1 | exact k2 | exact k3 | exact k4 | exact k5 | exact k6 | exact k7 | (repeat (first | exact k7 | apply Pk.s)));done);(focus (first | exact Wl rfl | (apply ZV;exact E0;(first | exact ia rfl | assumption)) | (apply Wh;exact E0;(first | exact ia rfl | assumption);assumption) | fail);done);(focus (first | (simp only [ZeU,ZcS,ZbE,ZeS,ZeT,ZeW,ZaD,cells_func,KR,Ki,ZbF];exact rfl) | exact rfl));exact rfl;exact rfl;exact rfl;(focus simp only [splice,List.take_succ_cons,List.take_zero,List.drop_succ_cons,List.drop_zero,List.cons_append,List.nil_append,List.append_nil,List.length_cons,List.length_nil,Nat.reduceAdd,Nat.zero_add,List.take_nil,List.drop_nil];exact rfl)) | fail)))
 | (apply WO.hn gN rfl;(focus (first | (((with_reducible apply ZLQ));(focus (first | exact Wl rfl | (apply ZV;exact E0;(first | exact ia rfl | assumption)) | (apply Wh;exact E0;(first | exact ia rfl | assumption);assumption) | fail);done);assumption;(focus (first | (simp only [ZeU,ZcS,ZbE,ZeS,ZeT,ZeW,ZaD,cells_func,KR,Ki,ZbF];exact rfl) | exact rfl))) | (((with_reducible apply ZLR));assumption;(focus (first | (simp only [ZeU,ZcS,ZbE,ZeS,ZeT,ZeW,ZaD,cells_func,KR,Ki,ZbF];exact rfl) | exact rfl))) | fail)))
 | refine WC.skip ?_
 | refine WC.ret ?_
 | refine WC.block ?_
 | refine WC.exit ?_
 | refine ZfH.ret ?_
 | refine ZfH.exit ?_
 | refine Zfa.ret ?_
 | refine Zfa.XK ?_
 | refine Zfa.here ?_
 | refine Y0.exit ?_
 | refine Y0.ret ?_
 | refine WX.nil ?_
 | fail
 exact k.out):p:=h ⟨k⟩
theorem sl {p:Prop} (h:p:=by
 repeat (first | exact Sel.n | (apply Sel.c;(focus (first | exact k0 | exact k1 | exact k2 | exact k3 | exact k4 | exact k5 | exact k6 | exact k7 | (repeat (first | exact k7 | apply Pk.s))))))
 done):p:=h
theorem r2 {p q:Prop} (k:q) (h:Kp q ->p:=by
 intro k
 iterate 2 (refine r1 ?_)
 exact k.out):p:=h ⟨k⟩
theorem r3 {p q:Prop} (k:q) (h:Kp q ->p:=by
 intro k
 iterate 3 (refine r1 ?_)
 exact k.out):p:=h ⟨k⟩
theorem r4 {p q:Prop} (k:q) (h:Kp q ->p:=by
 intro k
 iterate 4 (refine r1 ?_)
 exact k.out):p:=h ⟨k⟩
theorem r5 {p q:Prop} (k:q) (h:Kp q ->p:=by
 intro k
 iterate 5 (refine r1 ?_)
 exact k.out):p:=h ⟨k⟩
theorem r6 {p q:Prop} (k:q) (h:Kp q ->p:=by
 intro k
 iterate 6 (refine r1 ?_)
 exact k.out):p:=h ⟨k⟩
theorem r7 {p q:Prop} (k:q) (h:Kp q ->p:=by
 intro k
 iterate 7 (refine r1 ?_)
 exact k.out):p:=h ⟨k⟩
theorem r8 {p q:Prop} (k:q) (h:Kp q ->p:=by
 intro k
 iterate 8 (refine r1 ?_)
 exact k.out):p:=h ⟨k⟩
theorem r9 {p q:Prop} (k:q) (h:Kp q ->p:=by
 intro k
 iterate 9 (refine r1 ?_)
 exact k.out):p:=h ⟨k⟩
theorem r10 {p q:Prop} (k:q) (h:Kp q ->p:=by
 intro k
 iterate 10 (refine r1 ?_)
 exact k.out):p:=h ⟨k⟩
theorem r11 {p q:Prop} (k:q) (h:Kp q ->p:=by
 intro k
 iterate 11 (refine r1 ?_)
 exact k.out):p:=h ⟨k⟩
theorem r12 {p q:Prop} (k:q) (h:Kp q ->p:=by
 intro k
 iterate 12 (refine r1 ?_)
 exact k.out):p:=h ⟨k⟩
theorem r13 {p q:Prop} (k:q) (h:Kp q ->p:=by
 intro k
 iterate 13 (refine r1 ?_)
 exact k.out):p:=h ⟨k⟩
theorem r14 {p q:Prop} (k:q) (h:Kp q ->p:=by
 intro k
 iterate 14 (refine r1 ?_)
 exact k.out):p:=h ⟨k⟩
theorem r15 {p q:Prop} (k:q) (h:Kp q ->p:=by
 intro k
 iterate 15 (refine r1 ?_)
 exact k.out):p:=h ⟨k⟩
theorem r16 {p q:Prop} (k:q) (h:Kp q ->p:=by
 intro k
 iterate 16 (refine r1 ?_)
 exact k.out):p:=h ⟨k⟩
end Go.YF
end
end
section
set_option maxRecDepth 20000
noncomputable section
namespace Go.Proofs.YtcnahmgekicbdaaGreat
open Go.YF Go.Lf
section
abbrev cE (x:Zp):List Value:= [.int .i64 x.kZ,.int .i64 x.kV,.int .i64 x.kX,.int .i64 x.n]
abbrev cS (x:Z7):List Value:= [.int .i64 x.act,.int .i64 x.a,.int .i64 x.b]
abbrev cP (x:ZI):List Value:= [.int .i64 x.at_,.int .i64 x.Uw]
abbrev cL (x:Zd) (a:Option Addr) (c:Nat):List Value:= [.int .i64 x.kW,.int .i64 x.kV,.int .i64 x.kX,.int .i64 x.n,.slice a x.qX.length c]
abbrev cW (x:Zg) (a0:Option Addr) (c0:Nat) (a1:Option Addr) (c1:Nat) (a2:Option Addr) (c2:Nat) (a3:Option Addr) (c3:Nat) (a4:Option Addr) (c4:Nat) (a5:Option Addr) (c5:Nat):List Value:= [.slice a0 x.qV.length c0,.slice a1 x.qX.length c1,.slice a2 x.qZ.length c2,.slice a3 x.Zk.length c3,.slice a4 x.Zt.length c4,.slice a5 x.kQ.length c5,.int .i64 x.kK]
abbrev cV (a0:Option Addr) (n0 c0:Nat) (a1:Option Addr) (n1 c1:Nat) (a2:Option Addr) (n2 c2:Nat) (a3:Option Addr) (n3 c3:Nat) (a4:Option Addr) (n4 c4:Nat) (a5:Option Addr) (n5 c5:Nat) (s:Int):List Value:= [.slice a0 n0 c0,.slice a1 n1 c1,.slice a2 n2 c2,.slice a3 n3 c3,.slice a4 n4 c4,.slice a5 n5 c5,.int .i64 s]
abbrev cH (a0:Option Addr) (n0 c0:Nat) (a1:Option Addr) (n1 c1:Nat) (a2:Option Addr) (n2 c2:Nat) (a3:Option Addr) (n3 c3:Nat) (a4:Option Addr) (n4 c4:Nat) (a5:Option Addr) (n5 c5:Nat) (s m:Int) (a6:Option Addr) (n6 c6:Nat) (a7:Option Addr) (n7 c7:Nat):List Value:= [.slice a0 n0 c0,.slice a1 n1 c1,.slice a2 n2 c2,.slice a3 n3 c3,.slice a4 n4 c4,.slice a5 n5 c5,.int .i64 s,.int .i64 m,.slice a6 n6 c6,.slice a7 n7 c7]
abbrev gH (wm b:Nat) (x:ZB) (a0:Option Addr) (n0 c0:Nat) (a1:Option Addr) (n1 c1:Nat) (q1:Nat ->Option Addr×Nat×Nat) (a2:Option Addr) (n2 c2:Nat) (q2:Nat ->Option Addr×Nat×Nat) (a3:Option Addr) (n3 c3:Nat) (q3:Nat ->Option Addr×Nat×Nat) (a4:Option Addr) (n4 c4:Nat) (q4:Nat ->Option Addr×Nat×Nat) (a5:Option Addr) (n5 c5:Nat) (q5:Nat ->Option Addr×Nat×Nat) (a6:Option Addr) (c6:Nat) (a7:Option Addr) (n7 c7:Nat):List (Ast wm):= [bx wm b [.slice a0 n0 c0,.slice a1 n1 c1,.slice a2 n2 c2,.slice a3 n3 c3,.slice a4 n4 c4,.slice a5 n5 c5,.int .i64 x.Za.kK,.int .i64 x.qK.qG,.slice a6 x.qK.Ze.length c6,.slice a7 n7 c7],ow wm (Zm .i64) a0 n0 c0 x.Za.qV,Z0 wm (Zw (Zm .i64)) a1 n1 c1 q1 x.Za.qX,Z0 wm (Zw (Zm .i64)) a2 n2 c2 q2 x.Za.qZ,Z0 wm (Zw (Zm .i64)) a3 n3 c3 q3 x.Za.Zk,Z0 wm (Zw Zj) a4 n4 c4 q4 x.Za.Zt,Z0 wm Zv a5 n5 c5 q5 x.Za.kQ,ow wm Zx a7 n7 c7 x.kU]
abbrev gHz (wm b:Nat) (x:ZB) (a0:Option Addr) (n0 c0:Nat) (a1:Option Addr) (n1 c1:Nat) (q1:Nat ->Option Addr×Nat×Nat) (a2:Option Addr) (n2 c2:Nat) (q2:Nat ->Option Addr×Nat×Nat) (a3:Option Addr) (n3 c3:Nat) (q3:Nat ->Option Addr×Nat×Nat) (a4:Option Addr) (n4 c4:Nat) (q4:Nat ->Option Addr×Nat×Nat) (a5:Option Addr) (n5 c5:Nat) (q5:Nat ->Option Addr×Nat×Nat) (a6:Option Addr) (c6:Nat) (a7:Option Addr) (n7 c7:Nat):List (Ast wm):= [bx wm b [.slice a0 n0 c0,.slice a1 n1 c1,.slice a2 n2 c2,.slice a3 n3 c3,.slice a4 n4 c4,.slice a5 n5 c5,.int .i64 x.Za.kK,.int .i64 x.qK.qG,.slice a6 x.qK.Ze.length c6,.slice a7 n7 c7],ow wm (Zm .i64) a0 n0 c0 x.Za.qV,Z0 wm (Zw (Zm .i64)) a1 n1 c1 q1 x.Za.qX,Z0 wm (Zw (Zm .i64)) a2 n2 c2 q2 x.Za.qZ,Z0 wm (Zw (Zm .i64)) a3 n3 c3 q3 x.Za.Zk,Z0 wm (Zw Zj) a4 n4 c4 q4 x.Za.Zt,Z0 wm Zv a5 n5 c5 q5 x.Za.kQ,Ql wm (XF Zi) (a6,c6) x.qK.Ze,ow wm Zx a7 n7 c7 x.kU]
instance:ZaJ XX.P 3:= ⟨ZdY⟩
instance:ZaJ XX.P 4:= ⟨ZF8⟩
instance:ZaJ XX.P 22:= ⟨ZBN⟩
instance:Zlq XX.P 24:= ⟨Zra⟩
instance:ZaJ XX.P 28:= ⟨ZBM⟩
instance:ZaJ XX.P 29:= ⟨Znl⟩
instance:ZaJ XX.P 30:= ⟨Zxj⟩
instance:ZaJ XX.P 31:= ⟨ZBL⟩
instance:Zlq XX.P 33:= ⟨ZhM⟩
instance:ZaJ XX.P 34:= ⟨ZBK⟩
instance:ZaJ XX.P 35:= ⟨Zq9⟩
instance:ZaJ XX.P 36:= ⟨Znk⟩
instance:ZaJ XX.P 62:= ⟨ZL0⟩
instance:Zlq XX.P 64:= ⟨Zxi⟩
instance:Zlq XX.P 66:= ⟨Znj⟩
instance:ZaJ XX.P 69:= ⟨Zxh⟩
instance:ZaJ XX.P 71:= ⟨Zxg⟩
instance:ZaJ XX.P 72:= ⟨ZLZ⟩
instance:Zlq XX.P 74:= ⟨ZBJ⟩
instance:ZaJ XX.P 87:= ⟨ZBI⟩
instance:Zlq XX.P 99:= ⟨ZBH⟩
instance:Zlq XX.P 106:= ⟨ZGb⟩
instance:ZaJ XX.P 112:= ⟨ZGa⟩
instance:ZaJ XX.P 119:= ⟨ZF9⟩
instance:Zlq XX.P 121:= ⟨Zlh⟩
instance:SzF XX.P 3 1:= ⟨Ul⟩
instance:SzF XX.P 4 1:= ⟨ZHI⟩
instance:SzF XX.P 24 2:= ⟨ZjM⟩
instance:SzF XX.P 28 1:= ⟨ZCg⟩
instance:SzF XX.P 29 1:= ⟨ZtH⟩
instance:SzF XX.P 30 1:= ⟨ZCf⟩
instance:SzF XX.P 31 1:= ⟨ZCe⟩
instance:SzF XX.P 33 7:= ⟨Zbg⟩
instance:SzF XX.P 34 1:= ⟨ZCd⟩
instance:SzF XX.P 35 1:= ⟨QJ⟩
instance:SzF XX.P 36 1:= ⟨ZCc⟩
instance:SzF XX.P 62 1:= ⟨ZCb⟩
instance:SzF XX.P 64 4:= ⟨ZjL⟩
instance:SzF XX.P 66 2:= ⟨Zgf⟩
instance:SzF XX.P 69 1:= ⟨Zbf⟩
instance:SzF XX.P 71 1:= ⟨Zed⟩
instance:SzF XX.P 74 3:= ⟨ZtG⟩
instance:SzF XX.P 99 2:= ⟨ZjK⟩
instance:SzF XX.P 106 3:= ⟨Zyg⟩
instance:SzF XX.P 112 1:= ⟨Zyf⟩
instance:SzF XX.P 121 5:= ⟨QH⟩
instance:Jy XX.P 24 0 0:= ⟨Zkn⟩
instance:Jy XX.P 24 1 1:= ⟨Zzs⟩
instance:Jy XX.P 33 0 0:= ⟨Zzr⟩
instance:Jy XX.P 33 1 1:= ⟨ZqI⟩
instance:Jy XX.P 33 2 2:= ⟨Zzq⟩
instance:Jy XX.P 33 3 3:= ⟨Zzp⟩
instance:Jy XX.P 33 4 4:= ⟨Zzo⟩
instance:Jy XX.P 33 5 5:= ⟨ZqH⟩
instance:Jy XX.P 33 6 6:= ⟨Zzn⟩
instance:Jy XX.P 64 0 0:= ⟨Zzm⟩
instance:Jy XX.P 64 1 1:= ⟨Zzl⟩
instance:Jy XX.P 64 2 2:= ⟨Zzk⟩
instance:Jy XX.P 64 3 3:= ⟨Zzj⟩
instance:Jy XX.P 66 0 0:= ⟨Zzi⟩
instance:Jy XX.P 66 1 1:= ⟨Zzh⟩
instance:Jy XX.P 74 0 0:= ⟨Zzg⟩
instance:Jy XX.P 74 1 1:= ⟨Zzf⟩
instance:Jy XX.P 74 2 2:= ⟨Zze⟩
instance:Jy XX.P 91 0 0:= ⟨Zkm⟩
instance:Jy XX.P 91 1 7:= ⟨Zkl⟩
instance:Jy XX.P 91 2 9:= ⟨Zzd⟩
instance:Jy XX.P 96 0 0:= ⟨Zzc⟩
instance:Jy XX.P 96 1 2:= ⟨Zzb⟩
instance:Jy XX.P 96 2 9:= ⟨Zza⟩
instance:Jy XX.P 99 0 0:= ⟨ZqG⟩
instance:Jy XX.P 99 1 1:= ⟨Zkk⟩
instance:Jy XX.P 106 0 0:= ⟨Zwf⟩
instance:Jy XX.P 106 1 2:= ⟨Zwe⟩
instance:Jy XX.P 121 0 0:= ⟨Zwd⟩
instance:Jy XX.P 121 1 1:= ⟨Zwc⟩
instance:Jy XX.P 121 2 2:= ⟨Zwb⟩
instance:Jy XX.P 121 3 3:= ⟨Zwa⟩
instance:Jy XX.P 121 4 4:= ⟨Zmy⟩
instance:ZfG XX.P 22 66:= ⟨ZHA⟩
instance:ZfG XX.P 25 74:= ⟨ZHz⟩
instance:ZfG XX.P 28 71:= ⟨ZpN⟩
instance:ZfG XX.P 29 35:= ⟨Kr⟩
instance:ZfG XX.P 30 69:= ⟨ZpM⟩
instance:ZfG XX.P 31 99:= ⟨Ztw⟩
instance:ZfG XX.P 34 64:= ⟨ZAD⟩
instance:ZfG XX.P 35 3:= ⟨Ui⟩
instance:ZfG XX.P 60 4:= ⟨ZHx⟩
instance:ZfG XX.P 69 121:= ⟨J4⟩
instance:ZGB XX.P 4:= ⟨ZM1⟩
instance:ZaI XX.P 3 (.int .i64 0):= ⟨Zfc⟩
instance:ZaI XX.P 4 (.bool false):= ⟨ZGY⟩
instance:ZaI XX.P 33 (.agg #[.slice none 0 0,.slice none 0 0,.slice none 0 0,.slice none 0 0,.slice none 0 0,.slice none 0 0,.int .i64 0]):= ⟨Zs3⟩
instance:ZaI XX.P 35 (.slice none 0 0):= ⟨ZcA⟩
instance:ZaI XX.P 36 (.int .i64 0):= ⟨ZBY⟩
instance:ZaI XX.P 64 (.agg #[.int .i64 0,.int .i64 0,.int .i64 0,.int .i64 0]):= ⟨ZnA⟩
instance:ZaI XX.P 66 (.agg #[.int .i64 0,.int .i64 0]):= ⟨ZBX⟩
instance:ZaI XX.P 67 (.agg #[.int .i64 0,.int .i64 0]):= ⟨ZBW⟩
instance:ZaI XX.P 69 (.slice none 0 0):= ⟨Zs2⟩
instance:ZaI XX.P 71 (.int .i64 0):= ⟨Zs1⟩
instance:ZaI XX.P 74 (.agg #[.int .i64 0,.int .i64 0,.int .i64 0]):= ⟨Zs0⟩
instance:ZaI XX.P 91 (.agg #[.slice none 0 0,.slice none 0 0,.slice none 0 0,.slice none 0 0,.slice none 0 0,.slice none 0 0,.int .i64 0,.int .i64 0,.slice none 0 0,.slice none 0 0]):= ⟨ZsZ⟩
instance:ZaI XX.P 96 (.agg #[.int .i64 0,.slice none 0 0,.slice none 0 0,.slice none 0 0,.slice none 0 0,.slice none 0 0,.slice none 0 0,.slice none 0 0,.int .i64 0,.slice none 0 0]):= ⟨ZBV⟩
instance:ZaI XX.P 99 (.agg #[.int .i64 0,.slice none 0 0]):= ⟨ZsY⟩
instance:ZaI XX.P 106 (.agg #[.int .i64 0,.slice none 0 0,.slice none 0 0]):= ⟨ZxQ⟩
instance:ZaI XX.P 112 (.nilFunc):= ⟨ZxP⟩
instance:ZaI XX.P 121 (.agg #[.int .i64 0,.int .i64 0,.int .i64 0,.int .i64 0,.slice none 0 0]):= ⟨Zam⟩
instance:ZaI XX.P 124 (.nilFunc):= ⟨ZbR⟩
end
section
def ZwE (p0:Zc):Option Bool:=
 some (decide ((p0.Ze.length:Int) <=30))
def Zhs (p0:Zc) (v23:Int) (ZjZ:(Int ->Option Bool)):Int×Int ->(Int×Int ->Option Bool) ->Option Bool:=fun(v34,v36) ZuO=>
 (bif((decide (v36 <= (p0.Ze.length:Int))) && (decide (v34 >=0))) then(bif(v34==v23) then some false else(ZJ p0.Ze v34).bind fun x41=>ZuO (x41.Uw,Yx (v36 + 1))) else ZjZ (Yx (v23 + 1)))
def ZeL (F:Nat) (p0:Zc):Int ->(Int ->Option Bool) ->Option Bool:=fun v23 ZjZ=>
 (bif decide (v23 < (p0.Ze.length:Int)) then(ZJ p0.Ze v23).bind fun x26=>loop F (Zhs p0 v23 ZjZ) (x26.Uw,0) else some true)
def Zht (F:Nat) (p0:Zc):Int ->(Int ->Option Bool) ->Option Bool:=fun v9 Zaw=>
 (bif decide (v9 < (p0.Ze.length:Int)) then(ZJ p0.Ze v9).bind fun x12=>(bif((((decide (x12.at_ < 0)) || (decide (x12.at_ >=p0.qG))) || (decide (x12.Uw < (-1)))) || (decide (x12.Uw >= (p0.Ze.length:Int)))) then some false else Zaw (Yx (v9 + 1))) else loop F (ZeL F p0) 0)
def ZoX (F:Nat) (p0:Zc):Option Bool:=
 (bif((((decide (p0.qG < 1)) || (decide (p0.qG > 4))) || (decide ((p0.Ze.length:Int) < 1))) || (decide ((p0.Ze.length:Int) > 8))) then some false else loop F (Zht F p0) 0)
def Zhp (v10:Int) (Zem:(Int×Int ->Option Int)):Int ->Option Int:=fun v18=>
 Zem (v18,Yx (v10 + 1))
def ZkJ (p0:(List Zp)) (p1:Int) (p2:Int) (p3:Int):Int×Int ->(Int×Int ->Option Int) ->Option Int:=fun(v6,v10) Zem=>
 (bif decide (v10 < (p0.length:Int)) then(ZJ p0 v10).bind fun x23=>(bif(((x23.kZ==p1) && (x23.kV==p2)) && (x23.kX==p3)) then(Zhp v10 Zem) (Yx (v6 + 1)) else(Zhp v10 Zem) v6) else some v6)
def ZoV (F:Nat) (p0:(List Zp)) (p1:Int) (p2:Int) (p3:Int):Option Int:=
 loop F (ZkJ p0 p1 p2 p3) (0,0)
def ZoU (p0:Zc) (p1:Int):Option Bool:=
 some ((decide (p1 >=0)) && (decide (p1 < (p0.Ze.length:Int))))
end
section
theorem ZFu {wm h} {p0:Zc} {Zr Zq} {r} (ZK:wm <=h.size) (Z4:Sl Zi wm h Zr Zq p0.Ze) (hL:ZwE p0=some r):
 WR XX 14 #[.agg [.int .i64 p0.qG,.slice Zr p0.Ze.length Zq].toArray] wm h (CP (fun(v:Value) (Gb:List (Ast wm))=>v= .bool r∧Gb= []) [] h):=by
 refine bg Tryz.ntmps14 ZK Z5.nil ?_;intro T hT hS;unfold ZwE at hL;refine r3 ?_;rintro _ h2 ⟨b1,eb1,rfl,hS⟩;refine r13 ?_;exact rt hL hT hS
theorem ZFr {F wm h} {p0:Zc} {Zr Zq} {r} (ZK:wm <=h.size) (Z4:Sl Zi wm h Zr Zq p0.Ze) (hL:ZoX F p0=some r):
 WR XX 17 #[.agg [.int .i64 p0.qG,.slice Zr p0.Ze.length Zq].toArray] wm h (CP (fun(v:Value) (Gb:List (Ast wm))=>v= .bool r∧Gb= []) [] h):=by
 refine bg Tryz.ntmps17 ZK Z5.nil ?_;intro T hT hS;unfold ZoX at hL;refine r3 ?_;rintro _ h2 ⟨b1,eb1,rfl,hS⟩;refine r16 ?_;refine r16 ?_;refine cn hL ?_ ?_
 ·intro hc hL;refine r7 ?_;exact rt hL hT hS
 ·intro hc hL;refine r12 ?_;refine WC.loop (WL.lift hL (fun v9 s=>∃ fr4 h3,s= ⟨fr4,[],h3,none⟩∧Sp wm T h [bx wm b1 [.int .i64 p0.qG,.slice Zr p0.Ze.length Zq]] h3∧fr4.at 1= .pointer (some ⟨b1,0,none⟩)∧fr4.at 3= .int .i64 (p0.Ze.length:Int)∧fr4.at 29= .slice Zr p0.Ze.length Zq∧fr4.at 30= .int .i64 (p0.Ze.length:Int)∧fr4.at 31= .int .i64 v9) ⟨_,_,rfl,hS.only sl,JN⟩ ?_);clear hL hS;rintro Zaw v9 s Zb6 hL ⟨fr4,h3,rfl,hS,e5,e6,e7,e8,e10⟩;dsimp only [Zht] at hL;refine r6 ?_;refine cn hL ?_ ?_
  ·intro hc hL;refine r6 ?_;obtain⟨x12,ZEh,hL⟩:=bS hL;obtain⟨b13,o14,_,ZKj,ZBp,ZBn,ZBl⟩:=Sl.at_ Z4 ZEh;refine r1 ?_;refine WO.w gN rfl (J2 Znj Zgf (ZV fh rfl) (At.fz hS.fz ZBn ZBp) (j:=0) rfl rfl (ws:= (cP x12)) rfl) ?_;refine r1 ?_;rintro _ h16 ⟨b15,ZXK,rfl,hS⟩;refine r1 ?_;rintro h17 hS;refine r16 ?_;refine r11 ?_;refine cn hL ?_ ?_
   ·intro hc hL;refine r11 ?_;exact rt hL hT hS
   ·intro hc hL;refine r7 ?_;exact Y0.XK (Zb6 _ _ hL ⟨_,_,rfl,hS.only sl,JN⟩)
  ·intro hc hL;refine r15 ?_;refine WC.loop (WL.lift hL (fun v23 s=>∃ ZrW h18,s= ⟨ZrW,[],h18,none⟩∧Sp wm T h [bx wm b1 [.int .i64 p0.qG,.slice Zr p0.Ze.length Zq]] h18∧ZrW.at 1= .pointer (some ⟨b1,0,none⟩)∧ZrW.at 3= .int .i64 (p0.Ze.length:Int)∧ZrW.at 59= .int .i64 (p0.Ze.length:Int)∧ZrW.at 60= .int .i64 v23) ⟨_,_,rfl,hS.only sl,JN⟩ ?_);clear hL hS;rintro ZjZ v23 s ZyY hL ⟨ZrW,h18,rfl,hS,e20,e21,e22,e24⟩;dsimp only [ZeL] at hL;refine r6 ?_;refine cn hL ?_ ?_
   ·intro hc hL;refine r15 ?_;obtain⟨x26,ZN3,hL⟩:=bS hL;obtain⟨b27,o28,_,ZTj,ZTY,ZTI,ZTx⟩:=Sl.at_ Z4 ZN3;refine r12 ?_;refine WC.loop (WL.lift hL (fun p s=>match p with | (v34,v36)=>∃ Zki h29,s= ⟨Zki,[],h29,none⟩∧Sp wm T h [bx wm b1 [.int .i64 p0.qG,.slice Zr p0.Ze.length Zq]] h29∧Zki.at 1= .pointer (some ⟨b1,0,none⟩)∧Zki.at 3= .int .i64 (p0.Ze.length:Int)∧Zki.at 6= .int .i64 v23∧Zki.at 7= .int .i64 v34∧Zki.at 8= .int .i64 v36∧Zki.at 59= .int .i64 (p0.Ze.length:Int)∧Zki.at 60= .int .i64 v23) ⟨_,_,rfl,hS.only sl,JN⟩ ?_);clear hL hS;rintro ZuO ⟨v34,v36⟩ s ZyX hL ⟨Zki,h29,rfl,hS,e31,e32,e33,e35,e37,e38,e39⟩;dsimp only [Zhs] at hL;refine r12 ?_;refine cn hL ?_ ?_
    ·intro hc hL;refine r12 ?_;refine cn hL ?_ ?_
     ·intro hc hL;refine r16 ?_;exact rt hL hT hS
     ·intro hc hL;refine r6 ?_;obtain⟨x41,ZEf,hL⟩:=bS hL;obtain⟨b42,o43,_,ZTh,ZTU,ZTH,ZTw⟩:=Sl.at_ Z4 ZEf;refine r12 ?_;exact Y0.XK (ZyX _ _ hL ⟨_,_,rfl,hS.only sl,JN⟩)
    ·intro hc hL;refine r10 ?_;exact Y0.XK (ZyY _ _ hL ⟨_,_,rfl,hS.only sl,JN⟩)
   ·intro hc hL;refine r11 ?_;exact rt hL hT hS
theorem ZFs {F h} {p0:Zc} {Zr Zq} {r} (Z4:Sl Zi h.size h Zr Zq p0.Ze) (hL:ZoX F p0=some r):Pure XX 17 #[.agg [.int .i64 p0.qG,.slice Zr p0.Ze.length Zq].toArray] h (.bool r):=
 WR.XA rfl (ZFr (Nat.le_refl _) Z4 hL)
theorem ZFl {F wm h} {p0:(List Zp)} {p1 p2 p3:Int} {Zr Zq} {r} (ZK:wm <=h.size) (Z4:Sl Zx wm h Zr Zq p0) (hL:ZoV F p0 p1 p2 p3=some r):
 WR XX 32 #[.slice Zr p0.length Zq,.int .i64 p1,.int .i64 p2,.int .i64 p3] wm h (CP (fun(v:Value) (Gb:List (Ast wm))=>v= .int .i64 r∧Gb= []) [] h):=by
 refine bg Tryz.ntmps32 ZK Z5.nil ?_;intro T hT hS;unfold ZoV at hL;refine r16 ?_;refine r3 ?_;refine WC.loop (WL.lift hL (fun p s=>match p with | (v6,v10)=>∃ Jf h1,s= ⟨Jf,[],h1,none⟩∧Sp wm T h [] h1∧Jf.at 1= .int .i64 p1∧Jf.at 2= .int .i64 p2∧Jf.at 3= .int .i64 p3∧Jf.at 9= .int .i64 v6∧Jf.at 12= .slice Zr p0.length Zq∧Jf.at 13= .int .i64 (p0.length:Int)∧Jf.at 14= .int .i64 v10) ⟨_,_,rfl,hS.only .n,JN⟩ ?_);clear hL hS;rintro Zem ⟨v6,v10⟩ s Zy1 hL ⟨Jf,h1,rfl,hS,e3,e4,e5,e7,e8,e9,e11⟩;dsimp only [ZkJ] at hL;refine r6 ?_;refine cn hL ?_ ?_
 ·intro hc hL;refine r2 ?_;refine WC.Zh1 (r:=r) (fun(v18:Int) s=>∃ Zkj h13,s= ⟨Zkj,[],h13,none⟩∧Sp wm T h [] h13∧Zkj.at 1= .int .i64 p1∧Zkj.at 2= .int .i64 p2∧Zkj.at 3= .int .i64 p3∧Zkj.at 9= .int .i64 v18∧Zkj.at 12= .slice Zr p0.length Zq∧Zkj.at 13= .int .i64 (p0.length:Int)∧Zkj.at 14= .int .i64 v10) (Zhp v10 Zem) ?_ ?_
  ·clear hL hS;rintro v18 s hL ⟨Zkj,h13,rfl,hS,e15,e16,e17,e19,e20,e21,e22⟩;dsimp only [Zhp] at hL;refine r4 ?_;exact Y0.XK (Zy1 _ _ hL ⟨_,_,rfl,hS.only .n,JN⟩)
  ·skip;refine r3 ?_;obtain⟨x23,ZN4,hL⟩:=bS hL;obtain⟨b24,o25,_,ZTk,ZKN,ZKC,ZTy⟩:=Sl.at_ Z4 ZN4;refine r1 ?_;refine WO.w gN rfl (J2 Zxi ZjL (ZV fh rfl) (At.fz hS.fz ZKC ZKN) (j:=0) rfl rfl (ws:= (cE x23)) rfl) ?_;refine r1 ?_;rintro _ h27 ⟨b26,ZXI,rfl,hS⟩;refine r1 ?_;rintro h28 hS;refine r16 ?_;refine r6 ?_;refine cn hL ?_ ?_
   ·intro hc hL;refine r6 ?_;exact UB.XK _ hL ⟨_,_,rfl,hS.only .n,JN⟩
   ·intro hc hL;refine r2 ?_;exact UB.XK _ hL ⟨_,_,rfl,hS.only .n,JN⟩
 ·intro hc hL;refine r12 ?_;exact rt hL hT hS
theorem Zwz {F h} {p0:(List Zp)} {p1 p2 p3:Int} {Zr Zq} {r} (Z4:Sl Zx h.size h Zr Zq p0) (hL:ZoV F p0 p1 p2 p3=some r):Pure XX 32 #[.slice Zr p0.length Zq,.int .i64 p1,.int .i64 p2,.int .i64 p3] h (.int .i64 r):=
 WR.XA rfl (ZFl (Nat.le_refl _) Z4 hL)
theorem ZFk {wm h} {p0:Zc} {p1:Int} {Zr Zq} {r} (ZK:wm <=h.size) (Z4:Sl Zi wm h Zr Zq p0.Ze) (hL:ZoU p0 p1=some r):
 WR XX 33 #[.agg [.int .i64 p0.qG,.slice Zr p0.Ze.length Zq].toArray,.int .i64 p1] wm h (CP (fun(v:Value) (Gb:List (Ast wm))=>v= .bool r∧Gb= []) [] h):=by
 refine bg Tryz.ntmps33 ZK Z5.nil ?_;intro T hT hS;unfold ZoU at hL;refine r3 ?_;rintro _ h2 ⟨b1,eb1,rfl,hS⟩;refine r16 ?_;refine r2 ?_;exact rt hL hT hS
theorem Zwy {h} {p0:Zc} {p1:Int} {Zr Zq} {r} (Z4:Sl Zi h.size h Zr Zq p0.Ze) (hL:ZoU p0 p1=some r):Pure XX 33 #[.agg [.int .i64 p0.qG,.slice Zr p0.Ze.length Zq].toArray,.int .i64 p1] h (.bool r):=
 WR.XA rfl (ZFk (Nat.le_refl _) Z4 hL)
end
section
def ZkD (p0:Zc) (p1:Int):Option Bool:=
 some ((decide (p1 >=0)) && (decide (p1 < (p0.Ze.length:Int))))
end
section
theorem ZFf {wm h} {p0:Zc} {p1:Int} {Zr Zq} {r} (ZK:wm <=h.size) (Z4:Sl Zi wm h Zr Zq p0.Ze) (hL:ZkD p0 p1=some r):
 WR XX 54 #[.agg [.int .i64 p0.qG,.slice Zr p0.Ze.length Zq].toArray,.int .i64 p1] wm h (CP (fun(v:Value) (Gb:List (Ast wm))=>v= .bool r∧Gb= []) [] h):=by
 refine bg Tryz.ntmps54 ZK Z5.nil ?_;intro T hT hS;unfold ZkD at hL;refine r3 ?_;rintro _ h2 ⟨b1,eb1,rfl,hS⟩;refine r16 ?_;refine r2 ?_;exact rt hL hT hS
theorem ZoT {h} {p0:Zc} {p1:Int} {Zr Zq} {r} (Z4:Sl Zi h.size h Zr Zq p0.Ze) (hL:ZkD p0 p1=some r):Pure XX 54 #[.agg [.int .i64 p0.qG,.slice Zr p0.Ze.length Zq].toArray,.int .i64 p1] h (.bool r):=
 WR.XA rfl (ZFf (Nat.le_refl _) Z4 hL)
end
end Go.Proofs.YtcnahmgekicbdaaGreat
end
end
