/- Part 15. -/
import Derived.Test.YtcnahmgekicbdaaGreatNa14
set_option linter.all false
set_option maxHeartbeats 2000000
section
namespace Go.Proofs.YtcnahmgekicbdaaGreat
open Go.Lf
section
def S1 (σ τ:TS):Prop:=∀ (i j:Nat) (x:Zd),x.kW=1 ->((τ.sn i)[j]? =some x↔(σ.sn i)[j]? =some x)
structure Num (σ:TS):Prop where
 n0:0 <=σ.sd
 n1:∀ e ∈ σ.ev,e.kZ=1∨e.kZ=2 ->0 <=e.n∧e.n < σ.sd
 n5:∀ (i j:Nat) (x:Zd),(σ.sn i)[j]? =some x ->x.kW=1 ->0 <=x.n∧x.n < σ.sd∧∃ e ∈ σ.ev,e.kZ=1∧e.kV=x.kV∧e.kX=x.kX∧e.n=x.n
 n6:∀ (i j:Nat) (x:Zd) (i' j':Nat) (x':Zd),(σ.sn i)[j]? =some x ->(σ.sn i')[j']? =some x' ->x.kW=1 ->x'.kW=1 ->x.n=x'.n ->i=i'∧j=j'
 n3:∀ e ∈ σ.ev,e.kZ=2 ->∀ (i j:Nat) (x:Zd),(σ.sn i)[j]? =some x ->x.kW=1 ->x.n=e.n ->j < σ.ld i
section
variable {s:Zb} {σ τ υ:TS} {F B a b p q w i j n d r p0 q0:Nat} {x:Zd} {k:Int} {e:Zf}
theorem S1.refl' (h:τ.sn=σ.sn):S1 σ τ:=fun i j x _=>by rw [h]
theorem S1.trans (h:S1 σ τ) (h':S1 τ υ):S1 σ υ:=fun i j x hx=>(h' i j x hx).trans (h i j x hx)
theorem S1.send (hx:x.kW ≠ 1):S1 σ (Proofs.YtcnahmgekicbdaaGreat.send s a b x σ):=fun i j y hy=>by
 rw [Xj];exact⟨fun z=>z.elim id fun w=>absurd (w.2.2 ▸ hy) hx,.inl⟩
theorem S1.Y5 (p q:Nat):S1 σ (Proofs.YtcnahmgekicbdaaGreat.Y5 s p q σ):=by
 unfold Proofs.YtcnahmgekicbdaaGreat.Y5;split
 ·exact .refl' rfl
 ·exact .send (by show(5:Int) ≠ 1;decide)
theorem S1.Zu (p:Nat) (l:List Int):S1 σ (Proofs.YtcnahmgekicbdaaGreat.Zu s p l σ):=UM _ (S1 σ) l σ (.refl' rfl) fun τ x _ h=>h.trans (.Y5 _ _)
theorem S1.note (p q:Nat):S1 σ (Proofs.YtcnahmgekicbdaaGreat.note s p q σ):=by
 unfold Proofs.YtcnahmgekicbdaaGreat.note;split
 ·exact .Y5 _ _
 ·exact .refl' rfl
theorem S1.Z6 (p:Nat):S1 σ (Proofs.YtcnahmgekicbdaaGreat.Z6 s p σ):= (S1.Zu (σ:=Proofs.YtcnahmgekicbdaaGreat.Jm p σ) p (σ.wa p)).trans (.refl' rfl)
theorem S1.Qm (p:Nat):S1 σ (Proofs.YtcnahmgekicbdaaGreat.Qm s p σ):=by
 unfold Proofs.YtcnahmgekicbdaaGreat.Qm;split
 ·exact S1.Z6 p
 ·split
  ·exact(S1.Z6 p).trans (.refl' rfl)
  ·exact(S1.Z6 p).trans (.send (by show(4:Int) ≠ 1;decide))
theorem Num.same (h:Num σ) (h1:S1 σ τ) (h2:τ.sd=σ.sd) (h3:∀ i,σ.ld i <=τ.ld i) (h4:∀ e ∈ σ.ev,e ∈ τ.ev) (h5:∀ e ∈ τ.ev,e.kZ=1∨e.kZ=2 ->e ∈ σ.ev):Num τ:=
 ⟨by rw [h2];exact h.n0,fun e he z=>by rw [h2];exact h.n1 e (h5 e he z) z,fun i j x hx hk=>by
   obtain⟨a,b,e,he,c⟩:=h.n5 i j x ((h1 i j x hk).1 hx) hk;exact⟨a,by rw [h2];exact b,e,h4 e he,c⟩,fun i j x i' j' x' hx hx' hk hk'=>h.n6 i j x i' j' x' ((h1 i j x hk).1 hx) ((h1 i' j' x' hk').1 hx') hk hk',fun e he z i j x hx hk hn=>Nat.lt_of_lt_of_le (h.n3 e (h5 e he (.inr z)) z i j x ((h1 i j x hk).1 hx) hk hn) (h3 i)⟩
theorem Num.ev (h:Num σ) (h1:S1 σ τ) (h2:τ.sd=σ.sd) (h3:∀ i,σ.ld i <=τ.ld i) (h4:τ.ev=σ.ev ++ [e]) (d1:e.kZ ≠ 1) (d2:e.kZ ≠ 2):Num τ:=
 h.same h1 h2 h3 (fun y hy=>by rw [h4];exact List.mem_append.2 (.inl hy)) fun y hy z=>by
   rw [h4] at hy;rcases List.mem_append.1 hy with hy | hy
   ·exact hy
   ·rw [List.mem_singleton.1 hy] at z;exact z.elim (fun z=>absurd z d1) fun z=>absurd z d2
theorem Num.eq (h:Num σ) (h1:S1 σ τ) (h2:τ.sd=σ.sd) (h3:∀ i,σ.ld i <=τ.ld i) (h4:τ.ev=σ.ev):Num τ:=
 h.same h1 h2 h3 (fun y hy=>by rw [h4];exact hy) fun y hy _=>by rw [h4] at hy;exact hy
theorem Num.see (h:Num σ) (hn:0 <=k∧k < σ.sd) (hl:∀ (i j:Nat) (x:Zd),(σ.sn i)[j]? =some x ->x.kW=1 ->x.n=k ->j < σ.ld i) (p q:Nat):Num (Proofs.YtcnahmgekicbdaaGreat.see p q k σ):=by
 unfold Proofs.YtcnahmgekicbdaaGreat.see;split
 ·refine⟨h.n0,fun e he z=>?_,fun i j x hx hk=>?_,h.n6,fun e he z i j x hx hk hn'=>?_⟩
  ·have he:e ∈ σ.ev ++ [⟨2,p,q,k⟩]:=he;rcases List.mem_append.1 he with he | he
   ·exact h.n1 e he z
   ·rw [List.mem_singleton.1 he];exact hn
  ·obtain⟨a,b,e,he,c⟩:=h.n5 i j x hx hk;exact⟨a,b,e,List.mem_append.2 (.inl he),c⟩
  ·have he:e ∈ σ.ev ++ [⟨2,p,q,k⟩]:=he;rcases List.mem_append.1 he with he | he
   ·exact h.n3 e he z i j x hx hk hn'
   ·rw [List.mem_singleton.1 he] at hn';exact hl i j x hx hk hn'
 ·exact h
theorem Num.kK (h:Num σ) (p q:Nat):Num (Proofs.YtcnahmgekicbdaaGreat.kK p q σ)∧∀ (i j:Nat) (x:Zd),(σ.sn i)[j]? =some x ->x.kW=1 ->x.n ≠ σ.sd:=by
 have h0:=h.n0;have key:∀ (i j:Nat) (x:Zd),(σ.sn i)[j]? =some x ->x.kW=1 ->x.n ≠ σ.sd:=fun i j x hx hk e=>by have:= (h.n5 i j x hx hk).2.1;omega
 have ev:(Proofs.YtcnahmgekicbdaaGreat.kK p q σ).ev=σ.ev ++ [⟨1,p,q,σ.sd⟩]:=rfl;have sd:(Proofs.YtcnahmgekicbdaaGreat.kK p q σ).sd=σ.sd + 1:=rfl;refine⟨⟨by rw [sd];omega,fun e he z=>?_,fun i j x hx hk=>?_,h.n6,fun e he z i j x hx hk hn=>?_⟩,key⟩
 ·rw [ev] at he;rw [sd];rcases List.mem_append.1 he with he | he
  ·have:=h.n1 e he z;omega
  ·rw [List.mem_singleton.1 he];show 0 <=σ.sd∧σ.sd < σ.sd + 1;omega
 ·obtain⟨a,b,e,he,c⟩:=h.n5 i j x hx hk;exact⟨a,by rw [sd];omega,e,by rw [ev];exact List.mem_append.2 (.inl he),c⟩
 ·rw [ev] at he;rcases List.mem_append.1 he with he | he
  ·exact h.n3 e he z i j x hx hk hn
  ·rw [List.mem_singleton.1 he] at z;exact absurd z (by show ¬ (1:Int)=2;decide)
theorem JC (i:Nat):∀ j,σ.ld j <= (drop1 i σ).ld j:=fun j=>by
 show _ <=ZY σ.ld i (σ.ld i + 1) j;by_cases e:j=i
 ·subst e;rw [Zq];omega
 ·rw [ZA e];exact Nat.le_refl _
theorem ZfN (hl:σ.ld i < (σ.sn i).length):(σ.sn i)[σ.ld i]? =some (hd σ i):=by
 unfold hd;rw [List.getD_eq_getElem?_getD,List.getElem?_eq_getElem hl];rfl
theorem Num.act (h:Num σ) (ac:Act s σ τ):Num τ:=by
 have r0:∀ i,σ.ld i <=σ.ld i:=fun _=>Nat.le_refl _
 cases ac with
 | @fall p=>exact h.ev (e:= ⟨5,p,0,0⟩) (.refl' rfl) rfl r0 rfl (by show(5:Int) ≠ 1;decide) (by show(5:Int) ≠ 2;decide)
 | UG=>exact h.eq (.send (by show(3:Int) ≠ 1;decide)) rfl r0 rfl
 | @die p hp h2 hA=>
   have sA:=Qg (s:=s) p σ
   have e1:(Proofs.YtcnahmgekicbdaaGreat.Qm s p σ).sd=σ.sd∧(Proofs.YtcnahmgekicbdaaGreat.Qm s p σ).ld=σ.ld∧(Proofs.YtcnahmgekicbdaaGreat.Qm s p σ).ev=σ.ev ++ [⟨6,(p:Int),0,0⟩]:=by
    unfold Proofs.YtcnahmgekicbdaaGreat.Qm;split
    ·exact⟨sA.2.2.2.1,sA.2.2.1,sA.2.2.2.2.1⟩
    ·split
     ·exact⟨sA.2.2.2.1,sA.2.2.1,sA.2.2.2.2.1⟩
     ·exact⟨sA.2.2.2.1,sA.2.2.1,sA.2.2.2.2.1⟩
   exact h.ev (.Qm p) e1.1 (by rw [e1.2.1];exact r0) e1.2.2 (by show(6:Int) ≠ 1;decide) (by show(6:Int) ≠ 2;decide)
 | @ZaW p q=>
   obtain⟨h1,h2⟩:=h.kK p q;exact h1.see ⟨h.n0,by show σ.sd < σ.sd + 1;omega⟩ (fun i j x hx hk hn=>absurd hn (h2 i j x hx hk)) _ _
 | @ZaV p q hp hq hst e0=>
   obtain⟨h1,h2⟩:=h.kK p q;have h0:=h.n0;refine⟨h1.n0,h1.n1,fun i j x hx hk=>?_,fun i j x i' j' x' hx hx' hk hk' hn=>?_,fun e he z i j x hx hk hn=>?_⟩
   ·rcases Xj.1 hx with hx | ⟨_,_,rfl⟩
    ·exact h1.n5 i j x hx hk
    ·exact⟨h0,by show σ.sd < σ.sd + 1;omega,⟨1,p,q,σ.sd⟩,List.mem_append.2 (.inr (by simp)),rfl,rfl,rfl,rfl⟩
   ·rcases Xj.1 hx with hx | ⟨a1,a2,rfl⟩
    ·rcases Xj.1 hx' with hx' | ⟨b1,b2,rfl⟩
     ·exact h1.n6 i j x i' j' x' hx hx' hk hk' hn
     ·exact absurd hn (h2 i j x hx hk)
    ·rcases Xj.1 hx' with hx' | ⟨b1,b2,rfl⟩
     ·exact absurd hn.symm (h2 i' j' x' hx' hk')
     ·subst a1;subst b1;exact⟨rfl,by omega⟩
   ·rcases Xj.1 hx with hx | ⟨_,_,rfl⟩
    ·exact h1.n3 e he z i j x hx hk hn
    ·exfalso;have he:e ∈ σ.ev ++ [⟨1,p,q,σ.sd⟩]:=he;rcases List.mem_append.1 he with he | he
     ·have:= (h.n1 e he (.inr z)).2;have hn:σ.sd=e.n:=hn;omega
     ·rw [List.mem_singleton.1 he] at z;exact absurd z (by show ¬ (1:Int)=2;decide)
 | @ZaQ p q=>
   have z:=Y8 (s:=s) p q (tell 3 p q 0 σ);exact h.ev (e:= ⟨3,p,q,0⟩) ((S1.refl' (σ:=σ) (τ:=tell 3 p q 0 σ) rfl).trans (.note p q)) z.2.2.2.2.1 (by rw [z.2.2.2.1];exact r0) z.2.2.2.2.2 (by show(3:Int) ≠ 1;decide) (by show(3:Int) ≠ 2;decide)
 | @ZaP p q=>exact h.ev (e:= ⟨3,p,q,0⟩) ((S1.refl' (σ:=σ) (τ:=tell 3 p q 0 σ) rfl).trans (.send (by show(2:Int) ≠ 1;decide))) rfl r0 rfl (by show(3:Int) ≠ 1;decide) (by show(3:Int) ≠ 2;decide)
 | @Za5 a b p q ha hb hl hk=>
   have h1:Num (drop1 (li s a b) σ):=h.eq (.refl' rfl) rfl (JC _) rfl;have hg:=ZfN hl;obtain⟨n1,n2,_⟩:=h.n5 _ _ _ hg hk;refine h1.see ⟨n1,n2⟩ (fun i j x hx hk' hn=>?_) _ _;obtain⟨rfl,rfl⟩:=h.n6 _ _ _ _ _ _ hx hg hk' hk hn;show _ < ZY σ.ld (li s a b) (σ.ld (li s a b) + 1) (li s a b);rw [Zq];omega
 | @Za8 a b p q=>
   have z:=Y8 (s:=s) p q (drop1 (li s a b) σ);exact h.eq ((S1.refl' (σ:=σ) (τ:=drop1 (li s a b) σ) rfl).trans (.note p q)) z.2.2.2.2.1 (by rw [z.2.2.2.1];exact JC _) z.2.2.2.2.2
 | Za6=>exact h.eq (.refl' rfl) rfl (JC _) rfl
 | Zah=>exact h.eq (.refl' rfl) rfl (JC _) rfl
 | Za7=>exact h.eq (.refl' rfl) rfl (JC _) rfl
 | @ring w i=>
   have z:=Qp s w i σ;have hs:S1 σ (rung s w i σ):= .refl' z.2.2.2.2.2.1;unfold rung at hs ⊢;split at hs
   ·rename_i hst;rw [if_pos hst];exact h.ev (e:= ⟨4,_,_,0⟩) hs rfl r0 rfl (by show(4:Int) ≠ 1;decide) (by show(4:Int) ≠ 2;decide)
   ·rename_i hst;rw [if_neg hst];exact h.eq hs rfl r0 rfl
end
end
section
section
variable {s:Zb} {σ τ υ:TS} {F B a b p q w i j n d r p0 q0:Nat} {x:Zd} {k:Int} {e:Zf}
theorem Zxl (hS:XO s) (hp:p < nn s):inn s (p:Int) ≠ (p:Int):=fun e=>by
 have:∀ k,up s k (p:Int)= (p:Int):=fun k=>by
  induction k with
  | zero=>rfl
  | succ k ih=>rw [JB,ih,if_neg (by omega),e]
 have h:=ZcF hS hp;rw [this] at h;omega
theorem Zyr (hS:XO s) (kn:Kn s σ) (ki:KI s σ) (hk:q < nn s) (h3:σ.st q=3) (ac:Act s σ τ):τ.ma q=σ.ma q:=by
 have alive:∀ p,p < nn s ->0 <=inn s (p:Int) ->(σ.st p ≠ 3∨(p:Int) ∉ σ.kn (inn s (p:Int)).toNat) ->q ≠ (inn s (p:Int)).toNat:=fun p hp h0 c e=>by
  obtain⟨eq,hq⟩:=QB hS hp (by omega);have hk4:=ki.k4 q hk h3 p hp (by rw [e];exact eq);rw [e] at hk4;rcases c with c | c
  ·obtain⟨k,ek,_,_,hd⟩:=kn.rng _ hq _ hk4;have:p=k:=by omega
   subst this;exact c hd
  ·exact c hk4
 cases ac with
 | fall=>rfl
 | UG=>rfl
 | @die p hp h2 hA=>
   have hqp:q ≠ p:=fun e=>by subst e;rw [h2] at h3;cases h3
   have hA:(Z6 s p σ).ma q=σ.ma q:=by
    show ZY (Zu s p (σ.wa p) (Jm p σ)).ma p _ q=_;rw [ZA hqp,(ZaG (s:=s) p (σ.wa p) (Jm p σ)).2.2.1];rfl
   unfold Qm;by_cases h0:inn s (p:Int) < 0
   ·rw [if_pos h0];exact hA
   ·rw [if_neg h0];split
    ·show ZY (Z6 s p σ).ma (inn s (p:Int)).toNat _ q=_;rw [ZA (alive p hp (by omega) (.inl (by rw [h2];decide)))];exact hA
    ·exact hA
 | ZaW=>rw [(X6 _ _ _ _).2.2.1];rfl
 | ZaV=>rfl
 | ZaQ=>rw [(Y8 _ _ _).2.2.1];rfl
 | ZaP=>rfl
 | Za5=>rw [(X6 _ _ _ _).2.2.1];rfl
 | Za8=>rw [(Y8 _ _ _).2.2.1];rfl
 | Za6=>rfl
 | @Zah a b p ha hb hl hk' hp hpn h0 hm h3' hn=>
   show ZY σ.ma (inn s (p:Int)).toNat _ q=_;rw [ZA (alive p hpn h0 (.inr hn))]
 | Za7=>rfl
 | ring=>rw [(Qp _ _ _ _).2.2.2.2.1]
def Msg (s:Zb) (σ:TS) (q b w j:Nat):Prop:=∃ x:Zd,(σ.sn (li s b w))[j]? =some x∧x.kW=1∧x.kV= (q:Int)
theorem Msg.s1 (h:S1 σ τ):Msg s τ q b w j↔Msg s σ q b w j:=
 ⟨fun⟨x,h1,h2,h3⟩=>⟨x,(h _ _ _ h2).1 h1,h2,h3⟩,fun⟨x,h1,h2,h3⟩=>⟨x,(h _ _ _ h2).2 h1,h2,h3⟩⟩
theorem Msg.lt (h:Msg s σ q b w j):j < (σ.sn (li s b w)).length:=by
 obtain⟨x,h1,_⟩:=h;exact(Li0 h1).1
structure Mk (s:Zb) (σ:TS):Prop where
 m1:∀ q b w j,q < nn s ->b < mm s ->w < mm s ->b ≠ w ->σ.st q=3 ->Msg s σ q b w j ->(j:Int) < σ.ma q (li s b w)
 m2:∀ p k:Nat,p < nn s ->k < nn s ->(k:Int) ∈ σ.kn p ->∀ i,i < mm s * mm s ->σ.ma k i <=σ.ma p i
 l4:∀ (i j:Nat) (x:Zd),(σ.sn i)[j]? =some x ->x.kW=4 ->∀ k:Nat,x.kV= (k:Int) ->∀ i',i' < mm s * mm s ->x.qX.getD i' 0=σ.ma k i'
theorem ZrB {hS:XO s} (hp:p < nn s) (h:Wth s r p) (hne:p ≠ r):∃ c:Nat,c < nn s∧inn s (c:Int)= (r:Int)∧Wth s c p:=by
 obtain⟨j,e⟩:=h
 induction j generalizing r with
 | zero=>exact absurd (by have:(p:Int)=r:=e;omega) hne
 | succ j ih=>
   rw [JB] at e;by_cases h0:up s j (p:Int) < 0
   ·rw [if_pos h0] at e;omega
   ·rw [if_neg h0] at e;obtain⟨c,hc⟩:∃ c:Nat,up s j (p:Int)= (c:Int):= ⟨(up s j (p:Int)).toNat,by omega⟩
    refine⟨c,?_,by rw [← hc];exact e,j,hc⟩;have hok:=Zlq hS.inn.rng hp (k:=j);rw [hc] at hok;have:=hok.2;show c < s.Ze.length;omega
theorem Mk.chain (hS:XO s) (ki:KI s σ) (kn:Kn s σ) (h:Mk s σ) (hi:i < mm s * mm s):∀ (m q r:Nat),q < nn s ->r < nn s ->σ.st r=3 ->up s m (q:Int)= (r:Int) ->σ.ma q i <=σ.ma r i:=by
 intro m
 induction m with
 | zero=>intro q r hq hr _ e;have:q=r:=by have:(q:Int)=r:=e;omega
         rw [this];exact Int.le_refl _
 | succ m ih=>
   intro q r hq hr h3 e;have e':(if(q:Int) < 0 then(q:Int) else up s m (inn s (q:Int)))= (r:Int):=e;rw [if_neg (by omega)] at e';by_cases h0:inn s (q:Int) < 0
   ·rw [ZhG h0] at e';omega
   ·obtain⟨eq,hq'⟩:=QB hS hq h0;rw [eq] at e';have h3':=Zc6 hS kn ki hr h3 m _ hq' e';have h1:=ih _ r hq' hr h3 e';have h2:=h.m2 _ q hq' hq (ki.k4 _ hq' h3' q hq eq) i hi;omega
theorem Zw2 (hb:b < mm s):li s a b / mm s=a∧li s a b % mm s=b:=by
 have:= (Wu hb).1 (show li s a b=a * mm s + b from rfl);exact⟨this.1,this.2⟩
theorem Mk.act (hS:XO s) (h1:P1 s σ) (h2:P2 s σ) (ki:KI s σ) (hM:MB s σ) (h:Mk s σ) (ac:Act s σ τ):Mk s τ:=by
 have kn:=h2.kn;have fz:=fun q hq h3=>Zyr (q:=q) hS kn ki hq h3 ac
 have same:S1 σ τ ->S4 σ τ ->(∀ q,q < nn s ->τ.st q=3 ->σ.st q=3) ->τ.kn=σ.kn ->τ.ma=σ.ma ->Mk s τ:=fun c1 c4 c3 ck cm=>
  ⟨fun q b w j hq hb hw hne h3 hm=>by rw [cm];exact h.m1 q b w j hq hb hw hne (c3 q hq h3) ((Msg.s1 c1).1 hm),by rw [ck,cm];exact h.m2,fun i j x hx hk k hkp=>by rw [cm];exact h.l4 i j x ((c4 i j x hk).1 hx) hk k hkp⟩
 cases ac with
 | @fall p hp hst=>
   refine same (.refl' rfl) (.refl' rfl) (fun q _ h3=>?_) rfl rfl;have h3:ZY σ.st p 2 q=3:=h3;by_cases e:q=p
   ·subst e;rw [Zq] at h3;cases h3
   ·rwa [ZA e] at h3
 | UG=>exact same (.send (by show(3:Int) ≠ 1;decide)) (.send (by show(3:Int) ≠ 4;decide)) (fun _ _ z=>z) rfl rfl
 | @die p hp hst hA=>
   have sA:=Qg (s:=s) p σ;have c1:S1 σ (Z6 s p σ):=S1.Z6 p;have c4:S4 σ (Z6 s p σ):=S4.Z6 p;have up:=SnM.Z6 (s:=s) (σ:=σ) p
   have maP:∀ i,i < mm s * mm s ->(Z6 s p σ).ma p i=if i / mm s=pl s p∧i % mm s < mm s∧i % mm s ≠ pl s p then(((Z6 s p σ).sn i).length:Int) else σ.ma p i:=fun i _=>by
    show ZY (Zu s p (σ.wa p) (Jm p σ)).ma p (ZbJ s (Zu s p (σ.wa p) (Jm p σ)) p (mm s)) p i=_;rw [Zq];unfold ZbJ;rw [(ZaG (s:=s) p (σ.wa p) (Jm p σ)).2.2.1];rfl
   have maQ:∀ q,q ≠ p ->(Z6 s p σ).ma q=σ.ma q:=fun q e=>by
    show ZY (Zu s p (σ.wa p) (Jm p σ)).ma p _ q=_;rw [ZA e,(ZaG (s:=s) p (σ.wa p) (Jm p σ)).2.2.1];rfl
   have ZGI:∀ i,i < mm s * mm s ->σ.ma p i <= (Z6 s p σ).ma p i:=fun i hi=>by
    rw [maP i hi];split
    ·exact Int.le_trans (hM.ma p i hi) (Int.ofNat_le.2 (up i))
    ·exact Int.le_refl _
   have hA':Mk s (Z6 s p σ):=by
    refine⟨fun q b w j hq hb hw hne h3 hm=>?_,fun q k hq hk hkn i hi=>?_,fun i j x hx hk k hkp i' hi'=>?_⟩
    ·by_cases e:q=p
     ·subst e;obtain⟨x,hx,hxk,hxp⟩:= (Msg.s1 c1).1 hm;have hlet:=h1.lets b w hb hw x (List.mem_of_getElem? hx)
      have hpb:pl s q=b:=by
       obtain⟨p',e1,_,_,c⟩:=hlet;have:p'=q:=by omega
       subst this;rcases c with⟨_,c,_⟩ | ⟨k,_⟩ | ⟨k,_⟩ | ⟨k,_⟩ | ⟨k,_⟩
       ·exact c
       all_goals omega
      obtain⟨d1,d2⟩:=Zw2 (s:=s) (a:=b) hw;rw [maP _ (Ua hb hw),if_pos ⟨by rw [d1,hpb],by rw [d2];exact hw,by rw [d2,hpb];exact fun z=>hne z.symm⟩];exact Int.ofNat_lt.2 hm.lt
     ·rw [maQ q e];rw [sA.1,ZA e] at h3;exact h.m1 q b w j hq hb hw hne h3 ((Msg.s1 c1).1 hm)
    ·rw [sA.2.1] at hkn
     have hkd:σ.st k=3:=by
      obtain⟨k',ek,_,_,hd⟩:=kn.rng q hq _ hkn;have:k=k':=by omega
      rw [this];exact hd
     have hkp:k ≠ p:=fun e=>by subst e;rw [hst] at hkd;cases hkd
     rw [maQ k hkp];have:=h.m2 q k hq hk hkn i hi;by_cases e:q=p
     ·subst e;exact Int.le_trans this (ZGI i hi)
     ·rw [maQ q e];exact this
    ·have hx':= (c4 i j x hk).1 hx;obtain⟨k',e1,e2,e3,_⟩:=ki.k1 i j x hx' hk;have hkk:k=k':=by omega
     have hne:k ≠ p:=fun e=>by rw [← hkk,e,hst] at e3;cases e3
     rw [maQ k hne];exact h.l4 i j x hx' hk k hkp i' hi'
   have fz':=fz;unfold Qm at fz' ⊢;by_cases h0:inn s (p:Int) < 0
   ·rw [if_pos h0];exact hA'
   ·rw [if_neg h0] at fz' ⊢;obtain⟨eq,Wj⟩:=QB hS hp h0
    have hal:σ.st (inn s (p:Int)).toNat ≠ 3:=fun z=>by
     have:=ki.k4 _ Wj z p hp eq;obtain⟨k,ek,_,_,hd⟩:=kn.rng _ Wj _ this;have:p=k:=by omega
     subst this;rw [hst] at hd;cases hd
    have hpq:(inn s (p:Int)).toNat ≠ p:=fun z=>by
     have:=ZcF hS hp;exact absurd (by rw [eq,z]:inn s (p:Int)= (p:Int)) (Zxl hS hp)
    by_cases c:pl s (inn s (p:Int)).toNat=pl s p
    ·rw [if_pos c] at fz' ⊢;have mq:∀ q,q ≠ (inn s (p:Int)).toNat ->(Yy s p (J9 s (Z6 s p σ) p) (Z6 s p σ)).ma q= (Z6 s p σ).ma q:=fun q e=>ZA e
     have mi:∀ i,i < mm s * mm s ->(Yy s p (J9 s (Z6 s p σ) p) (Z6 s p σ)).ma (inn s (p:Int)).toNat i=if(Z6 s p σ).ma p i > (Z6 s p σ).ma (inn s (p:Int)).toNat i then(Z6 s p σ).ma p i else(Z6 s p σ).ma (inn s (p:Int)).toNat i:=fun i hi=>by
      show ZY (Z6 s p σ).ma (inn s (p:Int)).toNat (mx _ _) (inn s (p:Int)).toNat i=_;rw [Zq];unfold mx;rw [Za2 hi]
     refine⟨fun q b w j hq hb hw hne h3 hm=>?_,fun q k hq hk hkn i hi=>?_,fun i j x hx hk k hkp i' hi'=>?_⟩
     ·have e:q ≠ (inn s (p:Int)).toNat:=fun z=>by
       have h3:(Z6 s p σ).st q=3:=h3;rw [sA.1,z,ZA hpq] at h3;exact hal h3
      rw [mq q e];exact hA'.m1 q b w j hq hb hw hne h3 hm
     ·have hkn':(k:Int) ∈ ZY (Z6 s p σ).kn (inn s (p:Int)).toNat (ins (p:Int) ((Z6 s p σ).kn (inn s (p:Int)).toNat)) q:=hkn;have hki:k ≠ (inn s (p:Int)).toNat ->(Yy s p (J9 s (Z6 s p σ) p) (Z6 s p σ)).ma k i= (Z6 s p σ).ma k i:=fun e=>by rw [mq k e]
      by_cases e:q= (inn s (p:Int)).toNat
      ·subst e;rw [Zq] at hkn';rcases Wi.1 hkn' with z | z
       ·have:k=p:=by omega
        subst this;rw [mi i hi,hki (fun z=>hpq z.symm)];split <;> omega
       ·have hke:k ≠ (inn s (p:Int)).toNat:=fun zz=>by
         rw [sA.2.1] at z;obtain⟨k',ek,_,_,hd⟩:=kn.rng _ Wj _ z;have:k=k':=by omega
         rw [← this,zz] at hd;exact hal hd
        have:=hA'.m2 _ k hq hk z i hi;rw [mi i hi,hki hke];split <;> omega
      ·rw [ZA e] at hkn'
       have hke:k ≠ (inn s (p:Int)).toNat:=fun zz=>by
        rw [sA.2.1] at hkn';obtain⟨k',ek,_,_,hd⟩:=kn.rng q hq _ hkn';have:k=k':=by omega
        rw [← this,zz] at hd;exact hal hd
       rw [mq q e,hki hke];exact hA'.m2 q k hq hk hkn' i hi
     ·have hx':= (c4 i j x hk).1 hx;obtain⟨k',e1,e2,e3,_⟩:=ki.k1 i j x hx' hk;have hkk:k=k':=by omega
      have hne:k ≠ (inn s (p:Int)).toNat:=fun e=>by rw [← hkk,e] at e3;exact hal e3
      rw [mq k hne];exact hA'.l4 i j x hx hk k hkp i' hi'
    ·rw [if_neg c] at fz' ⊢;refine⟨fun q b w j hq hb hw hne h3 hm=>hA'.m1 q b w j hq hb hw hne h3 ((Msg.s1 (S1.send (by show(4:Int) ≠ 1;decide))).1 hm),hA'.m2,fun i j x hx hk k hkp i' hi'=>?_⟩;rcases Xj.1 hx with hx | ⟨_,_,rfl⟩
     ·exact hA'.l4 i j x hx hk k hkp i' hi'
     ·have:p=k:=by have:(p:Int)=k:=hkp;omega
      subst this;exact Za2 hi'
 | @ZaW p q hp hq hst e0=>
   have z:=X6 q p σ.sd (kK p q σ);exact same (.refl' z.2.2.2.2.1) (.refl' z.2.2.2.2.1) (fun q _ h3=>by rw [z.1] at h3;exact h3) z.2.1 z.2.2.1
 | @ZaV p q hp hq hst e0=>
   refine⟨fun q' b w j hq' hb hw hne h3 hm=>?_,h.m2,fun i j x hx hk k hkp=>?_⟩
   ·obtain⟨x,hx,hxk,hxp⟩:=hm;rcases Xj.1 hx with hx | ⟨_,_,rfl⟩
    ·exact h.m1 q' b w j hq' hb hw hne h3 ⟨x,hx,hxk,hxp⟩
    ·have:p=q':=by have:(p:Int)=q':=hxp;omega
     subst this;have h3:σ.st p=3:=h3;rw [hst] at h3;cases h3
   ·rcases Xj.1 hx with hx | ⟨_,_,rfl⟩
    ·exact h.l4 i j x hx hk k hkp
    ·exact absurd hk (by show ¬ (1:Int)=4;decide)
 | @ZaQ p q=>
   have z:=Y8 (s:=s) p q (tell 3 p q 0 σ);exact same ((S1.refl' (σ:=σ) (τ:=tell 3 p q 0 σ) rfl).trans (.note p q)) ((S4.refl' (σ:=σ) (τ:=tell 3 p q 0 σ) rfl).trans (.note p q)) (fun q _ h3=>by rw [z.1] at h3;exact h3) z.2.1 z.2.2.1
 | @ZaP p q=>exact same ((S1.refl' (σ:=σ) (τ:=tell 3 p q 0 σ) rfl).trans (.send (by show(2:Int) ≠ 1;decide))) ((S4.refl' (σ:=σ) (τ:=tell 3 p q 0 σ) rfl).trans (.send (by show(2:Int) ≠ 4;decide))) (fun _ _ z=>z) rfl rfl
 | @Za5 a b p q=>
   have z:=X6 q p (hd σ (li s a b)).n (drop1 (li s a b) σ);exact same (.refl' z.2.2.2.2.1) (.refl' z.2.2.2.2.1) (fun q _ h3=>by rw [z.1] at h3;exact h3) z.2.1 z.2.2.1
 | @Za8 a b p q=>
   have z:=Y8 (s:=s) p q (drop1 (li s a b) σ);exact same ((S1.refl' (σ:=σ) (τ:=drop1 (li s a b) σ) rfl).trans (.note p q)) ((S4.refl' (σ:=σ) (τ:=drop1 (li s a b) σ) rfl).trans (.note p q)) (fun q _ h3=>by rw [z.1] at h3;exact h3) z.2.1 z.2.2.1
 | Za6=>exact same (.refl' rfl) (.refl' rfl) (fun _ _ z=>z) rfl rfl
 | @Zah a b p ha hb hl hk hp hpn h0 hm h3 hn=>
   obtain⟨eq,Wj⟩:=QB hS hpn (by omega);have hal:σ.st (inn s (p:Int)).toNat ≠ 3:=fun z=>hn (ki.k4 _ Wj z p hpn eq)
   have hl4:=h.l4 _ _ _ (ZfN hl) hk p hp;have mq:∀ q,q ≠ (inn s (p:Int)).toNat ->(Yy s p (hd σ (li s a b)).qX (drop1 (li s a b) σ)).ma q=σ.ma q:=fun q e=>ZA e
   have mi:∀ i,i < mm s * mm s ->(Yy s p (hd σ (li s a b)).qX (drop1 (li s a b) σ)).ma (inn s (p:Int)).toNat i=if σ.ma p i > σ.ma (inn s (p:Int)).toNat i then σ.ma p i else σ.ma (inn s (p:Int)).toNat i:=fun i hi=>by
    show ZY σ.ma (inn s (p:Int)).toNat (mx _ _) (inn s (p:Int)).toNat i=_;rw [Zq];unfold mx;rw [hl4 i hi];rfl
   have hpq:p ≠ (inn s (p:Int)).toNat:=fun z=>by rw [← z] at hal;exact hal h3
   refine⟨fun q b w j hq hb hw hne h3 hm=>?_,fun q k hq hk hkn i hi=>?_,fun i j x hx hk k hkp i' hi'=>?_⟩
   ·have e:q ≠ (inn s (p:Int)).toNat:=fun z=>by
     have h3:σ.st q=3:=h3;rw [z] at h3;exact hal h3
    rw [mq q e];exact h.m1 q b w j hq hb hw hne h3 hm
   ·have hkn':(k:Int) ∈ ZY σ.kn (inn s (p:Int)).toNat (ins (p:Int) (σ.kn (inn s (p:Int)).toNat)) q:=hkn;by_cases e:q= (inn s (p:Int)).toNat
    ·subst e;rw [Zq] at hkn';rcases Wi.1 hkn' with z | z
     ·have:k=p:=by omega
      subst this;rw [mi i hi,mq k hpq];split <;> omega
     ·have hke:k ≠ (inn s (p:Int)).toNat:=fun zz=>by
       obtain⟨k',ek,_,_,hd⟩:=kn.rng _ Wj _ z;have:k=k':=by omega
       rw [← this,zz] at hd;exact hal hd
      have:=h.m2 _ k hq hk z i hi;rw [mi i hi,mq k hke];split <;> omega
    ·rw [ZA e] at hkn'
     have hke:k ≠ (inn s (p:Int)).toNat:=fun zz=>by
      obtain⟨k',ek,_,_,hd⟩:=kn.rng q hq _ hkn';have:k=k':=by omega
      rw [← this,zz] at hd;exact hal hd
     rw [mq q e,mq k hke];exact h.m2 q k hq hk hkn' i hi
   ·obtain⟨k',e1,e2,e3,_⟩:=ki.k1 i j x hx hk;have hkk:k=k':=by omega
    have hne:k ≠ (inn s (p:Int)).toNat:=fun e=>by rw [← hkk,e] at e3;exact hal e3
    rw [mq k hne];exact h.l4 i j x hx hk k hkp i' hi'
 | Za7=>exact same (.refl' rfl) (.refl' rfl) (fun _ _ z=>z) rfl rfl
 | @ring w i=>
   have z:=Qp s w i σ;exact same (.refl' z.2.2.2.2.2.1) (.refl' z.2.2.2.2.2.1) (fun q _ h3=>by rw [z.2.2.1] at h3;exact h3) z.2.2.2.1 z.2.2.2.2.1
end
end
section
structure Bel (s:Zb) (σ:TS):Prop where
 bl:∀ (a w jb:Nat) (x:Zd),a < mm s ->w < mm s ->(σ.sn (li s a w))[jb]? =some x ->x.kW=5 ->∀ r:Nat,x.kX= (r:Int) ->r < nn s ->σ.st r=3∧∀ q b j,q < nn s ->Wth s r q ->b < mm s ->b ≠ w ->Msg s σ q b w j ->(j:Int) < x.qX.getD (li s b w) 0∨(b=a∧j < jb)
 bw:∀ m,m < mm s ->∀ x ∈ σ.be m,∀ r:Nat,x.kX= (r:Int) ->r < nn s ->σ.st r=3∧∀ q b j,q < nn s ->Wth s r q ->b < mm s ->b ≠ m ->Msg s σ q b m j ->(j:Int) < x.qX.getD (li s b m) 0∨j < σ.ld (li s b m)
 hh:∀ e ∈ σ.ev,e.kZ=4 ->∀ y r:Nat,e.kV= (y:Int) ->e.kX= (r:Int) ->y < nn s ->r < nn s ->∀ q,q < nn s ->Wth s r q ->σ.st q=3∧∀ b j,b < mm s ->b ≠ pl s y ->Msg s σ q b (pl s y) j ->j < σ.ld (li s b (pl s y))
section
variable {s:Zb} {σ τ υ:TS} {F B a b p q w i j n d r p0 q0 y:Nat} {x:Zd} {k:Int} {e:Zf}
def S5 (σ τ:TS):Prop:=∀ (i j:Nat) (x:Zd),x.kW=5 ->((τ.sn i)[j]? =some x↔(σ.sn i)[j]? =some x)
theorem S5.refl' (h:τ.sn=σ.sn):S5 σ τ:=fun i j x _=>by rw [h]
theorem S5.send (hx:x.kW ≠ 5):S5 σ (Proofs.YtcnahmgekicbdaaGreat.send s a b x σ):=fun i j y hy=>by
 rw [Xj];exact⟨fun z=>z.elim id fun w=>absurd (w.2.2 ▸ hy) hx,.inl⟩
theorem Bel.same (h:Bel s σ) (hm:∀ q b w j,q < nn s ->σ.st q=3 ->Msg s τ q b w j ->Msg s σ q b w j) (h5:S5 σ τ) (h3:∀ q,q < nn s ->σ.st q=3 ->τ.st q=3) (hl:∀ i,σ.ld i <=τ.ld i) (hb:∀ m,∀ x ∈ τ.be m,x ∈ σ.be m) (he:∀ e ∈ τ.ev,e.kZ=4 ->e ∈ σ.ev)
 (hd:∀ r q,r < nn s ->q < nn s ->σ.st r=3 ->Wth s r q ->σ.st q=3):Bel s τ:=by
 refine⟨fun a w jb x ha hw hx hk r hr hrn=>?_,fun m hm' x hx r hr hrn=>?_,fun e he' z y r hy hr hyn hrn q hq hW=>?_⟩
 ·obtain⟨c1,c2⟩:=h.bl a w jb x ha hw ((h5 _ _ _ hk).1 hx) hk r hr hrn;exact⟨h3 r hrn c1,fun q b j hq hW hb' hne hM=>c2 q b j hq hW hb' hne (hm q b w j hq (hd r q hrn hq c1 hW) hM)⟩
 ·obtain⟨c1,c2⟩:=h.bw m hm' x (hb m x hx) r hr hrn;exact⟨h3 r hrn c1,fun q b j hq hW hb' hne hM=>(c2 q b j hq hW hb' hne (hm q b m j hq (hd r q hrn hq c1 hW) hM)).imp id fun z=>Nat.lt_of_lt_of_le z (hl _)⟩
 ·obtain⟨c1,c2⟩:=h.hh e (he e he' z) z y r hy hr hyn hrn q hq hW;exact⟨h3 q hq c1,fun b j hb' hne hM=>Nat.lt_of_lt_of_le (c2 b j hb' hne (hm q b _ j hq c1 hM)) (hl _)⟩
def HB (s:Zb) (σ:TS) (r:Nat):Prop:=∀ q b w j,q < nn s ->Wth s r q ->b < mm s ->w < mm s ->b ≠ w ->Msg s σ q b w j ->(j:Int) < σ.ma r (li s b w)∨b=pl s r
theorem Bel.Y5 (hS:XO s) (h:Bel s σ) (hy:y < nn s) (hr:r < nn s) (h3:σ.st r=3) (hB:HB s σ r):Bel s (Proofs.YtcnahmgekicbdaaGreat.Y5 s y r σ):=by
 unfold Proofs.YtcnahmgekicbdaaGreat.Y5;by_cases e:pl s y=pl s r
 ·rw [if_pos e];refine⟨h.bl,fun m hm x hx r' hr' hrn=>?_,h.hh⟩;have hx:x ∈ ZY σ.be (pl s y) (σ.be (pl s y) ++ [⟨5,y,r,0,J9 s σ r⟩]) m:=hx;by_cases c:m=pl s y
  ·subst c;rw [Zq] at hx;rcases List.mem_append.1 hx with hx | hx
   ·exact h.bw _ hm x hx r' hr' hrn
   ·rw [List.mem_singleton.1 hx] at hr' ⊢;have:r=r':=by have:(r:Int)=r':=hr';omega
    subst this;refine⟨h3,fun q b j hq hW hb hne hM=>?_⟩;rcases hB q b _ j hq hW hb hm hne hM with z | z
    ·left;show(j:Int) < (J9 s σ r).getD (li s b (pl s y)) 0;rw [Za2 (Ua hb hm)];exact z
    ·exact absurd z (by rw [← e];exact hne)
  ·rw [ZA c] at hx;exact h.bw m hm x hx r' hr' hrn
 ·rw [if_neg e];have mb:∀ q b w j,Msg s (Proofs.YtcnahmgekicbdaaGreat.send s (pl s r) (pl s y) ⟨5,y,r,0,J9 s σ r⟩ σ) q b w j ->Msg s σ q b w j:=fun q b w j hM=>(Msg.s1 (S1.send (by show(5:Int) ≠ 1;decide))).1 hM
  refine⟨fun a w jb x ha hw hx hk r' hr' hrn=>?_,fun m hm x hx r' hr' hrn=>?_,fun e he z y' r' hy' hr' hyn hrn q hq hW=>?_⟩
  ·rcases Xj.1 hx with hx | ⟨e1,e2,rfl⟩
   ·obtain⟨c1,c2⟩:=h.bl a w jb x ha hw hx hk r' hr' hrn;exact⟨c1,fun q b j hq hW hb hne hM=>c2 q b j hq hW hb hne (mb q b w j hM)⟩
   ·have:r=r':=by have:(r:Int)=r':=hr';omega
    subst this;obtain⟨e3,e4⟩:=Zqc hw (hS.pl hy).2 e1;refine⟨h3,fun q b j hq hW hb hne hM=>?_⟩;have hM':=mb q b w j hM;rcases hB q b w j hq hW hb hw hne hM' with z | z
    ·left;show(j:Int) < (J9 s σ r).getD (li s b w) 0;rw [Za2 (Ua hb hw)];exact z
    ·right;refine⟨by rw [z,e3],?_⟩;have:=hM'.lt;rw [e2,e3,← z];exact this
  ·obtain⟨c1,c2⟩:=h.bw m hm x hx r' hr' hrn;exact⟨c1,fun q b j hq hW hb hne hM=>c2 q b j hq hW hb hne (mb q b m j hM)⟩
  ·obtain⟨c1,c2⟩:=h.hh e he z y' r' hy' hr' hyn hrn q hq hW;exact⟨c1,fun b j hb hne hM=>c2 b j hb hne (mb q b _ j hM)⟩
theorem ZnO {ld:Nat ->Nat} {l:List Zd}:∀ k j,Qj s ld w l k=some j ->rdy s ld w (l.getD j default):=by
 intro k
 induction k with
 | zero=>intro j h;cases h
 | succ k ih=>
   intro j h;rw [Qj] at h;by_cases c:rdy s ld w (l.getD k default)∧∀ j,Qj s ld w l k=some j ->Kb s (l.getD j default) < Kb s (l.getD k default)
   ·rw [ZF c] at h;cases h;exact c.1
   ·rw [ZE c] at h;exact ih j h
theorem HB.dead (hS:XO s) (ki:KI s σ) (kn:Kn s σ) (h:Mk s σ) (hr:r < nn s) (h3:σ.st r=3):HB s σ r:=fun q b w j hq ⟨m,e⟩ hb hw hne hM=>by
 have hq3:=Zc6 hS kn ki hr h3 m q hq e;have h1:=h.m1 q b w j hq hb hw hne hq3 hM;have h2:=h.chain hS ki kn (Ua hb hw) m q r hq hr h3 e;left;omega
theorem ZGH (h1:P1 s σ) (hb:b < mm s) (hw:w < mm s) (hM:Msg s σ q b w j):pl s q=b:=by
 obtain⟨x,hx,hxk,hxp⟩:=hM;obtain⟨p',e1,_,_,c⟩:=h1.lets b w hb hw x (List.mem_of_getElem? hx);have:p'=q:=by omega
 subst this;rcases c with⟨_,c,_⟩ | ⟨k,_⟩ | ⟨k,_⟩ | ⟨k,_⟩ | ⟨k,_⟩
 ·exact c
 all_goals omega
theorem HB.dying (hS:XO s) (h1:P1 s σ) (ki:KI s σ) (kn:Kn s σ) (h:Mk s σ) (hp:p < nn s) (hA:Alo s σ p):HB s σ p:=fun q b w j hq hW hb hw hne hM=>by
 by_cases e:q=p
 ·subst e;exact .inr (ZGH h1 hb hw hM).symm
 ·left;obtain⟨c,hc,hci,m,hm⟩:=ZrB (hS:=hS) hq hW e;have hkc:=hA c hc hci;obtain⟨c',ec,_,_,hd⟩:=kn.rng p hp _ hkc;have:c=c':=by omega
  subst this;have hq3:=Zc6 hS kn ki hc hd m q hq hm;have h1':=h.m1 q b w j hq hb hw hne hq3 hM;have h2:=h.chain hS ki kn (Ua hb hw) m q c hq hc hd hm;have h3:=h.m2 p c hp hc hkc _ (Ua hb hw);omega
theorem HB.congr (h:HB s σ r) (h1:S1 σ τ) (h2:τ.ma=σ.ma):HB s τ r:=fun q b w j hq hW hb hw hne hM=>by rw [h2];exact h q b w j hq hW hb hw hne ((Msg.s1 h1).1 hM)
theorem Bel.Zu (hS:XO s) (hr:r < nn s):∀ (l:List Int) (σ:TS),(∀ x ∈ l,∃ k:Nat,x= (k:Int)∧k < nn s) ->Bel s σ ->σ.st r=3 ->HB s σ r ->Bel s (Proofs.YtcnahmgekicbdaaGreat.Zu s r l σ):=by
 intro l
 induction l with
 | nil=>intro σ _ h _ _;exact h
 | cons x l ih=>
   intro σ hx h h3 hB;obtain⟨k,rfl,hk⟩:=hx x (by simp);have z:=Zbj (s:=s) k r σ;show Bel s (Proofs.YtcnahmgekicbdaaGreat.Zu s r l (Proofs.YtcnahmgekicbdaaGreat.Y5 s ((k:Int)).toNat r σ));rw [Int.toNat_natCast];exact ih _ (fun y hy=>hx y (by simp [hy])) (h.Y5 hS hk hr h3 hB) (by rw [z.1];exact h3) (hB.congr (.Y5 k r) z.2.2.1)
theorem Bel.note (hS:XO s) (h:Bel s σ) (hy:y < nn s) (hr:r < nn s) (hB:σ.st r=3 ->HB s σ r):Bel s (Proofs.YtcnahmgekicbdaaGreat.note s y r σ):=by
 unfold Proofs.YtcnahmgekicbdaaGreat.note;by_cases e:σ.st r=3
 ·rw [if_pos e];exact h.Y5 hS hy hr e (hB e)
 ·rw [if_neg e];exact⟨h.bl,h.bw,h.hh⟩
theorem Bel.act (hS:XO s) (h1:P1 s σ) (h2:P2 s σ) (h3:P3 s σ) (ki:KI s σ) (hMk:Mk s σ) (h:Bel s σ) (ac:Act s σ τ):Bel s τ:=by
 have kn:=h2.kn;have hd:∀ r q,r < nn s ->q < nn s ->σ.st r=3 ->Wth s r q ->σ.st q=3:=fun r q hr hq z ⟨m,e⟩=>Zc6 hS kn ki hr z m q hq e
 have r0:∀ i,σ.ld i <=σ.ld i:=fun _=>Nat.le_refl _
 have b0:∀ m,∀ x ∈ σ.be m,x ∈ σ.be m:=fun _ _ z=>z
 have ev1:∀ (l:List Zf) (e:Zf),e.kZ ≠ 4 ->∀ y ∈ l ++ [e],y.kZ=4 ->y ∈ l:=fun l e he y hy z=>by
  rcases List.mem_append.1 hy with hy | hy
  ·exact hy
  ·rw [List.mem_singleton.1 hy] at z;exact absurd z he
 have ZKM:∀ (ρ:TS) (p q:Nat) (n:Int),∀ y ∈ (see p q n ρ).ev,y.kZ=4 ->y ∈ ρ.ev:=fun ρ p q n y hy z=>by
  unfold see at hy;split at hy
  ·exact ev1 _ _ (by show(2:Int) ≠ 4;decide) y hy z
  ·exact hy
 cases ac with
 | @fall p hp hst=>
   refine h.same (fun q b w j _ _ hM=>hM) (.refl' rfl) (fun q _ z=>?_) r0 b0 (ev1 _ _ (by show(5:Int) ≠ 4;decide)) hd;show ZY σ.st p 2 q=3;rw [ZA (fun e=>by subst e;rw [hst] at z;cases z)];exact z
 | UG=>exact h.same (fun q b w j _ _ hM=>(Msg.s1 (S1.send (by show(3:Int) ≠ 1;decide))).1 hM) (.send (by show(3:Int) ≠ 5;decide)) (fun _ _ z=>z) r0 b0 (fun _ z _=>z) hd
 | @die p hp hst hA=>
   have sA:=Qg (s:=s) p σ
   have st3:∀ q,q < nn s ->σ.st q=3 ->ZY σ.st p 3 q=3:=fun q _ z=>by
    by_cases e:q=p
    ·subst e;exact Zq _ _ _
    ·rw [ZA e];exact z
   have c0:Bel s (Jm p σ):=h.same (fun q b w j _ _ hM=>hM) (.refl' rfl) st3 r0 b0 (ev1 _ _ (by show(6:Int) ≠ 4;decide)) hd
   have cA:Bel s (Z6 s p σ):=by
    have:=Bel.Zu hS hp (σ.wa p) (Jm p σ) (h1.ws p hp) c0 (Zq _ _ _) ((HB.dying hS h1 ki kn hMk hp hA).congr (.refl' rfl) rfl);exact⟨this.bl,this.bw,this.hh⟩
   unfold Qm;split
   ·exact cA
   ·split
    ·exact⟨cA.bl,cA.bw,cA.hh⟩
    ·have mb:∀ q b w j,Msg s (send s (pl s p) (pl s (inn s (p:Int)).toNat) ⟨4,(p:Int),0,0,J9 s (Z6 s p σ) p⟩ (Z6 s p σ)) q b w j ->Msg s (Z6 s p σ) q b w j:=fun q b w j hM=>(Msg.s1 (S1.send (by show(4:Int) ≠ 1;decide))).1 hM
     refine⟨fun a w jb x ha hw hx hk r hr hrn=>?_,fun m hm x hx r hr hrn=>?_,fun e he z y r hy hr hyn hrn q hq hW=>?_⟩
     ·obtain⟨c1,c2⟩:=cA.bl a w jb x ha hw ((S5.send (by show(4:Int) ≠ 5;decide) _ _ _ hk).1 hx) hk r hr hrn;exact⟨c1,fun q b j hq hW hb hne hM=>c2 q b j hq hW hb hne (mb q b w j hM)⟩
     ·obtain⟨c1,c2⟩:=cA.bw m hm x hx r hr hrn;exact⟨c1,fun q b j hq hW hb hne hM=>c2 q b j hq hW hb hne (mb q b m j hM)⟩
     ·obtain⟨c1,c2⟩:=cA.hh e he z y r hy hr hyn hrn q hq hW;exact⟨c1,fun b j hb hne hM=>c2 b j hb hne (mb q b _ j hM)⟩
 | @ZaW p q hp hq hst e0=>
   have z:=X6 q p σ.sd (kK p q σ);refine h.same (fun q b w j _ _ hM=>(Msg.s1 (S1.refl' z.2.2.2.2.1)).1 hM) (.refl' z.2.2.2.2.1) (fun q _ hq3=>by rw [z.1];exact hq3) (by rw [z.2.2.2.1];exact r0) (by rw [z.2.2.2.2.2.1];exact b0) (fun y hy h4=>?_) hd;exact ev1 σ.ev _ (by show(1:Int) ≠ 4;decide) y (ZKM (kK p q σ) q p σ.sd y hy h4) h4
 | @ZaV p q hp hq hst e0=>
   refine h.same (fun q' b w j _ h3' hM=>?_) (.send (by show(1:Int) ≠ 5;decide)) (fun _ _ z=>z) r0 b0 (ev1 _ _ (by show(1:Int) ≠ 4;decide)) hd;obtain⟨x,hx,hk,hxp⟩:=hM;rcases Xj.1 hx with hx | ⟨_,_,rfl⟩
   ·exact⟨x,hx,hk,hxp⟩
   ·have:p=q':=by have:(p:Int)=q':=hxp;omega
    subst this;rw [hst] at h3';cases h3'
 | @ZaQ p q hp hq hst e0=>
   have c:Bel s (tell 3 p q 0 σ):=h.same (fun q b w j _ _ hM=>hM) (.refl' rfl) (fun _ _ z=>z) r0 b0 (ev1 _ _ (by show(3:Int) ≠ 4;decide)) hd;exact c.note hS hp hq fun z=>(HB.dead hS ki kn hMk hq z).congr (.refl' rfl) rfl
 | @ZaP p q hp hq hst e0=>exact h.same (fun q b w j _ _ hM=>(Msg.s1 ((S1.refl' (σ:=σ) (τ:=tell 3 p q 0 σ) rfl).trans (S1.send (by show(2:Int) ≠ 1;decide)))).1 hM) (.send (by show(2:Int) ≠ 5;decide)) (fun _ _ z=>z) r0 b0 (ev1 _ _ (by show(3:Int) ≠ 4;decide)) hd
 | @Za5 a b p q=>
   have z:=X6 q p (Proofs.YtcnahmgekicbdaaGreat.hd σ (li s a b)).n (drop1 (li s a b) σ);refine h.same (fun q b w j _ _ hM=>(Msg.s1 (S1.refl' z.2.2.2.2.1)).1 hM) (.refl' z.2.2.2.2.1) (fun q _ hq3=>by rw [z.1];exact hq3) (by rw [z.2.2.2.1];exact JC _) (by rw [z.2.2.2.2.2.1];exact b0) (fun y hy h4=>ZKM (drop1 (li s a b) σ) _ _ _ y hy h4) hd
 | @Za8 a b p q ha hb hl hk hp hq hpn Wj=>
   have c:Bel s (drop1 (li s a b) σ):=h.same (fun q b w j _ _ hM=>hM) (.refl' rfl) (fun _ _ z=>z) (JC _) b0 (fun _ z _=>z) hd;exact c.note hS hpn Wj fun z=>(HB.dead hS ki kn hMk Wj z).congr (.refl' rfl) rfl
 | Za6=>exact h.same (fun q b w j _ _ hM=>hM) (.refl' rfl) (fun _ _ z=>z) (JC _) b0 (fun _ z _=>z) hd
 | Zah=>exact h.same (fun q b w j _ _ hM=>hM) (.refl' rfl) (fun _ _ z=>z) (JC _) b0 (fun _ z _=>z) hd
 | @Za7 a b ha hb hl hk=>
   have c:Bel s (drop1 (li s a b) σ):=h.same (fun q b w j _ _ hM=>hM) (.refl' rfl) (fun _ _ z=>z) (JC _) b0 (fun _ z _=>z) hd;refine⟨c.bl,fun m hm x hx r hr hrn=>?_,c.hh⟩;have hx:x ∈ ZY σ.be b (σ.be b ++ [Proofs.YtcnahmgekicbdaaGreat.hd σ (li s a b)]) m:=hx;by_cases e:m=b
   ·subst e;rw [Zq] at hx;rcases List.mem_append.1 hx with hx | hx
    ·exact c.bw m hm x hx r hr hrn
    ·rw [List.mem_singleton.1 hx] at hr ⊢;obtain⟨c1,c2⟩:=h.bl a m _ _ ha hb (ZfN hl) hk r hr hrn;refine⟨c1,fun q b' j hq hW hb' hne hM=>(c2 q b' j hq hW hb' hne hM).imp id fun⟨e1,e2⟩=>?_⟩;show j < ZY σ.ld (li s a m) (σ.ld (li s a m) + 1) (li s b' m);rw [e1,Zq];omega
   ·rw [ZA e] at hx;exact c.bw m hm x hx r hr hrn
 | @ring w i hw hpk=>
   have z:=Qp s w i σ;have hi:i < (σ.be w).length:=W9 _ _ hpk;have mb:∀ q b w' j,Msg s (rung s w i σ) q b w' j ->Msg s σ q b w' j:=fun q b w' j hM=>(Msg.s1 (S1.refl' z.2.2.2.2.2.1)).1 hM
   have c:Bel s {σ with be:=ZY σ.be w (ZbN (σ.be w) i)}:=h.same (fun q b w j _ _ hM=>hM) (.refl' rfl) (fun _ _ z=>z) r0 (fun m x hx=>by
    have hx:x ∈ ZY σ.be w (ZbN (σ.be w) i) m:=hx;by_cases e:m=w
    ·subst e;rw [Zq] at hx;exact ZaE hx
    ·rwa [ZA e] at hx) (fun _ z _=>z) hd
   unfold rung;split
   ·refine⟨c.bl,c.bw,fun e he h4 y r hy hr hyn hrn q hq hW=>?_⟩;have he:e ∈ σ.ev ++ [⟨4,((σ.be w).getD i default).kV,((σ.be w).getD i default).kX,0⟩]:=he;rcases List.mem_append.1 he with he | he
    ·exact c.hh e he h4 y r hy hr hyn hrn q hq hW
    ·rw [List.mem_singleton.1 he] at hy hr;have hy:((σ.be w).getD i default).kV= (y:Int):=hy;have hr:((σ.be w).getD i default).kX= (r:Int):=hr;have hmem:=Xe (d:=default) hi;obtain⟨p',e1,_,e2⟩:=h3 w hw _ hmem;have:p'=y:=by omega
     subst this;obtain⟨c1,c2⟩:=h.bw w hw _ hmem r hr hrn;refine⟨hd r q hrn hq c1 hW,fun b j hb hne hM=>?_⟩;rw [e2] at hne hM ⊢;rcases c2 q b j hq hW hb hne hM with z1 | z1
     ·have hrd:rdy s σ.ld w ((σ.be w).getD i default):=ZnO _ _ hpk;have:=hrd b hb hne;show j < σ.ld (li s b w);omega
     ·exact z1
   ·exact c
end
end
section
structure RuO (s:Zb) (σ:TS):Prop where
 told:∀ e ∈ σ.ev,Told s e
 ok:∀ k,k < σ.ev.length ->KF s (σ.ev.take k) (σ.ev.getD k default)=0
section
variable {s:Zb} {σ τ υ:TS} {F B a b p q w i j n d r p0 q0 y:Nat} {x:Zd} {k:Int} {e:Zf} {l:List Zx} {picks:List Int} {L:List Zf}
theorem RuO.congr (h:RuO s σ) (he:τ.ev=σ.ev):RuO s τ:= ⟨by rw [he];exact h.told,by rw [he];exact h.ok⟩
theorem RuO.add (h:RuO s σ) (he:τ.ev=σ.ev ++ [e]) (ht:Told s e) (hr:KF s σ.ev e=0):RuO s τ:=by
 refine⟨fun y hy=>?_,fun k hk=>?_⟩
 ·rw [he] at hy;rcases List.mem_append.1 hy with hy | hy
  ·exact h.told y hy
  ·rw [List.mem_singleton.1 hy];exact ht
 ·rw [he] at hk ⊢;rw [List.length_append,List.length_singleton] at hk;by_cases c:k < σ.ev.length
  ·rw [List.take_append_of_le_length (by omega)]
   have:(σ.ev ++ [e]).getD k default=σ.ev.getD k default:=by
    rw [List.getD_eq_getElem?_getD,List.getElem?_append_left c,← List.getD_eq_getElem?_getD]
   rw [this];exact h.ok k c
  ·have:k=σ.ev.length:=by omega
   subst this;rw [List.take_append_of_le_length (Nat.le_refl _),List.take_length]
   have:(σ.ev ++ [e]).getD σ.ev.length default=e:=by
    rw [List.getD_eq_getElem?_getD,List.getElem?_append_right (Nat.le_refl _),Nat.sub_self];rfl
   rw [this];exact hr
theorem KW (hp:p < nn s):Pl s (p:Int):= ⟨p,rfl,hp⟩
theorem K4 (h:EvS s σ) (hp:p < nn s) (h1:σ.st p=1):c3 σ.ev 5 (p:Int) 0=0:=by rw [h.e5 p hp,YL (fun z=>z h1)]
theorem ZDl (n:Int) (h5:c3 L 5 (p:Int) 0=0) (hk:k1 L ⟨1,p,q,n⟩=0):KF s L ⟨1,p,q,n⟩=0:=by
 unfold KF;rw [hk];show(bif((1:Int) !=6) && decide (c3 L 5 (p:Int) 0 > 0) then _ else _)=_;rw [h5];rfl
theorem ZDk (n:Int) (h5:c3 L 5 (p:Int) 0=0) (hk:0 < k1 L ⟨2,p,q,n⟩) (hk2:k2 L ⟨2,p,q,n⟩=0) (hs:ZvV s L ⟨2,p,q,n⟩=false):KF s L ⟨2,p,q,n⟩=0:=by
 unfold KF;rw [hk2,hs,decide_eq_false (show ¬ k1 L ⟨2,p,q,n⟩=0 by omega)];show(bif((2:Int) !=6) && decide (c3 L 5 (p:Int) 0 > 0) then _ else _)=_;rw [h5];rfl
theorem ZDj (h5:c3 L 5 (p:Int) 0=0) (o:Int):KF s L ⟨3,p,o,0⟩=0:=by
 unfold KF;show(bif((3:Int) !=6) && decide (c3 L 5 (p:Int) 0 > 0) then _ else _)=_;rw [h5];rfl
theorem ZKW (h5:c3 L 5 (p:Int) 0=0):KF s L ⟨5,p,0,0⟩=0:=by
 unfold KF;show(bif((5:Int) !=6) && decide (c3 L 5 (p:Int) 0 > 0) then _ else _)=_;rw [h5];rfl
theorem ZKX (h5:c3 L 5 (p:Int) 0=0) (h6:c3 L 6 (q:Int) 0 ≠ 0) (hc:c3 L 4 (p:Int) (q:Int) < c3 L 3 (p:Int) (q:Int)):KF s L ⟨4,p,q,0⟩=0:=by
 unfold KF;show(bif((4:Int) !=6) && decide (c3 L 5 (p:Int) 0 > 0) then(1:Int) else bif false then _ else bif false then _ else bif false then _ else bif true then(bif decide (c3 L 6 (q:Int) 0=0) || decide (c3 L 4 (p:Int) (q:Int) >=c3 L 3 (p:Int) (q:Int)) then 4 else 0) else 0)=_;rw [h5,decide_eq_false h6,decide_eq_false (show ¬ c3 L 4 (p:Int) (q:Int) >=c3 L 3 (p:Int) (q:Int) by omega)];rfl
theorem ZKV (h5:c3 L 5 (p:Int) 0 ≠ 0) (h6:c3 L 6 (p:Int) 0=0) (hk:Zsh s L (p:Int)=false):KF s L ⟨6,p,0,0⟩=0:=by
 unfold KF;show(bif false && _ then(1:Int) else bif false then _ else bif false then _ else bif true then(bif(decide (c3 L 5 (p:Int) 0=0) || decide (c3 L 6 (p:Int) 0 > 0)) || Zsh s L (p:Int) then 3 else 0) else _)=_;rw [hk,h6,decide_eq_false h5];rfl
theorem ZmF {α:Type} {f:α ->Bool} {l:List α} (h:∀ x ∈ l,f x=false):l.countP f=0:=by
 rw [List.countP_eq_zero];intro x hx;rw [h x hx];decide
theorem Zzq (y:Nat):(atW s (y:Int)).toNat=pl s y:=by unfold atW pl;rw [Int.toNat_natCast];rfl
theorem ZrI (hS:XO s) (hR:EvR s σ) (hB:Bel s σ) (hq:q < nn s) (hp:p < nn s) (hM:σ.st p ≠ 3∨∃ b j,b < mm s∧b ≠ pl s q∧Msg s σ p b (pl s q) j∧¬ j < σ.ld (li s b (pl s q))) (n:Int):ZvV s σ.ev ⟨2,q,p,n⟩=false:=by
 unfold ZvV;rw [List.any_eq_false];intro e he z;simp only [Ba0,beq_iff_eq] at z;obtain⟨⟨z1,z2⟩,z3⟩:=z;obtain⟨⟨y,ey,hy⟩,⟨r,er,hr⟩⟩:=hR e he;rw [ey] at z2;rw [er,Int.toNat_natCast,Int.toNat_natCast] at z3;have hW:= (ZbU hS.inn (show p < s.Ze.length from hp)).1 z3;have hpl:pl s y=pl s q:=by rw [← Zzq,← Zzq,z2]
 obtain⟨c1,c2⟩:=hB.hh e he z1 y r ey er hy hr p hp hW;rcases hM with hM | ⟨b,j,hb,hne,hMs,hn⟩
 ·exact hM c1
 ·rw [hpl] at c2;exact hn (c2 b j hb hne hMs)
theorem RuO.act (hS:XO s) (h1:P1 s σ) (h2:P2 s σ) (h3:P3 s σ) (ki:KI s σ) (hR:EvR s σ) (hE:EvS s σ) (hN:Num σ) (ZN5:Bal s σ) (hB:Bel s σ) (h:RuO s σ) (ac:Act s σ τ):RuO s τ:=by
 have kn:=h2.kn
 have ZKL:∀ (ρ:TS) (q p:Nat) (n:Int),RuO s ρ ->q < nn s ->p < nn s ->0 <=n ->(ρ.st q=1 ->KF s ρ.ev ⟨2,q,p,n⟩=0) ->RuO s (see q p n ρ):=fun ρ q p n hρ hq hp hn hr=>by
  unfold see;split
  ·rename_i hst;exact hρ.add (e:= ⟨2,q,p,n⟩) rfl ⟨KW hq,hn,.inl ⟨.inr rfl,KW hp⟩⟩ (hr hst)
  ·exact hρ
 cases ac with
 | @fall p hp hst=>exact h.add (e:= ⟨5,p,0,0⟩) rfl ⟨KW hp,Int.le_refl _,.inr (.inr ⟨.inl rfl,rfl,rfl⟩)⟩ (ZKW (K4 hE hp hst))
 | UG=>exact h.congr rfl
 | @die p hp hst hA=>
   have sA:=Qg (s:=s) p σ
   have hA':RuO s (Z6 s p σ):=by
    refine h.add (e:= ⟨6,p,0,0⟩) sA.2.2.2.2.1 ⟨KW hp,Int.le_refl _,.inr (.inr ⟨.inr rfl,rfl,rfl⟩)⟩ (ZKV ?_ ?_ ?_)
    ·rw [hE.e5 p hp,QK (by rw [hst];decide)];decide
    ·rw [hE.e6 p hp,YL (by rw [hst];decide)]
    ·unfold Zsh;rw [List.any_eq_false];intro q hq z;simp only [Ba0,beq_iff_eq,decide_eq_true_eq] at z;have hq':q < nn s:=List.mem_range.1 hq;obtain⟨k',ek,_,_,hd⟩:=kn.rng p hp _ (hA q hq' z.1);have:q=k':=by omega
     subst this;have:=z.2;rw [hE.e6 q hq',QK hd] at this;cases this
   unfold Qm;split
   ·exact hA'
   ·split
    ·exact hA'.congr rfl
    ·exact hA'.congr rfl
 | @ZaW p q hp hq hst e0=>
   have k0:∀ (m:Int),k1 σ.ev ⟨1,p,q,σ.sd⟩=0:=fun _=>ZmF fun x hx=>by
    by_cases z:x.kZ=1
    ·have:= (hN.n1 x hx (.inl z)).2;rw [show(x.n== (⟨1,p,q,σ.sd⟩:Zf).n)=false from beq_eq_false_iff_ne.2 (by show x.n ≠ σ.sd;omega)];simp
    ·rw [show(x.kZ==1)=false from beq_eq_false_iff_ne.2 z];simp
   have c1:RuO s (kK p q σ):=h.add (e:= ⟨1,p,q,σ.sd⟩) rfl ⟨KW hp,hN.n0,.inl ⟨.inl rfl,KW hq⟩⟩ (ZDl _ (K4 hE hp hst) (k0 0));refine ZKL (kK p q σ) q p σ.sd c1 hq hp hN.n0 fun ZgX=>?_
   have ev:(kK p q σ).ev=σ.ev ++ [⟨1,p,q,σ.sd⟩]:=rfl;have ZgX:σ.st q=1:=ZgX;refine ZDk _ ?_ ?_ ?_ ?_
   ·rw [ev,Zbh,K4 hE hq ZgX,YL (fun z=>by have:(1:Int)=5:=z.1;omega)]
   ·rw [ev];unfold k1;rw [List.countP_append];simp
   ·rw [ev]
    exact ZmF fun x hx=>by
     by_cases z:x.kZ=2
     ·rcases List.mem_append.1 hx with hx | hx
      ·have:= (hN.n1 x hx (.inr z)).2;rw [show(x.n== (⟨2,q,p,σ.sd⟩:Zf).n)=false from beq_eq_false_iff_ne.2 (by show x.n ≠ σ.sd;omega)];simp
      ·rw [List.mem_singleton.1 hx] at z;exact absurd z (by show ¬ (1:Int)=2;decide)
     ·rw [show(x.kZ==2)=false from beq_eq_false_iff_ne.2 z];rfl
   ·have:=ZrI (n:=σ.sd) hS hR hB hq hp (.inl (by rw [hst];decide));rw [ev];unfold ZvV at this ⊢;rw [List.any_append,this];simp
 | @ZaV p q hp hq hst e0=>
   have k0:k1 σ.ev ⟨1,p,q,σ.sd⟩=0:=ZmF fun x hx=>by
    by_cases z:x.kZ=1
    ·have:= (hN.n1 x hx (.inl z)).2;rw [show(x.n== (⟨1,p,q,σ.sd⟩:Zf).n)=false from beq_eq_false_iff_ne.2 (by show x.n ≠ σ.sd;omega)];simp
    ·rw [show(x.kZ==1)=false from beq_eq_false_iff_ne.2 z];simp
   exact h.add (e:= ⟨1,p,q,σ.sd⟩) rfl ⟨KW hp,hN.n0,.inl ⟨.inl rfl,KW hq⟩⟩ (ZDl _ (K4 hE hp hst) k0)
 | @ZaQ p q hp hq hst e0=>exact(h.add (τ:=tell 3 p q 0 σ) (e:= ⟨3,p,q,0⟩) rfl ⟨KW hp,Int.le_refl _,.inr (.inl ⟨.inl rfl,KW hq,rfl⟩)⟩ (ZDj (K4 hE hp hst) q)).congr (Y8 (s:=s) p q (tell 3 p q 0 σ)).2.2.2.2.2
 | @ZaP p q hp hq hst e0=>exact h.add (e:= ⟨3,p,q,0⟩) rfl ⟨KW hp,Int.le_refl _,.inr (.inl ⟨.inl rfl,KW hq,rfl⟩)⟩ (ZDj (K4 hE hp hst) q)
 | @Za5 a b p q ha hb hl hk hpe hqe hp hq=>
   have hg:=ZfN hl;obtain⟨n1,n2,e,he,e1,e2,e3,e4⟩:=hN.n5 _ _ _ hg hk;refine ZKL (drop1 (li s a b) σ) q p _ (h.congr rfl) hq hp n1 fun hst=>?_
   have hst:σ.st q=1:=hst;have hlet:=h1.lets a b ha hb _ (Zbb hl)
   have hpq:pl s p=a∧pl s q=b:=by
    obtain⟨p',hp',_,_,c⟩:=hlet;have:p'=p:=by omega
    subst this;rcases c with⟨k,c1,q',hq',_,c2⟩ | ⟨k,_⟩ | ⟨k,_⟩ | ⟨k,_⟩ | ⟨k,_⟩
    ·have:q'=q:=by omega
     subst this;exact⟨c1,c2⟩
    all_goals omega
   have hab:a ≠ b:=fun z=>by
    subst z;have:=h1.self a ha;rw [this] at hl;simp at hl
   refine ZDk (L:=σ.ev) _ (K4 hE hq hst) ?_ ?_ ?_
   ·show 0 < σ.ev.countP _;rw [List.countP_pos_iff];refine⟨e,he,?_⟩;rw [e1,e4,e2,e3,hpe,hqe];simp
   ·exact ZmF fun x hx=>by
     by_cases z:x.kZ=2
     ·have hne:x.n ≠ (hd σ (li s a b)).n:=fun z'=>by
       have:=hN.n3 x hx z _ _ _ hg hk z'.symm;omega
      rw [show(x.n== (⟨2,q,p,(hd σ (li s a b)).n⟩:Zf).n)=false from beq_eq_false_iff_ne.2 hne];simp
     ·rw [show(x.kZ==2)=false from beq_eq_false_iff_ne.2 z];rfl
   ·refine ZrI hS hR hB hq hp (.inr ⟨a,σ.ld (li s a b),ha,by rw [hpq.2];exact hab,?_,?_⟩) _
    ·rw [hpq.2];exact⟨_,hg,hk,hpe⟩
    ·rw [hpq.2];omega
 | @Za8 a b p q=>exact h.congr (Y8 (s:=s) p q (drop1 (li s a b) σ)).2.2.2.2.2
 | Za6=>exact h.congr rfl
 | Zah=>exact h.congr rfl
 | Za7=>exact h.congr rfl
 | @ring w i hw hpk=>
   have hi:i < (σ.be w).length:=W9 _ _ hpk;have hmem:=Xe (d:=default) hi;obtain⟨p,hpe,hp,hpw⟩:=h3 w hw _ hmem;obtain⟨⟨_,⟨q,hqe,hq⟩,_⟩,hk⟩:=h1.bea w hw _ hmem
   have hb1:0 < bb s σ p q:=by
    have hc:=Zqe (k:=5) (p:=p) (q:=q) hi;rw [QK ⟨hk,hpe,hqe⟩] at hc;unfold bb;rw [hpw];omega
   have hd3:=ZN5.dead p q hp hq (by omega);have hle:=ZN5.le p q hp hq;unfold ec at hle;unfold rung;rw [hpe,hqe,Int.toNat_natCast];split
   ·rename_i hst;refine h.add (e:= ⟨4,p,q,0⟩) rfl ⟨KW hp,Int.le_refl _,.inr (.inl ⟨.inr rfl,KW hq,rfl⟩)⟩ (ZKX (K4 hE hp hst) ?_ (by omega));rw [hE.e6 q hq,QK hd3];decide
   ·exact h.congr rfl
structure Zg7 (s:Zb) (σ:TS):Prop where
 p1:P1 s σ
 p2:P2 s σ
 p3:P3 s σ
 ki:KI s σ
 er:EvR s σ
 es:EvS s σ
 nu:Num σ
 ba:Bal s σ
 mb:MB s σ
 J9:Mk s σ
 be:Bel s σ
 ru:RuO s σ
theorem Zg7.act (hS:XO s) (h:Zg7 s σ) (ac:Act s σ τ):Zg7 s τ:=
 ⟨h.p1.act hS ac,h.p2.act hS ac,h.p3.act h.p1 ac,h.ki.act hS h.p2 ac,h.er.act hS h.p1 ac,h.es.act ac,h.nu.act ac,h.ba.act hS h.p1 h.p2 h.p3 ac,h.mb.act ac,h.J9.act hS h.p1 h.p2 h.ki h.mb ac,h.be.act hS h.p1 h.p2 h.p3 h.ki h.J9 ac,h.ru.act hS h.p1 h.p2 h.p3 h.ki h.er h.es h.nu h.ba h.be ac⟩
theorem inv0 (hS:XO s):Zg7 s ts0:=by
 have h0:=ok0 hS;have nil:∀ {α:Type} (x:α),¬ x ∈ ([]:List α):=fun x h=>by cases h
 have sn:∀ (i j:Nat) (x:Zd),¬ (ts0.sn i)[j]? =some x:=fun i j x h=>by simp [ts0] at h
 exact⟨h0.p1,h0.p2,fun w _ x hx=>absurd hx (nil x),h0.ki,fun e he=>absurd he (nil e),⟨fun p _=>.inl rfl,fun p _=>rfl,fun p _=>rfl,fun e he=>absurd he (nil e)⟩,
  ⟨Int.le_refl _,fun e he=>absurd he (nil e),fun i j x hx=>absurd hx (sn i j x),fun i j x i' j' x' hx=>absurd hx (sn i j x),fun e he=>absurd he (nil e)⟩,
  ⟨fun p q _ _=>Nat.le_refl 0,fun p q _ _ _=>rfl,fun p q _ _ z=>absurd z (Nat.lt_irrefl 0),fun p q _ _ _=>rfl⟩,
  ⟨fun p i _=>by show(0:Int) <=0;omega,fun j x hx=>absurd hx (nil x),fun m x hx=>absurd hx (nil x)⟩,
  ⟨fun q b w j _ _ _ _ _ hM=>absurd hM.choose_spec.1 (sn _ _ _),fun p k _ _ hk=>absurd hk (nil _),fun i j x hx=>absurd hx (sn i j x)⟩,
  ⟨fun a w jb x _ _ hx=>absurd hx (sn _ _ _),fun m _ x hx=>absurd hx (nil x),fun e he=>absurd he (nil e)⟩,
  ⟨fun e he=>absurd he (nil e),fun k hk=>absurd hk (Nat.not_lt_zero _)⟩⟩
theorem Zn3 (hS:XO s) (h:QT s ts0 σ):Zg7 s σ:=h.keep (P:=Zg7 s) (fun _ _ h ac=>h.act hS ac) (inv0 hS)
end
end
section
def hst (s:Zb) (r:Nat) (a:Int) (m:List (Yx×Bool)):Nat ->List (Yx×Bool)
 | 0=>m
 | v + 1=>if Zlb s r v then ZgV (hst s r a m v) ⟨a,(v:Int)⟩ true else hst s r a m v
section
variable {s:Zb} {σ τ υ:TS} {F B a b p q w i j n d r v k:Nat} {l:List Zx} {picks:List Int} {L:List Zf}
end
end
section
section
variable {s:Zb} {Z:Nat ->Prop} {σ τ υ:TS} {F B a b p q w i j n d r v k:Nat} {x:Zd}
end
end
section
section
variable {s:Zb} {X Y:Nat ->Prop} {σ τ υ:TS} {F B a b p q w i j n d r v k:Nat} {x:Zd}
end
end
section
section
variable {s:Zb} {X Y Z:Nat ->Prop} {σ τ υ:TS} {F B a b p q w i j n d r v k:Nat} {x:Zd} {y:Zx}
def no:Nat ->Prop:=fun _=>False
end
end
section
section
variable {s:Zb} {X Y Z:Nat ->Prop} {σ τ υ:TS} {F B a b p q w i j n d r v k:Nat} {x:Zd} {y:Zx} {l:List Zx} {picks:List Int}
end
end
section
section
variable {s:Zb} {X Y Z:Nat ->Prop} {σ τ υ:TS} {F B a b p q w i j n d r v k m:Nat} {x:Zd} {y:Zx} {l:List Zx} {picks:List Int}
theorem Ztx (hS:XO s) (k:Nat):∀ m,QT s (Xf s l k).1 (Xf s l (k + m)).1:=by
 intro m
 induction m with
 | zero=>exact .refl
 | succ m ih=>
   obtain⟨ok,_,_⟩:=ZcP (l:=l) hS (k + m);rw [show k + (m + 1)= (k + m) + 1 by omega,Xf];by_cases hA:Zbo s (l.getD (k + m) default) (Xf s l (k + m)).1
   ·rw [ZF hA];exact ih.trans (Zfm hS ok hA)
   ·rw [ZE hA];exact ih
end
end
section
def ck (k:Int) (l:List Zd):Nat:=l.countP fun x=>x.kW==k
def ced (d:Int) (l:List Zf):Nat:=l.countP fun x=>x.kZ==d
section
variable {s:Zb} {σ τ υ:TS} {F B a b p q w i j n d r v m:Nat} {x:Zd} {k:Int}
theorem Zc8 (l:List Zf) (e:Zf) (d:Int):ced d (l ++ [e])=ced d l + one (e.kZ=d):=by
 unfold ced;rw [List.countP_append,List.countP_cons,List.countP_nil,Nat.zero_add];congr 1;by_cases c:e.kZ=d
 ·rw [QK c,c];simp
 ·rw [YL c,if_neg];simpa using c
end
end
section
section
variable {s:Zb} {σ τ υ:TS} {F B a b p q w i j n d r v m:Nat} {x:Zd} {k:Int} {e:Zf}
end
end
section
section
variable {s:Zb} {σ τ υ:TS} {F B a b p q w i j n d r v m:Nat} {x:Zd} {k:Nat}
end
end
section
section
variable {s:Zb} {σ τ υ:TS} {F B a b p q w i j n d r v m:Nat} {x:Zd} {k:Nat} {y:Zx} {l:List Zx} {picks:List Int}
end
end
section
def f13 (l:List Zf):List Zf:=l.filter fun e=>(e.kZ==1) || (e.kZ==3)
def Cs (σ τ:TS):Prop:=f13 τ.ev=f13 σ.ev
section
variable {s:Zb} {σ τ υ:TS} {F B a b p q w i j n d r v m:Nat} {x:Zd} {k:Nat} {y:Zx} {l:List Zx} {picks:List Int} {e:Zf}
theorem Zmp {l:List Zf} (h1:e.kZ ≠ 1) (h3:e.kZ ≠ 3):f13 (l ++ [e])=f13 l:=by
 unfold f13;rw [List.filter_append,List.filter_cons,List.filter_nil,if_neg,List.append_nil];simp only [Bool.or_eq_true,beq_iff_eq];exact fun z=>z.elim h1 h3
theorem ZsG {l:List Zf} (h:e.kZ=1∨e.kZ=3):f13 (l ++ [e])=f13 l ++ [e]:=by
 unfold f13;rw [List.filter_append,List.filter_cons,List.filter_nil,if_pos];simp only [Bool.or_eq_true,beq_iff_eq];exact h
theorem Cs.refl' (h:τ.ev=σ.ev):Cs σ τ:=by unfold Cs;rw [h]
theorem Cs.trans (h:Cs σ τ) (h':Cs τ υ):Cs σ υ:=Eq.trans h' h
theorem Cs.tell (d p q n:Int) (h1:d ≠ 1) (h3:d ≠ 3):Cs σ (Proofs.YtcnahmgekicbdaaGreat.tell d p q n σ):=Zmp h1 h3
theorem Cs.see (p q:Nat) (n:Int):Cs σ (Proofs.YtcnahmgekicbdaaGreat.see p q n σ):=by
 unfold Proofs.YtcnahmgekicbdaaGreat.see;split
 ·exact .tell _ _ _ _ (by decide) (by decide)
 ·exact .refl' rfl
theorem Cs.note (p q:Nat):Cs σ (Proofs.YtcnahmgekicbdaaGreat.note s p q σ):= .refl' (Y8 p q σ).2.2.2.2.2
theorem Cs.Z6 (p:Nat):Cs σ (Proofs.YtcnahmgekicbdaaGreat.Z6 s p σ):=by
 unfold Cs;rw [(Qg (s:=s) p σ).2.2.2.2.1];exact Zmp (by show ¬ (6:Int)=1;decide) (by show ¬ (6:Int)=3;decide)
theorem ZsW:∀ (d p:Nat) (σ:TS),Cs σ (Zgb s d p σ):=by
 intro d
 induction d with
 | zero=>intro p σ;exact .refl' rfl
 | succ d ih=>
   intro p σ;have hA:Cs σ (Z6 s p σ):= .Z6 p;show Cs σ (Zje s (Zgb s d) p (Z6 s p σ));unfold Zje;by_cases h0:inn s (p:Int) < 0
   ·rw [if_pos h0];exact hA
   ·rw [if_neg h0];split
    ·unfold WA;have hL:Cs σ (Yy s p (J9 s (Z6 s p σ) p) (Z6 s p σ)):=hA.trans (.refl' rfl);by_cases c:(Yy s p (J9 s (Z6 s p σ) p) (Z6 s p σ)).st (inn s (p:Int)).toNat=2∧Alo s (Yy s p (J9 s (Z6 s p σ) p) (Z6 s p σ)) (inn s (p:Int)).toNat
     ·rw [ZF c];exact hL.trans (ih _ _)
     ·rw [ZE c];exact hL
    ·exact hA.trans (.refl' rfl)
theorem Zoq:∀ (d p:Nat) (σ:TS),Cs σ (Q8 s d p σ):=by
 intro d
 induction d with
 | zero=>intro p σ;exact .refl' rfl
 | succ d ih=>
   intro p σ;have h0:Cs σ (Jw p σ):=Zmp (by show ¬ (5:Int)=1;decide) (by show ¬ (5:Int)=3;decide)
   have hk:Cs σ (fk s (Q8 s d) p (nn s) (Jw p σ)):=by
    refine UM _ (Cs σ) _ _ h0 fun τ k hk hτ=>?_
    unfold ZeB;split
    ·split
     ·exact hτ.trans (ih k τ)
     ·exact hτ
    ·split
     ·exact hτ
     ·exact hτ.trans (.refl' rfl)
   show Cs σ (ZiP s p _);unfold ZiP;by_cases c:(fk s (Q8 s d) p (nn s) (Jw p σ)).st p=2∧Alo s (fk s (Q8 s d) p (nn s) (Jw p σ)) p
   ·rw [ZF c];exact hk.trans (ZsW _ _ _)
   ·rw [ZE c];exact hk
theorem Zxd (b:Nat) (x:Zd):Cs σ (Zeu s b x σ):=by
 unfold Zeu;split
 ·exact .see _ _ _
 ·split
  ·exact .note _ _
  ·split
   ·split
    ·exact Zoq _ _ _
    ·exact .refl' rfl
   ·split
    ·unfold Zcf WA;have hL:Cs σ (Yy s x.kV.toNat x.qX σ):= .refl' rfl;by_cases c:(Yy s x.kV.toNat x.qX σ).st (inn s ((x.kV.toNat:Nat):Int)).toNat=2∧Alo s (Yy s x.kV.toNat x.qX σ) (inn s ((x.kV.toNat:Nat):Int)).toNat
     ·rw [ZF c];exact hL.trans (ZsW _ _ _)
     ·rw [ZE c];exact hL
    ·exact .refl' rfl
theorem Zxf:Cs σ (Zch s a b σ):=by
 unfold Zch;exact(Cs.refl' (σ:=σ) (τ:=drop1 (li s a b) σ) rfl).trans (Zxd _ _)
theorem Zv2:∀ k,Cs σ (rings s k σ):=by
 have one:∀ (w i:Nat) (τ:TS),Cs τ (rung s w i τ):=fun w i τ=>by
  unfold rung;split
  ·exact Zmp (by show ¬ (4:Int)=1;decide) (by show ¬ (4:Int)=3;decide)
  ·exact .refl' rfl
 have ring:∀ (w n:Nat) (τ:TS),Cs τ (UH s w n τ):=fun w n=>by
  induction n with
  | zero=>intro τ;exact .refl' rfl
  | succ n ih=>
    intro τ;rw [UH];split
    ·exact .refl' rfl
    ·exact(one _ _ _).trans (ih _)
 intro k
 induction k with
 | zero=>exact .refl' rfl
 | succ k ih=>rw [rings];exact ih.trans (ring _ _ _)
theorem Znr:f13 (stepW s y σ).ev=if y.act=1 then f13 σ.ev ++ [⟨1,((y.a.toNat:Nat):Int),((y.b.toNat:Nat):Int),σ.sd⟩] else if y.act=2 then f13 σ.ev ++ [⟨3,y.a,y.b,0⟩] else f13 σ.ev:=by
 have hr:f13 (stepW s y σ).ev=f13 (WN s y σ).ev:=Zv2 _;rw [hr];unfold WN;by_cases k1:y.act=1
 ·rw [if_pos k1,if_pos k1];have h0:f13 (kK y.a.toNat y.b.toNat σ).ev=f13 σ.ev ++ [⟨1,((y.a.toNat:Nat):Int),((y.b.toNat:Nat):Int),σ.sd⟩]:=ZsG (l:=σ.ev) (e:= ⟨1,((y.a.toNat:Nat):Int),((y.b.toNat:Nat):Int),σ.sd⟩) (.inl rfl);split
  ·exact Eq.trans (Cs.see (σ:=kK y.a.toNat y.b.toNat σ) _ _ _) h0
  ·exact h0
 ·rw [if_neg k1,if_neg k1];by_cases k2:y.act=2
  ·rw [if_pos k2,if_pos k2];have h0:f13 (tell 3 y.a y.b 0 σ).ev=f13 σ.ev ++ [⟨3,y.a,y.b,0⟩]:=ZsG (l:=σ.ev) (e:= ⟨3,y.a,y.b,0⟩) (.inr rfl);split
   ·exact Eq.trans (Cs.note (s:=s) (σ:=tell 3 y.a y.b 0 σ) _ _) h0
   ·exact h0
  ·rw [if_neg k2,if_neg k2];split
   ·exact Zoq _ _ _
   ·exact Zxf
theorem Zc7 {l:List Zf} {d:Int} (hd:d=1∨d=3):ced d (f13 l)=ced d l:=by
 induction l with
 | nil=>rfl
 | cons x l ih=>
   unfold f13 ced at *;rw [List.filter_cons];by_cases c:((x.kZ==1) || (x.kZ==3))=true
   ·rw [if_pos c,List.countP_cons,List.countP_cons,ih]
   ·rw [if_neg c,List.countP_cons,ih,if_neg]
    ·rfl
    ·intro z;simp only [Bool.or_eq_true,beq_iff_eq] at c z;exact c (by rcases hd with rfl | rfl;exact .inl z;exact .inr z)
theorem ZvJ:ced 1 (stepW s y σ).ev=ced 1 σ.ev + one (y.act=1)∧ced 3 (stepW s y σ).ev=ced 3 σ.ev + one (y.act=2):=by
 have h:=Znr (s:=s) (σ:=σ) (y:=y);rw [← Zc7 (d:=1) (.inl rfl),← Zc7 (d:=3) (.inr rfl),← Zc7 (l:=σ.ev) (d:=1) (.inl rfl),← Zc7 (l:=σ.ev) (d:=3) (.inr rfl),h];by_cases k1:y.act=1
 ·rw [if_pos k1,Zc8,Zc8,QK k1,QK (show((1:Int))=1 from rfl),YL (show ¬ ((1:Int))=3 by decide),YL (show ¬ y.act=2 by omega)];exact⟨rfl,rfl⟩
 ·rw [if_neg k1,YL k1];by_cases k2:y.act=2
  ·rw [if_pos k2,Zc8,Zc8,QK k2,YL (show ¬ ((3:Int))=1 by decide),QK (show((3:Int))=3 from rfl)];exact⟨rfl,rfl⟩
  ·rw [if_neg k2,YL k2];exact⟨rfl,rfl⟩
theorem ZIz:∀ r,Cs σ (drK s picks σ r):=by
 intro r
 induction r with
 | zero=>exact .refl' rfl
 | succ r ih=>
   rw [drK];split
   ·exact ih
   ·refine ih.trans ?_;unfold Cs;rw [Znr,if_neg (show ¬ (Zev s _).act=1 by show ¬ (4:Int)=1;decide),if_neg (show ¬ (Zev s _).act=2 by show ¬ (4:Int)=2;decide)]
end
end
section
section
variable {s:Zb} {σ τ υ:TS} {F B a b p q w i j n d r v m:Nat} {x:Zd} {k:Nat} {y:Zx} {l:List Zx} {picks:List Int} {e:Zf}
theorem ZhH {α:Type} {L:List α} {k:Nat} (h:k < L.length) (d:α):L.take (k + 1)=L.take k ++ [L.getD k d]:=by
 rw [List.take_succ_eq_append_getElem h,UK h]
end
end
section
def isE (d:Int) (p q:Nat) (n:Int) (e:Zf):Prop:=e.kZ=d∧e.kV= (p:Int)∧e.kX= (q:Int)∧e.n=n
def isM (p q:Nat) (n:Int) (x:Zd):Prop:=x.kW=1∧x.kV= (p:Int)∧x.kX= (q:Int)∧x.n=n
instance (d:Int) (p q:Nat) (n:Int) (e:Zf):Decidable (isE d p q n e):=by unfold isE;infer_instance
instance (p q:Nat) (n:Int) (x:Zd):Decidable (isM p q n x):=by unfold isM;infer_instance
def c4 (d:Int) (p q:Nat) (n:Int) (l:List Zf):Nat:=l.countP fun e=>decide (isE d p q n e)
def km (p q:Nat) (n:Int) (l:List Zd):Nat:=l.countP fun x=>decide (isM p q n x)
section
variable {s:Zb} {σ τ υ:TS} {F B a b p q w i j d r v m p0 q0:Nat} {x:Zd} {k n N:Int} {e:Zf}
end
end
section
section
variable {κ ν:Type} [DecidableEq κ]
end
abbrev Sm:=List (Yx×Int)
def isS (p:Nat) (K:Yx) (e:Zf):Prop:= (e.kV= (p:Int)∧e.kZ=2)∧Yx.mk e.kX e.n=K
instance (p:Nat) (K:Yx) (e:Zf):Decidable (isS p K e):=by unfold isS;infer_instance
section
variable {s:Zb} {σ τ υ:TS} {F B a b p q w i j d r v p0 q0:Nat} {x:Zd} {k:Nat} {n N:Int} {e:Zf} {m:Sm} {K:Yx} {f:Int ->Int} {L:List Zf} {l:List Zx} {picks:List Int}
end
end
section
def BL (s:Zb) (σ:TS) (q b w j:Nat):Prop:=∃ x:Zd,(σ.sn (li s b w))[j]? =some x∧x.kW=5∧x.kX= (q:Int)
def Up5 (s:Zb) (σ:TS) (x:Zd) (q:Nat):Prop:=σ.st q=3∧∀ i,i < mm s * mm s ->x.qX.getD i 0 <=σ.ma q i∧∀ c,c < nn s ->inn s (c:Int)= (q:Int) ->σ.ma c i <=x.qX.getD i 0
def ZWa (s:Zb) (e e':Zf):Prop:=e.kZ=4 ->e'.kZ=4 ->e.kV=e'.kV ->∀ r q:Nat,e.kX= (r:Int) ->e'.kX= (q:Int) ->r < nn s ->q < nn s ->Wth s r q ->q=r
structure I5 (s:Zb) (σ:TS):Prop where
 na:∀ (i j:Nat) (x:Zd),(σ.sn i)[j]? =some x ->x.kW=2 ->j < σ.ld i
 g1:∀ q b w j,q < nn s ->b < mm s ->w < mm s ->b ≠ w ->BL s σ q b w j ->(j:Int) < σ.ma q (li s b w)
 u1:∀ (i j:Nat) (x:Zd),(σ.sn i)[j]? =some x ->x.kW=5 ->∀ q:Nat,x.kX= (q:Int) ->q < nn s ->Up5 s σ x q
 u2:∀ m,m < mm s ->∀ x ∈ σ.be m,∀ q:Nat,x.kX= (q:Int) ->q < nn s ->Up5 s σ x q
 g4:∀ e ∈ σ.ev,e.kZ=4 ->∀ y r:Nat,e.kV= (y:Int) ->e.kX= (r:Int) ->y < nn s ->r < nn s ->∀ q,q < nn s ->Wth s r q ->q ≠ r ->bb s σ y q=0
 g5:σ.ev.Pairwise (ZWa s)
section
variable {s:Zb} {σ τ υ:TS} {F B a b p q w i j n d r p0 q0 y m:Nat} {x:Zd} {k:Int} {e:Zf}
theorem ZwN {ld:Nat ->Nat} {l:List Zd}:∀ k,(Qj s ld w l k=none ->∀ i,i < k ->¬ rdy s ld w (l.getD i default))∧∀ j,Qj s ld w l k=some j ->∀ i,i < k ->rdy s ld w (l.getD i default) ->Kb s (l.getD i default) <=Kb s (l.getD j default):=by
 intro k
 induction k with
 | zero=>exact⟨fun _ i hi=>(by omega),fun j h=>(by cases h)⟩
 | succ k ih=>
   obtain⟨h1,h2⟩:=ih;rw [Qj];by_cases c:rdy s ld w (l.getD k default)∧∀ j,Qj s ld w l k=some j ->Kb s (l.getD j default) < Kb s (l.getD k default)
   ·rw [ZF c];refine⟨fun z=>(by cases z),fun j h i hi hr=>?_⟩;cases h;by_cases e:i=k
    ·rw [e];exact Nat.le_refl _
    ·cases hp:Qj s ld w l k with
     | none=>exact absurd hr (h1 hp i (by omega))
     | some j'=>have:=h2 j' hp i (by omega) hr;have:=c.2 j' hp;omega
   ·rw [ZE c];refine⟨fun z i hi hr=>?_,fun j h i hi hr=>?_⟩
    ·by_cases e:i=k
     ·subst e;exact c ⟨hr,fun j hj=>by rw [z] at hj;cases hj⟩
     ·exact h1 z i (by omega) hr
    ·by_cases e:i=k
     ·subst e;rcases Nat.lt_or_ge (Kb s (l.getD j default)) (Kb s (l.getD i default)) with z | z
      ·exact absurd ⟨hr,fun j' hj=>by rw [h] at hj;cases hj;exact z⟩ c
      ·exact z
     ·exact h2 j h i (by omega) hr
theorem ZIC (hS:XO s) (hr:r < nn s) (hq:q < nn s) (hW:Wth s r q) (hne:q ≠ r):dep s r < dep s q:=by
 obtain⟨m,em⟩:=hW;obtain⟨_,q2,_⟩:=Zjf hS hq;obtain⟨_,_,r3⟩:=Zjf hS hr
 have hm:1 <=m:=by
  rcases Nat.eq_zero_or_pos m with z | z
  ·subst z;exact absurd (by have:(q:Int)=r:=em;omega) hne
  ·exact z
 rcases Nat.lt_or_ge (dep s r) (dep s q) with z | z
 ·exact z
 ·exfalso;by_cases c:dep s q + 1 <=m
  ·have:=Jr q2 c;rw [em] at this;omega
  ·obtain⟨k',hk'⟩:∃ k',dep s q + 1=m + (k' + 1):= ⟨dep s q - m,by omega⟩
   rw [hk',up_add,em] at q2;exact r3 k' (by omega) q2
theorem Zjh (ac:Act s σ τ) (h:σ.st q=3):τ.st q=3:=by
 cases ac with
 | @fall p hp hst=>
   show ZY σ.st p 2 q=3;rw [ZA (fun e=>by subst e;rw [hst] at h;cases h)];exact h
 | UG=>exact h
 | @die p hp hst hA=>
   rw [ZmD];by_cases e:q=p
   ·subst e;exact Zq _ _ _
   ·rw [ZA e];exact h
 | ZaW=>rw [(X6 _ _ _ _).1];exact h
 | ZaV=>exact h
 | ZaQ=>rw [(Y8 _ _ _).1];exact h
 | ZaP=>exact h
 | Za5=>rw [(X6 _ _ _ _).1];exact h
 | Za8=>rw [(Y8 _ _ _).1];exact h
 | Za6=>exact h
 | Zah=>exact h
 | Za7=>exact h
 | ring=>rw [(Qp _ _ _ _).2.2.1];exact h
theorem Up5.keep (hS:XO s) (kn:Kn s σ) (ki:KI s σ) (hq:q < nn s) (h3:∀ q,q < nn s ->σ.st q=3 ->τ.st q=3∧τ.ma q=σ.ma q) (h:Up5 s σ x q):Up5 s τ x q:=by
 obtain⟨a1,a2⟩:=h3 q hq h.1;refine⟨a1,fun i hi=>?_⟩;obtain⟨b1,b2⟩:=h.2 i hi;refine⟨by rw [a2];exact b1,fun c hc e=>?_⟩;have hc3:σ.st c=3:=Zc6 hS kn ki hq h.1 1 c hc (by rw [show(1:Nat)=0 + 1 from rfl,up1];exact e);rw [(h3 c hc hc3).2];exact b2 c hc e
theorem I5.keep (hS:XO s) (hI:Zg7 s σ) (h:I5 s σ) (ac:Act s σ τ) (hna:∀ (i j:Nat) (x:Zd),(τ.sn i)[j]? =some x ->x.kW=2 ->(σ.sn i)[j]? =some x) (hld:∀ i,σ.ld i <=τ.ld i) (h5:S5 σ τ)
 (hbe:∀ m,m < mm s ->∀ x ∈ τ.be m,∀ q:Nat,x.kX= (q:Int) ->q < nn s ->Up5 s σ x q) (hbb:∀ y q,y < nn s ->q < nn s ->bb s τ y q <=bb s σ y q) (hev:∃ l,(∀ e ∈ l,e.kZ ≠ 4)∧τ.ev=σ.ev ++ l):I5 s τ:=by
 have kn:=hI.p2.kn;have h3:∀ q,q < nn s ->σ.st q=3 ->τ.st q=3∧τ.ma q=σ.ma q:=fun q hq z=>⟨Zjh ac z,Zyr hS kn hI.ki hq z ac⟩
 obtain⟨l,hl,he⟩:=hev
 have he4:∀ e ∈ τ.ev,e.kZ=4 ->e ∈ σ.ev:=fun e hm z=>by
  rw [he] at hm;rcases List.mem_append.1 hm with hm | hm
  ·exact hm
  ·exact absurd z (hl e hm)
 refine⟨fun i j x hx hk=>Nat.lt_of_lt_of_le (h.na i j x (hna i j x hx hk) hk) (hld i),fun q b w j hq hb hw hne ⟨x,hx,hk,ho⟩=>?_,fun i j x hx hk q ho hq=>?_,fun m hm x hx q ho hq=>(hbe m hm x hx q ho hq).keep hS kn hI.ki hq h3,fun e hm z y r ey er hy hr q hq hW hne=>?_,?_⟩
 ·have hx':= (h5 _ _ _ hk).1 hx;have:=h.g1 q b w j hq hb hw hne ⟨x,hx',hk,ho⟩;rw [(h3 q hq (h.u1 _ _ x hx' hk q ho hq).1).2];exact this
 ·exact(h.u1 i j x ((h5 _ _ _ hk).1 hx) hk q ho hq).keep hS kn hI.ki hq h3
 ·have:=hbb y q hy hq;have:=h.g4 e (he4 e hm z) z y r ey er hy hr q hq hW hne;omega
 ·rw [he,List.pairwise_append];refine⟨h.g5,?_,fun e _ e' he' _ z=>absurd z (hl e' he')⟩;refine List.pairwise_iff_getElem.2 fun i j hi hj _ z=>absurd z (hl _ (List.getElem_mem hi))
theorem Zzl {x:Zd} (hS:XO s) (hp:p < nn s) (hy:y < nn s) (h:((Y5 s y p σ).sn i)[j]? =some x):(σ.sn i)[j]? =some x∨(x.kW=5∧x.kX= (p:Int)∧x.qX=J9 s σ p∧∃ w,w < mm s∧i=li s (pl s p) w∧w ≠ pl s p):=by
 unfold Y5 at h;by_cases e:pl s y=pl s p
 ·rw [if_pos e] at h;exact .inl h
 ·rw [if_neg e] at h;rcases Xj.1 h with h | ⟨e1,_,rfl⟩
  ·exact .inl h
  ·exact .inr ⟨rfl,rfl,rfl,pl s y,(hS.pl hy).2,e1,e⟩
theorem ZCH {x:Zd} (h:x ∈ (Y5 s y p σ).be m):x ∈ σ.be m∨(x.kX= (p:Int)∧x.qX=J9 s σ p):=by
 unfold Y5 at h;by_cases e:pl s y=pl s p
 ·rw [if_pos e] at h;have h:x ∈ ZY σ.be (pl s y) (σ.be (pl s y) ++ [⟨5,y,p,0,J9 s σ p⟩]) m:=h;by_cases c:m=pl s y
  ·subst c;rw [Zq] at h;rcases List.mem_append.1 h with h | h
   ·exact .inl h
   ·rw [List.mem_singleton.1 h];exact .inr ⟨rfl,rfl⟩
  ·rw [ZA c] at h;exact .inl h
 ·rw [if_neg e] at h;exact .inl h
theorem Zuu (hS:XO s) (hp:p < nn s):∀ (l:List Int) (σ:TS),(∀ x ∈ l,∃ k:Nat,x= (k:Int)∧k < nn s) ->(∀ (i j:Nat) (x:Zd),((Zu s p l σ).sn i)[j]? =some x ->(σ.sn i)[j]? =some x∨(x.kW=5∧x.kX= (p:Int)∧x.qX=J9 s σ p∧∃ w,w < mm s∧i=li s (pl s p) w∧w ≠ pl s p))∧
 ∀ (m:Nat) (x:Zd),x ∈ (Zu s p l σ).be m ->x ∈ σ.be m∨(x.kX= (p:Int)∧x.qX=J9 s σ p):=by
 intro l
 induction l with
 | nil=>intro σ _;exact⟨fun _ _ _ h=>.inl h,fun _ _ h=>.inl h⟩
 | cons z l ih=>
   intro σ hx;obtain⟨k,rfl,hk⟩:=hx z (by simp);obtain⟨h1,h2⟩:=ih (Y5 s k p σ) fun y hy=>hx y (by simp [hy])
   have em:J9 s (Y5 s k p σ) p=J9 s σ p:=by unfold J9;rw [(Zbj (s:=s) k p σ).2.2.1]
   refine⟨fun i j x h=>?_,fun m x h=>?_⟩
   ·have h:((Zu s p l (Y5 s ((k:Int)).toNat p σ)).sn i)[j]? =some x:=h;rw [Int.toNat_natCast] at h;rcases h1 i j x h with h | h
    ·exact Zzl hS hp hk h
    ·rw [em] at h;exact .inr h
   ·have h:x ∈ (Zu s p l (Y5 s ((k:Int)).toNat p σ)).be m:=h;rw [Int.toNat_natCast] at h;rcases h2 m x h with h | h
    ·exact ZCH h
    ·rw [em] at h;exact .inr h
theorem ZpK (hS:XO s) (hI:Zg7 s σ) (h:I5 s σ) (hw:w < mm s) (hpk:Qj s σ.ld w (σ.be w) (σ.be w).length=some i) (hy:y < nn s) (hyw:pl s y=w) (hr:r < nn s) (her:((σ.be w).getD i default).kX= (r:Int)) (hq:q < nn s) (hW:Wth s r q) (hne:q ≠ r):bb s σ y q=0:=by
 have kn:=hI.p2.kn;have hi:=W9 _ _ hpk;have hmem:=Xe (d:=default) hi;have hx:=h.u2 w hw _ hmem r her hr;have hrd:rdy s σ.ld w ((σ.be w).getD i default):=ZnO _ _ hpk;obtain⟨c,hc,hci,hWc⟩:=ZrB (hS:=hS) hq hW hne;have hc3:σ.st c=3:=Zc6 hS kn hI.ki hr hx.1 1 c hc (by rw [show(1:Nat)=0 + 1 from rfl,up1];exact hci)
 have hle:∀ i',i' < mm s * mm s ->σ.ma q i' <= ((σ.be w).getD i default).qX.getD i' 0:=fun i' hi'=>by
  obtain⟨m,em⟩:=hWc;have h1:=hI.J9.chain hS hI.ki kn hi' m q c hq hc hc3 em;have h2:= (hx.2 i' hi').2 c hc hci;omega
 have hno:∀ b,b < mm s ->b ≠ w ->σ.ma q (li s b w) <= (σ.ld (li s b w):Int):=fun b hb hbw=>Int.le_trans (hle _ (Ua hb hw)) (hrd b hb hbw)
 unfold bb;rw [hyw]
 have z1:kc 5 y q (σ.be w)=0:=by
  unfold kc;rw [List.countP_eq_zero];intro z hz hk;simp only [Ba0,beq_iff_eq] at hk;obtain⟨j,hj,hjz⟩:=List.getElem_of_mem hz;have hzq:=h.u2 w hw z hz q hk.2 hq;have hzr:rdy s σ.ld w z:=fun b hb hbw=>Int.le_trans ((hzq.2 _ (Ua hb hw)).1) (hno b hb hbw)
  have hgd:(σ.be w).getD j default=z:=by rw [UK hj];exact hjz
  have:= (ZwN (s:=s) (σ.be w).length).2 i hpk j hj (by rw [hgd];exact hzr);rw [hgd] at this;unfold Kb at this;rw [hk.2,her,Int.toNat_natCast,Int.toNat_natCast] at this;have:=ZIC hS hr hq hW hne;omega
 have z2:kc 5 y q (fl σ (li s (pl s q) w))=0:=by
  unfold kc;rw [List.countP_eq_zero];intro z hz hk;simp only [Ba0,beq_iff_eq] at hk;unfold fl at hz;obtain⟨j,hj,hjz⟩:=List.getElem_of_mem hz
  have hg:(σ.sn (li s (pl s q) w))[σ.ld (li s (pl s q) w) + j]? =some z:=by
   rw [List.getElem_drop] at hjz;rw [List.length_drop] at hj;rw [List.getElem?_eq_getElem (by omega),hjz]
  by_cases e:pl s q=w
  ·rw [e,hI.p1.self w hw] at hg;simp at hg
  ·have h1:=h.g1 q (pl s q) w _ hq (hS.pl hq).2 hw e ⟨z,hg,hk.1.1,hk.2⟩;have h2:=hno (pl s q) (hS.pl hq).2 e;omega
 omega
end
end
section
section
variable {s:Zb} {σ τ υ:TS} {F B a b p q w i j n d r p0 q0 y m:Nat} {x:Zd} {k:Int} {e:Zf}
theorem Zlh (p q:Nat) (n:Int) (σ:TS):∃ l:List Zf,(∀ e ∈ l,e.kZ ≠ 4)∧(see p q n σ).ev=σ.ev ++ l:=by
 unfold see;split
 ·exact⟨[⟨2,p,q,n⟩],fun e he=>by rw [List.mem_singleton.1 he];show ¬ (2:Int)=4;decide,rfl⟩
 ·exact⟨[],fun e he=>absurd he (by simp),(List.append_nil _).symm⟩
theorem ZnQ (hx:x.kW ≠ 2):∀ (i j:Nat) (y:Zd),((send s a b x σ).sn i)[j]? =some y ->y.kW=2 ->(σ.sn i)[j]? =some y:=fun i j y h hk=>by
 rcases Xj.1 h with h | ⟨_,_,rfl⟩
 ·exact h
 ·exact absurd hk hx
theorem I5.die (hS:XO s) (hI:Zg7 s σ) (h:I5 s σ) (hp:p < nn s) (hst:σ.st p=2) (hA:Alo s σ p):I5 s (Qm s p σ):=by
 have ac:Act s σ (Qm s p σ):= .die hp hst hA;have kn:=hI.p2.kn;have sA:=Qg (s:=s) p σ;have h3:∀ q,q < nn s ->σ.st q=3 ->(Qm s p σ).st q=3∧(Qm s p σ).ma q=σ.ma q:=fun q hq z=>⟨Zjh ac z,Zyr hS kn hI.ki hq z ac⟩
 obtain⟨bg,bb_⟩:=Zuu hS hp (σ.wa p) (Jm p σ) (hI.p1.ws p hp);have gA:∀ (i j:Nat) (x:Zd),((Z6 s p σ).sn i)[j]? =some x ->(σ.sn i)[j]? =some x∨(x.kW=5∧x.kX= (p:Int)∧x.qX=J9 s σ p∧∃ w,w < mm s∧i=li s (pl s p) w∧w ≠ pl s p):=fun i j x hx=>bg i j x hx
 have hsn:∀ (i j:Nat) (x:Zd),((Qm s p σ).sn i)[j]? =some x ->(x.kW=4)∨((Z6 s p σ).sn i)[j]? =some x:=fun i j x hx=>by
  unfold Qm at hx;split at hx
  ·exact .inr hx
  ·split at hx
   ·exact .inr hx
   ·rcases Xj.1 hx with hx | ⟨_,_,rfl⟩
    ·exact .inr hx
    ·exact .inl rfl
 have hbe:(Qm s p σ).be= (Z6 s p σ).be:=by
  unfold Qm;split
  ·rfl
  ·split <;> rfl
 have hev:(Qm s p σ).ev=σ.ev ++ [⟨6,(p:Int),0,0⟩]:=by
  rw [← sA.2.2.2.2.1];unfold Qm;split
  ·rfl
  ·split <;> rfl
 have hld:(Qm s p σ).ld=σ.ld:=by
  rw [← sA.2.2.1];unfold Qm;split
  ·rfl
  ·split <;> rfl
 have ZM0:(Qm s p σ).ma p= (Z6 s p σ).ma p:=by
  unfold Qm;split
  ·rfl
  ·rename_i h0;split
   ·show ZY (Z6 s p σ).ma (inn s (p:Int)).toNat _ p=_;rw [ZA];intro z;obtain⟨eq,_⟩:=QB hS hp h0;exact Zxl hS hp (by rw [eq,← z])
   ·rfl
 have maP:∀ i,(Z6 s p σ).ma p i=if i / mm s=pl s p∧i % mm s < mm s∧i % mm s ≠ pl s p then(((Z6 s p σ).sn i).length:Int) else σ.ma p i:=fun i=>by
  show ZY (Zu s p (σ.wa p) (Jm p σ)).ma p (ZbJ s (Zu s p (σ.wa p) (Jm p σ)) p (mm s)) p i=_;rw [Zq];unfold ZbJ;rw [(ZaG (s:=s) p (σ.wa p) (Jm p σ)).2.2.1];rfl
 have up:=SnM.Z6 (s:=s) (σ:=σ) p
 have ZGI:∀ i,i < mm s * mm s ->σ.ma p i <= (Qm s p σ).ma p i:=fun i hi=>by
  rw [ZM0,maP i];split
  ·exact Int.le_trans (hI.mb.ma p i hi) (Int.ofNat_le.2 (up i))
  ·exact Int.le_refl _
 have ZdJ:(Qm s p σ).st p=3:=by rw [ZmD,Zq]
 have ZDv:∀ x:Zd,x.kX= (p:Int) ->x.qX=J9 s σ p ->∀ q:Nat,x.kX= (q:Int) ->Up5 s (Qm s p σ) x q:=fun x ho hm q hq=>by
  have:p=q:=by omega
  subst this;refine⟨ZdJ,fun i hi=>?_⟩;rw [hm,Za2 hi];refine⟨ZGI i hi,fun c hc e=>?_⟩;have hkc:=hA c hc e;obtain⟨c',ec,_,_,hd⟩:=kn.rng p hp _ hkc;have:c=c':=by omega
  subst this;rw [(h3 c hc hd).2];exact hI.J9.m2 p c hp hc hkc i hi
 have ZBt:∀ q,σ.st q=3 ->p ≠ q:=fun q z e=>by subst e;rw [hst] at z;cases z
 refine⟨fun i j x hx hk=>?_,fun q b w j hq hb hw hne ⟨x,hx,hk,ho⟩=>?_,fun i j x hx hk q ho hq=>?_,fun m hm x hx q ho hq=>?_,fun e hm z y r ey er hy hr q hq hW hne=>?_,?_⟩
 ·rw [hld];rcases hsn i j x hx with z | z
  ·omega
  ·rcases gA i j x z with z | z
   ·exact h.na i j x z hk
   ·have:=z.1;omega
 ·rcases hsn _ j x hx with z | z
  ·omega
  ·rcases gA _ j x z with z' | ⟨_,ho',_,w',hw',ew,hwn⟩
   ·have h1:=h.g1 q b w j hq hb hw hne ⟨x,z',hk,ho⟩;rw [(h3 q hq (h.u1 _ _ x z' hk q ho hq).1).2];exact h1
   ·have:p=q:=by omega
    subst this;have hdm:=Zw2 (s:=s) (a:=pl s p) hw';rw [ZM0,maP,ew,if_pos ⟨hdm.1,by rw [hdm.2];exact hw',by rw [hdm.2];exact hwn⟩];have:= (Li0 z).1;rw [ew] at this;omega
 ·rcases hsn _ j x hx with z | z
  ·omega
  ·rcases gA _ j x z with z' | ⟨_,ho',hm,_⟩
   ·exact(h.u1 i j x z' hk q ho hq).keep hS kn hI.ki hq h3
   ·exact ZDv x ho' hm q ho
 ·rw [hbe] at hx;rcases bb_ m x hx with z | ⟨ho',hm'⟩
  ·exact(h.u2 m hm x z q ho hq).keep hS kn hI.ki hq h3
  ·exact ZDv x ho' hm' q ho
 ·rw [hev] at hm;rcases List.mem_append.1 hm with hm | hm
  ·have hq3:= (hI.be.hh e hm z y r ey er hy hr q hq hW).1;have h4:=h.g4 e hm z y r ey er hy hr q hq hW hne
   have hbA:bb s (Z6 s p σ) y q=bb s σ y q:=by
    have:= (ZoU (p:=y) (q:=q) hS hp hy hq (σ.wa p) (Jm p σ) hI.p2.ld (hI.p1.ws p hp)).1;rw [if_neg (ZBt q hq3)] at this;exact this
   have hbC:bb s (Qm s p σ) y q=bb s (Z6 s p σ) y q:=by
    unfold Qm;split
    ·rfl
    ·split
     ·rfl
     ·refine(Un.send ?_ (show(4:Int) ≠ 2 by decide) (show(4:Int) ≠ 5 by decide)).b y q;rw [sA.2.2.1];exact Nat.le_trans (hI.p2.ld _) (SnM.Z6 p _)
   rw [hbC,hbA];exact h4
  ·rw [List.mem_singleton.1 hm] at z;exact absurd z (by show ¬ (6:Int)=4;decide)
 ·rw [hev,List.pairwise_append];exact⟨h.g5,List.pairwise_singleton _ _,fun e _ e' he' _ z=>by rw [List.mem_singleton.1 he'] at z;exact absurd z (by show ¬ (6:Int)=4;decide)⟩
theorem I5.ring (hS:XO s) (hI:Zg7 s σ) (h:I5 s σ) (hw:w < mm s) (hpk:Qj s σ.ld w (σ.be w) (σ.be w).length=some i):I5 s (rung s w i σ):=by
 have kn:=hI.p2.kn;have e:=Qp s w i σ;have hi:i < (σ.be w).length:=W9 _ _ hpk;have hmem:=Xe (d:=default) hi;obtain⟨y,hpe,hy,hyw⟩:=hI.p3 w hw _ hmem;obtain⟨⟨_,⟨r,hre,hr⟩,_⟩,hk⟩:=hI.p1.bea w hw _ hmem;have h3:∀ q,q < nn s ->σ.st q=3 ->(rung s w i σ).st q=3∧(rung s w i σ).ma q=σ.ma q:=fun q hq z=>⟨by rw [e.2.2.1];exact z,by rw [e.2.2.2.2.1]⟩
 have hbe:∀ m,∀ x ∈ (rung s w i σ).be m,x ∈ σ.be m:=fun m x hx=>by
  rw [e.1] at hx;by_cases z:m=w
  ·subst z;rw [Zq] at hx;exact ZaE hx
  ·rwa [ZA z] at hx
 have eb:∀ p q,bb s (rung s w i σ) p q <=bb s σ p q:=fun p q=>by
  have hc:=Zqe (k:=5) (p:=p) (q:=q) hi;have hf:fl (rung s w i σ)=fl σ:=by unfold fl;rw [e.2.1,e.2.2.2.2.2.1]
  unfold bb;rw [hf,e.1];by_cases z:pl s p=w
  ·rw [z,Zq];omega
  ·rw [ZA z];exact Nat.le_refl _
 have hpos:0 < bb s σ y r:=by
  unfold bb;rw [hyw]
  have:0 < kc 5 y r (σ.be w):=by
   unfold kc;rw [List.countP_pos_iff];exact⟨_,hmem,by rw [hk,hpe,hre];simp⟩
  omega
 have ZM5:(rung s w i σ).ev=σ.ev∨(rung s w i σ).ev=σ.ev ++ [⟨4,((σ.be w).getD i default).kV,((σ.be w).getD i default).kX,0⟩]:=by
  unfold rung;split
  ·exact .inr rfl
  ·exact .inl rfl
 have ZLE:∀ e ∈ σ.ev,e.kZ=4 ->∀ y r:Nat,e.kV= (y:Int) ->e.kX= (r:Int) ->y < nn s ->r < nn s ->∀ q,q < nn s ->Wth s r q ->q ≠ r ->bb s (rung s w i σ) y q=0:=fun e hm z y r ey er hy hr q hq hW hne=>by
  have:=h.g4 e hm z y r ey er hy hr q hq hW hne;have:=eb y q;omega
 refine⟨fun i' j x hx hk=>by rw [e.2.2.2.2.2.1] at hx;rw [e.2.1];exact h.na i' j x hx hk,fun q b w' j hq hb hw' hne ⟨x,hx,hk,ho⟩=>?_,fun i' j x hx hk q ho hq=>?_,fun m hm x hx q ho hq=>(h.u2 m hm x (hbe m x hx) q ho hq).keep hS kn hI.ki hq h3,fun e' hm z y' r' ey er hy' hr' q hq hW hne=>?_,?_⟩
 ·rw [e.2.2.2.2.2.1] at hx;rw [e.2.2.2.2.1];exact h.g1 q b w' j hq hb hw' hne ⟨x,hx,hk,ho⟩
 ·rw [e.2.2.2.2.2.1] at hx;exact(h.u1 i' j x hx hk q ho hq).keep hS kn hI.ki hq h3
 ·rcases ZM5 with hv | hv
  ·rw [hv] at hm;exact ZLE e' hm z y' r' ey er hy' hr' q hq hW hne
  ·rw [hv] at hm;rcases List.mem_append.1 hm with hm | hm
   ·exact ZLE e' hm z y' r' ey er hy' hr' q hq hW hne
   ·rw [List.mem_singleton.1 hm] at ey er;have ey:((σ.be w).getD i default).kV= (y':Int):=ey;have er:((σ.be w).getD i default).kX= (r':Int):=er;have e1:y=y':=by omega
    have e2:r=r':=by omega
    subst e1 e2;have:=ZpK hS hI h hw hpk hy hyw hr hre hq hW hne;have:=eb y q;omega
 ·rcases ZM5 with hv | hv
  ·rw [hv];exact h.g5
  ·rw [hv,List.pairwise_append];refine⟨h.g5,List.pairwise_singleton _ _,fun e1 he1 e2 he2 d1 d2 hp' r' q' o1 o2 hr' hq' hW=>?_⟩;rw [List.mem_singleton.1 he2] at hp' o2;have hp':e1.kV= ((σ.be w).getD i default).kV:=hp';have o2:((σ.be w).getD i default).kX= (q':Int):=o2;have e2:r=q':=by omega
   subst e2;rcases Classical.em (r=r') with c | c
   ·exact c
   ·have:=h.g4 e1 he1 d1 y r' (by rw [hp',hpe]) o1 hy hr' r hr hW c;omega
theorem Wy {l:List Zf} (d:Int) (m:List Zf):ced d l <=ced d (l ++ m):=by unfold ced;rw [List.countP_append];omega
theorem I5.act (hS:XO s) (hI:Zg7 s σ) (h:I5 s σ) (ac:Act s σ τ) (hc:ced 3 τ.ev=ced 3 σ.ev):I5 s τ:=by
 have ac0:=ac;have hl0:=hI.p2.ld;have r0:∀ i,σ.ld i <=σ.ld i:=fun _=>Nat.le_refl _
 have b0:∀ m,m < mm s ->∀ x ∈ σ.be m,∀ q:Nat,x.kX= (q:Int) ->q < nn s ->Up5 s σ x q:=h.u2;have one':∀ e:Zf,e.kZ ≠ 4 ->∃ l,(∀ e ∈ l,e.kZ ≠ 4)∧σ.ev ++ [e]=σ.ev ++ l:=fun e he=>⟨[e],fun x hx=>by rw [List.mem_singleton.1 hx];exact he,rfl⟩
 have ev0:∃ l:List Zf,(∀ e ∈ l,e.kZ ≠ 4)∧σ.ev=σ.ev ++ l:= ⟨[],fun e he=>absurd he (by simp),(List.append_nil _).symm⟩
 cases ac with
 | @fall p hp hst=>exact h.keep hS hI ac0 (fun _ _ _ z _=>z) r0 (.refl' rfl) b0 (fun _ _ _ _=>Nat.le_refl _) (one' ⟨5,p,0,0⟩ (by show ¬ (5:Int)=4;decide))
 | UG=>exact h.keep hS hI ac0 (ZnQ (by show ¬ (3:Int)=2;decide)) r0 (.send (by show ¬ (3:Int)=5;decide)) b0 (fun y q _ _=>Nat.le_of_eq ((Un.send (hl0 _) (show(3:Int) ≠ 2 by decide) (show(3:Int) ≠ 5 by decide)).b y q)) ev0
 | @die p hp hst hA=>exact h.die hS hI hp hst hA
 | @ZaW p q hp hq hst e0=>
   have z:=X6 q p σ.sd (kK p q σ);have u:= ((Un.of (s:=s) (σ:=σ) (τ:= {σ with sd:=σ.sd + 1}) rfl rfl rfl rfl rfl).trans (Un.tell (σ:= {σ with sd:=σ.sd + 1}) 1 p q σ.sd (by decide) (by decide))).trans (Un.see q p σ.sd);refine h.keep hS hI ac0 (fun i j x hx _=>by rw [z.2.2.2.2.1] at hx;exact hx) (by rw [z.2.2.2.1];exact r0) (.refl' z.2.2.2.2.1) (by rw [z.2.2.2.2.2.1];exact b0) (fun y q' _ _=>Nat.le_of_eq (u.b y q')) ?_;obtain⟨l,hl,he⟩:=Zlh q p σ.sd (kK p q σ);refine⟨⟨1,p,q,σ.sd⟩::l,fun e he'=>?_,?_⟩
   ·rcases List.mem_cons.1 he' with w | w
    ·rw [w];show ¬ (1:Int)=4;decide
    ·exact hl e w
   ·rw [he];show(σ.ev ++ [_]) ++ l=_;simp
 | @ZaV p q hp hq hst e0=>
   have u:= ((Un.of (s:=s) (σ:=σ) (τ:= {σ with sd:=σ.sd + 1}) rfl rfl rfl rfl rfl).trans (Un.tell (σ:= {σ with sd:=σ.sd + 1}) 1 p q σ.sd (by decide) (by decide))).trans (Un.send (a:=pl s p) (b:=pl s q) (x:= ⟨1,p,q,σ.sd,[]⟩) (hl0 _) (show(1:Int) ≠ 2 by decide) (show(1:Int) ≠ 5 by decide));exact h.keep hS hI ac0 (fun i j x hx hk=>ZnQ (σ:=kK p q σ) (by show ¬ (1:Int)=2;decide) i j x hx hk) r0 (fun i j y hy=>(S5.send (σ:=kK p q σ) (by show ¬ (1:Int)=5;decide) i j y hy)) b0 (fun y q' _ _=>Nat.le_of_eq (u.b y q')) (one' ⟨1,p,q,σ.sd⟩ (by show ¬ (1:Int)=4;decide))
 | @ZaQ p q hp hq hst e0=>
   exfalso;rw [(Y8 (s:=s) p q (tell 3 p q 0 σ)).2.2.2.2.2] at hc;have hc:ced 3 (σ.ev ++ [⟨3,(p:Int),(q:Int),0⟩])=ced 3 σ.ev:=hc;rw [Zc8,QK rfl] at hc;omega
 | @ZaP p q hp hq hst e0=>
   exfalso;have hc:ced 3 (σ.ev ++ [⟨3,(p:Int),(q:Int),0⟩])=ced 3 σ.ev:=hc;rw [Zc8,QK rfl] at hc;omega
 | @Za5 a b p q ha hb hl hk hpe hqe hp hq=>
   have z:=X6 q p (hd σ (li s a b)).n (drop1 (li s a b) σ);have u:= (Un.drop (s:=s) hl (by omega) (by omega)).trans (Un.see q p (hd σ (li s a b)).n);exact h.keep hS hI ac0 (fun i j x hx _=>by rw [z.2.2.2.2.1] at hx;exact hx) (by rw [z.2.2.2.1];exact JC _) (.refl' z.2.2.2.2.1) (by rw [z.2.2.2.2.2.1];exact b0) (fun y q' _ _=>Nat.le_of_eq (u.b y q')) (Zlh q p _ (drop1 (li s a b) σ))
 | @Za8 a b p q ha hb hl hk=>
   exact absurd (h.na _ _ _ (ZfN hl) hk) (Nat.lt_irrefl _)
 | @Za6 a b p ha hb hl hk=>exact h.keep hS hI ac0 (fun _ _ _ z _=>z) (JC _) (.refl' rfl) b0 (fun y q' _ _=>Nat.le_of_eq ((Un.drop (s:=s) hl (by omega) (by omega)).b y q')) ev0
 | @Zah a b p ha hb hl hk=>exact h.keep hS hI ac0 (fun _ _ _ z _=>z) (JC _) (.refl' rfl) b0 (fun y q' _ _=>Nat.le_of_eq ((Un.drop (s:=s) hl (by omega) (by omega)).b y q')) ev0
 | @Za7 a b ha hb hl hk=>
   obtain⟨p0,hpe,hp0,_,c⟩:=hI.p1.lets a b ha hb _ (Zbb hl)
   obtain⟨q0,hqe,hq0,e1,e2⟩:∃ q0:Nat,(hd σ (li s a b)).kX= (q0:Int)∧q0 < nn s∧pl s p0=b∧pl s q0=a:=by
    rcases c with⟨k,_⟩ | ⟨k,_⟩ | ⟨k,_⟩ | ⟨k,_⟩ | ⟨k,e,_,q,h1,h2,h3⟩
    ·omega
    ·omega
    ·omega
    ·omega
    ·exact⟨q,h1,h2,e,h3⟩
   refine h.keep hS hI ac0 (fun _ _ _ z _=>z) (JC _) (.refl' rfl) (fun m hm x hx q ho hq=>?_) (fun y q _ _=>?_) ev0
   ·have hx:x ∈ ZY σ.be b (σ.be b ++ [hd σ (li s a b)]) m:=hx;by_cases e:m=b
    ·subst e;rw [Zq] at hx;rcases List.mem_append.1 hx with hx | hx
     ·exact b0 _ hm x hx q ho hq
     ·rw [List.mem_singleton.1 hx] at ho ⊢;exact h.u1 _ _ _ (ZfN hl) hk q ho hq
    ·rw [ZA e] at hx;exact b0 m hm x hx q ho hq
   ·have:=Za9 (k:=5) (p:=y) (q:=q) hl (li s (pl s q) (pl s y));rw [ZeU (d:=5) (p0:=p0) (q0:=q0) hk hpe hqe] at this;unfold bb;rw [this];show kc 5 y q (ZY σ.be b (σ.be b ++ [hd σ (li s a b)]) (pl s y)) + kc 5 y q (fl (drop1 (li s a b) σ) (li s (pl s q) (pl s y))) <=_;by_cases c:p0=y∧q0=q
    ·rw [if_pos (by rw [← c.1,← c.2,e1,e2]),show pl s y=b by rw [← c.1,e1],Zq,Zci,K6,ZfH,ZeU (d:=5) (p0:=p0) (q0:=q0) hk hpe hqe];omega
    ·rw [YL c]
     have:kc 5 y q (ZY σ.be b (σ.be b ++ [hd σ (li s a b)]) (pl s y))=kc 5 y q (σ.be (pl s y)):=by
      by_cases z:pl s y=b
      ·rw [z,Zq,Zci,K6,ZfH,ZeU (d:=5) (p0:=p0) (q0:=q0) hk hpe hqe,YL c];rfl
      ·rw [ZA z]
     rw [this];split <;> omega
 | @ring w i hw hpk=>exact h.ring hS hI hw hpk
theorem ZCT (ac:Act s σ τ):ced 3 σ.ev <=ced 3 τ.ev:=by
 have ZKN:∀ (ρ:TS) (p q:Nat) (n:Int),ced 3 ρ.ev <=ced 3 (see p q n ρ).ev:=fun ρ p q n=>by
  obtain⟨l,_,he⟩:=Zlh p q n ρ;rw [he];exact Wy _ _
 cases ac with
 | fall=>exact Wy _ _
 | UG=>exact Nat.le_refl _
 | @die p hp hst hA=>
   have sA:=Qg (s:=s) p σ;have:ced 3 σ.ev <=ced 3 (Z6 s p σ).ev:=by rw [sA.2.2.2.2.1];exact Wy _ _
   unfold Qm;split
   ·exact this
   ·split <;> exact this
 | @ZaW p q=>exact Nat.le_trans (Wy (l:=σ.ev) 3 [⟨1,p,q,σ.sd⟩]) (ZKN (kK p q σ) _ _ _)
 | @ZaV p q=>exact Wy (l:=σ.ev) 3 [⟨1,p,q,σ.sd⟩]
 | @ZaQ p q=>rw [(Y8 (s:=s) p q (tell 3 p q 0 σ)).2.2.2.2.2];exact Wy (l:=σ.ev) 3 [⟨3,p,q,0⟩]
 | @ZaP p q=>exact Wy (l:=σ.ev) 3 [⟨3,p,q,0⟩]
 | @Za5 a b p q=>exact ZKN (drop1 (li s a b) σ) _ _ _
 | @Za8 a b p q=>rw [(Y8 (s:=s) p q (drop1 (li s a b) σ)).2.2.2.2.2];exact Nat.le_refl _
 | Za6=>exact Nat.le_refl _
 | Zah=>exact Nat.le_refl _
 | Za7=>exact Nat.le_refl _
 | @ring w i=>
   unfold rung;split
   ·exact Wy (l:=σ.ev) 3 [⟨4,_,_,0⟩]
   ·exact Nat.le_refl _
theorem I5.acts (hS:XO s) (h0:QT s ts0 σ) (h:I5 s σ) (ac:QT s σ τ) (hc:ced 3 τ.ev=ced 3 σ.ev):I5 s τ:=
 (ac.keep (P:=fun τ=>QT s ts0 τ∧ced 3 σ.ev <=ced 3 τ.ev∧(ced 3 τ.ev=ced 3 σ.ev ->I5 s τ)) (fun ρ υ ⟨a,b,c⟩ ac=>by
   have hm:=ZCT ac;exact⟨.tail a ac,Nat.le_trans b hm,fun z=>(c (by omega)).act hS (Zn3 hS a) ac (by omega)⟩) ⟨h0,Nat.le_refl _,fun _=>h⟩).2.2 hc
end
end
section
noncomputable def U3 (s:Zb) (σ:TS) (y:Zx):TS:=ifc (Zbo s y σ) (stepW s y σ) σ
structure Calm (s:Zb) (σ:TS):Prop where
 st:∀ p,p < nn s ->σ.st p=1
 ld:∀ i,σ.ld i= (σ.sn i).length
 be:∀ m,σ.be m= []
 ev:∀ e ∈ σ.ev,e.kZ=3
 sn:∀ i,∀ x ∈ σ.sn i,x.kW=2
noncomputable def wst (s:Zb) (x:Yx):List Zx:=ifc (Pl s x.e0∧Pl s x.e1) (if(spt s x.e0.toNat).at_ ≠ (spt s x.e1.toNat).at_ then [⟨2,x.e0,x.e1⟩,⟨4,(spt s x.e0.toNat).at_,(spt s x.e1.toNat).at_⟩] else [⟨2,x.e0,x.e1⟩]) []
noncomputable def pre (s:Zb) (ws:List Yx):List Zx:=ws.flatMap (wst s)
def oth (l:List Zx):List Zx:=l.filter fun x=>x.act !=2
section
variable {s:Zb} {σ τ υ:TS} {F B a b p q w i j n d r p0 q0 y m k:Nat} {x:Zd} {e:Zf} {l:List Zx} {picks:List Int} {ws:List Yx}
theorem Ztw:∀ k,k <=l.length ->(Xf s l k).1= (l.take k).foldl (U3 s) ts0:=by
 intro k
 induction k with
 | zero=>intro _;rfl
 | succ k ih=>
   intro hk;rw [ZhH (show k < l.length by omega) default,List.foldl_append,← ih (by omega)];show _=U3 s (Xf s l k).1 (l.getD k default);unfold U3;rcases Classical.em (Zbo s (l.getD k default) (Xf s l k).1) with hA | hA
   ·rw [Xf,ZF hA,ZF hA]
   ·rw [Xf,ZE hA,ZE hA]
theorem Zfu (h:∀ m,σ.be m= []):∀ k,rings s k σ=σ:=by
 intro k
 induction k with
 | zero=>rfl
 | succ k ih=>
   rw [rings,ih];cases hn:(σ.be k).length with
   | zero=>rfl
   | succ n=>rw [h k] at hn;cases hn
theorem ZOU:Calm s ts0:= ⟨fun _ _=>rfl,fun _=>rfl,fun _=>rfl,fun e he=>(by cases he),fun i x hx=>(by cases hx)⟩
theorem Calm.watch (hS:XO s) (h:Calm s σ) (x:Yx):Calm s ((wst s x).foldl (U3 s) σ):=by
 unfold wst;by_cases c:Pl s x.e0∧Pl s x.e1
 ·rw [ZF c];obtain⟨⟨p,hp,hpn⟩,q,hq,Wj⟩:=c;have hpn:p < nn s:=hpn;have Wj:q < nn s:=Wj;rw [hp,hq];rw [Int.toNat_natCast,Int.toNat_natCast,(hS.pl hpn).1,(hS.pl Wj).1];have ZBt:∀ ρ:TS,ρ.st=σ.st ->ρ.st q ≠ 3:=fun ρ e=>by rw [e,h.st q Wj];decide
  have hA1:Zbo s ⟨2,(p:Int),(q:Int)⟩ σ:= .inr (.inl ⟨rfl,p,q,rfl,rfl,hpn,Wj,h.st p hpn⟩)
  have hev:∀ e ∈ σ.ev ++ [⟨3,(p:Int),(q:Int),0⟩],e.kZ=3:=fun e he=>by
   rcases List.mem_append.1 he with he | he
   ·exact h.ev e he
   ·rw [List.mem_singleton.1 he]
  by_cases e:pl s p=pl s q
  ·rw [if_neg (by rw [e];exact fun z=>z rfl)];show Calm s (U3 s σ ⟨2,(p:Int),(q:Int)⟩);unfold U3;rw [ZF hA1]
   have hc:WN s ⟨2,(p:Int),(q:Int)⟩ σ=note s p q (tell 3 p q 0 σ):=by
    unfold WN;rw [if_neg (by show ¬ (2:Int)=1;decide),if_pos rfl,Int.toNat_natCast,Int.toNat_natCast,if_pos e]
   have hn:note s p q (tell 3 p q 0 σ)= {tell 3 p q 0 σ with wa:=ZY σ.wa q (σ.wa q ++ [(p:Int)])}:=by
    unfold note;rw [if_neg (ZBt (tell 3 p q 0 σ) rfl)];rfl
   unfold stepW;rw [hc,hn,Zfu (σ:= {tell 3 p q 0 σ with wa:=ZY σ.wa q (σ.wa q ++ [(p:Int)])}) h.be];exact⟨h.st,h.ld,h.be,hev,h.sn⟩
  ·rw [if_pos (fun z=>e (by omega))];show Calm s (U3 s (U3 s σ ⟨2,(p:Int),(q:Int)⟩) ⟨4,(pl s p:Int),(pl s q:Int)⟩);have ha:= (hS.pl hpn).2;have hb:= (hS.pl Wj).2;obtain⟨ρ,hρ⟩:∃ ρ,ρ=send s (pl s p) (pl s q) ⟨2,(p:Int),(q:Int),0,[]⟩ (tell 3 p q 0 σ):= ⟨_,rfl⟩
   have h1:U3 s σ ⟨2,(p:Int),(q:Int)⟩=ρ:=by
    unfold U3;rw [ZF hA1]
    have hc:WN s ⟨2,(p:Int),(q:Int)⟩ σ=ρ:=by
     unfold WN;rw [if_neg (by show ¬ (2:Int)=1;decide),if_pos rfl,Int.toNat_natCast,Int.toNat_natCast,if_neg e,hρ]
    unfold stepW;rw [hc,Zfu (by rw [hρ];exact h.be)]
   rw [h1];have hsn:ρ.sn (li s (pl s p) (pl s q))=σ.sn (li s (pl s p) (pl s q)) ++ [⟨2,(p:Int),(q:Int),0,[]⟩]:=by rw [hρ];exact ZaU _
   have hld:ρ.ld=σ.ld:=by rw [hρ];rfl
   have hl:ρ.ld (li s (pl s p) (pl s q)) < (ρ.sn (li s (pl s p) (pl s q))).length:=by
    rw [hsn,hld,h.ld,List.length_append,List.length_singleton];omega
   have hh:hd ρ (li s (pl s p) (pl s q))= ⟨2,(p:Int),(q:Int),0,[]⟩:=by
    unfold hd;rw [hsn,hld,h.ld,List.getD_eq_getElem?_getD,List.getElem?_append_right (Nat.le_refl _),Nat.sub_self];rfl
   have hA2:Zbo s ⟨4,(pl s p:Int),(pl s q:Int)⟩ ρ:= .inr (.inr (.inr ⟨rfl,_,_,rfl,rfl,ha,hb,hl⟩));unfold U3;rw [ZF hA2];have hst:ρ.st=σ.st:=by rw [hρ];rfl
   have hc:WN s ⟨4,(pl s p:Int),(pl s q:Int)⟩ ρ= {drop1 (li s (pl s p) (pl s q)) ρ with wa:=ZY ρ.wa q (ρ.wa q ++ [(p:Int)])}:=by
    unfold WN;rw [if_neg (by show ¬ (4:Int)=1;decide),if_neg (by show ¬ (4:Int)=2;decide),if_neg (by show ¬ (4:Int)=3;decide),Int.toNat_natCast,Int.toNat_natCast];unfold Zch Zeu;rw [hh,if_neg (by show ¬ (2:Int)=1;decide),if_pos rfl];show note s ((p:Int)).toNat ((q:Int)).toNat _=_;rw [Int.toNat_natCast,Int.toNat_natCast];unfold note;rw [if_neg (ZBt (drop1 _ ρ) hst)];rfl
   have hbe:∀ m,ρ.be m= []:=by rw [hρ];exact h.be
   unfold stepW;rw [hc,Zfu (σ:= {drop1 (li s (pl s p) (pl s q)) ρ with wa:=ZY ρ.wa q (ρ.wa q ++ [(p:Int)])}) hbe];refine⟨fun r hr=>by show ρ.st r=1;rw [hst];exact h.st r hr,fun i=>?_,hbe,fun e he=>hev e (by rw [hρ] at he;exact he),fun i x hx=>?_⟩
   ·show ZY ρ.ld (li s (pl s p) (pl s q)) (ρ.ld (li s (pl s p) (pl s q)) + 1) i= (ρ.sn i).length;by_cases z:i=li s (pl s p) (pl s q)
    ·rw [z,Zq,hsn,hld,h.ld,List.length_append,List.length_singleton]
    ·rw [ZA z,hld,h.ld,hρ];show _= ((send s _ _ _ (tell 3 p q 0 σ)).sn i).length;rw [Jj z];rfl
   ·have hx:x ∈ ρ.sn i:=hx;by_cases z:i=li s (pl s p) (pl s q)
    ·rw [z,hsn] at hx;rcases List.mem_append.1 hx with hx | hx
     ·exact h.sn _ x hx
     ·rw [List.mem_singleton.1 hx]
    ·rw [hρ,Jj z] at hx;exact h.sn i x hx
 ·rw [ZE c];exact h
theorem Zy9 (hS:XO s):∀ (ws:List Yx) (σ:TS),Calm s σ ->Calm s ((pre s ws).foldl (U3 s) σ):=by
 intro ws
 induction ws with
 | nil=>intro σ h;exact h
 | cons x ws ih=>
   intro σ h;show Calm s ((wst s x ++ pre s ws).foldl (U3 s) σ);rw [List.foldl_append];exact ih _ (h.watch hS x)
theorem Calm.i5 (h:Calm s σ):I5 s σ:=by
 have no4:∀ e ∈ σ.ev,e.kZ ≠ 4:=fun e he z=>by have:=h.ev e he;omega
 have no5:∀ (i j:Nat) (x:Zd),(σ.sn i)[j]? =some x ->x.kW ≠ 5:=fun i j x hx z=>by have:=h.sn i x (List.mem_of_getElem? hx);omega
 refine⟨fun i j x hx _=>?_,fun q b w j _ _ _ _ ⟨x,hx,hk,_⟩=>absurd hk (no5 _ _ x hx),fun i j x hx hk=>absurd hk (no5 _ _ x hx),fun m _ x hx=>?_,fun e he z=>absurd z (no4 e he),?_⟩
 ·rw [h.ld];exact(Li0 hx).1
 ·rw [h.be] at hx;cases hx
 ·exact List.pairwise_iff_getElem.2 fun i j hi hj _ z=>absurd z (no4 _ (List.getElem_mem hi))
theorem ZIt (hS:XO s) (hac:QT s ts0 (U8 s (pre s ws ++ oth l) picks n)):I5 s (U8 s (pre s ws ++ oth l) picks n):=by
 have hlen:(pre s ws).length <= (pre s ws ++ oth l).length:=by rw [List.length_append];omega
 have hc:Calm s (Xf s (pre s ws ++ oth l) (pre s ws).length).1:=by
  rw [Ztw _ hlen,List.take_left']
  ·exact Zy9 hS ws ts0 ZOU
  ·rfl
 obtain⟨ok,_,ac1⟩:=ZcP (l:=pre s ws ++ oth l) hS (pre s ws).length;obtain⟨ok2,_,ac2⟩:=ZcP (l:=pre s ws ++ oth l) hS (pre s ws ++ oth l).length;have aP:=Ztx (l:=pre s ws ++ oth l) hS (pre s ws).length;have aD:= (Zjd (picks:=picks) hS ok2 n).2
 have ZRW:∀ m,(pre s ws).length + m <= (pre s ws ++ oth l).length ->ced 3 (Xf s (pre s ws ++ oth l) ((pre s ws).length + m)).1.ev=ced 3 (Xf s (pre s ws ++ oth l) (pre s ws).length).1.ev:=by
  intro m
  induction m with
  | zero=>intro _;rfl
  | succ m ih=>
    intro hm
    have hg:((pre s ws ++ oth l).getD ((pre s ws).length + m) default).act ≠ 2:=by
     rw [List.getD_eq_getElem?_getD,List.getElem?_append_right (by omega),Nat.add_sub_cancel_left,← List.getD_eq_getElem?_getD];rw [List.length_append] at hm;have:(oth l).getD m default ∈ oth l:=Xe (by omega);have:= (List.mem_filter.1 this).2
     simpa using this
    rw [← ih (by omega),show(pre s ws).length + (m + 1)= ((pre s ws).length + m) + 1 by omega,Xf];rcases Classical.em (Zbo s ((pre s ws ++ oth l).getD ((pre s ws).length + m) default) (Xf s (pre s ws ++ oth l) ((pre s ws).length + m)).1) with hA | hA
    ·rw [ZF hA];show ced 3 (stepW s _ _).ev=_;rw [ZvJ.2,YL hg];rfl
    ·rw [ZE hA]
 have e1:=ZRW ((oth l).length) (by rw [List.length_append];omega);have aP:=aP (oth l).length;rw [← List.length_append] at e1 aP;refine hc.i5.acts hS ac1 (aP.trans aD) ?_;rw [← e1];have hcs:Cs (Xf s (pre s ws ++ oth l) (pre s ws ++ oth l).length).1 (U8 s (pre s ws ++ oth l) picks n):=ZIz n;rw [← Zc7 (.inr rfl),hcs,Zc7 (.inr rfl)]
def hrd (L:List Zf):Nat ->List (Yx×Int)
 | 0=>[]
 | k + 1=>if(L.getD k default).kZ=4 then ZgV (hrd L k) ⟨(L.getD k default).kV,(L.getD k default).kX⟩ (k:Int) else hrd L k
theorem Zso (L:List Zf) (K:Yx):∀ k,(∀ v,ZbK (hrd L k) K=some v ->∃ i:Nat,v= (i:Int)∧i < k∧(L.getD i default).kZ=4∧Yx.mk (L.getD i default).kV (L.getD i default).kX=K)∧(ZbK (hrd L k) K=none ->∀ i,i < k ->(L.getD i default).kZ=4 ->Yx.mk (L.getD i default).kV (L.getD i default).kX ≠ K):=by
 intro k
 induction k with
 | zero=>exact⟨fun v h=>(by cases h),fun _ i hi=>(by omega)⟩
 | succ k ih=>
   obtain⟨h1,h2⟩:=ih;rw [hrd];by_cases c:(L.getD k default).kZ=4
   ·rw [if_pos c,ZtE];by_cases z:K= ⟨(L.getD k default).kV,(L.getD k default).kX⟩
    ·rw [if_pos z];exact⟨fun v h=>⟨k,(by cases h;rfl),by omega,c,z.symm⟩,fun h=>(by cases h)⟩
    ·rw [if_neg z];refine⟨fun v h=>?_,fun h i hi d=>?_⟩
     ·obtain⟨i,a1,a2,a3⟩:=h1 v h;exact⟨i,a1,by omega,a3⟩
     ·by_cases w:i=k
      ·rw [w];exact fun q=>z q.symm
      ·exact h2 h i (by omega) d
   ·rw [if_neg c];refine⟨fun v h=>?_,fun h i hi d=>?_⟩
    ·obtain⟨i,a1,a2,a3⟩:=h1 v h;exact⟨i,a1,by omega,a3⟩
    ·by_cases w:i=k
     ·rw [w] at d;exact absurd d c
     ·exact h2 h i (by omega) d
theorem Zn4 (hF:1000000 <=F) (hS:XO s) (hI:Zg7 s σ) (h5:I5 s σ) (hev:σ.ev.length <=9000) (hb:∀ p q,p < nn s ->q < nn s ->σ.st p=1 ->σ.st q=3 ->c3 σ.ev 4 p q=c3 σ.ev 3 p q) (n:Nat):
 loop F (Zi5 F s (vw s σ,σ.ev,(n:Int),true) (hrd σ.ev σ.ev.length)) 0=some true:=by
 have h8:nn s <=8:=hS.p2;refine Y9 (fun k=>(k:Int)) rfl (n:=nn s) (by omega) (fun p hp next=>?_) (fun next=>?_)
 ·unfold Zi5;rw [show((s.Ze.length:Nat):Int)= ((nn s:Nat):Int) from rfl,YN hp,Cq1];refine Y9 (fun k=>(k:Int)) rfl (n:=nn s) (by omega) (fun q hq nx=>?_) (fun nx=>?_)
  ·unfold Zms;rw [show((s.Ze.length:Nat):Int)= ((nn s:Nat):Int) from rfl,YN hq,Cq1];unfold ZnP;simp only [Bq0];refine Y9 (fun k=>(k:Int)) rfl (n:=nn s) (by omega) (fun r hr nx3=>?_) (fun nx3=>?_)
   ·unfold Zmr;dsimp only;rw [show((s.Ze.length:Nat):Int)= ((nn s:Nat):Int) from rfl,YN hr,Cq1];unfold ZnP;simp only [Bq0];rw [Qw (by omega),lies (by omega) hS hr q];obtain⟨q1,q2⟩:=Zso σ.ev ⟨(p:Int),(q:Int)⟩ σ.ev.length;obtain⟨r1,r2⟩:=Zso σ.ev ⟨(p:Int),(r:Int)⟩ σ.ev.length;cases hmq:ZbK (hrd σ.ev σ.ev.length) ⟨(p:Int),(q:Int)⟩ with
    | none=>rfl
    | some vi=>
      obtain⟨i,ei,hi,di,ki⟩:=q1 vi hmq;have ki1:(σ.ev.getD i default).kV= (p:Int):=by injection ki
      have ki2:(σ.ev.getD i default).kX= (q:Int):=by injection ki
      cases hmr:ZbK (hrd σ.ev σ.ev.length) ⟨(p:Int),(r:Int)⟩ with
      | some vk=>
        obtain⟨k,ek,hk,dk,kk⟩:=r1 vk hmr;have kk1:(σ.ev.getD k default).kV= (p:Int):=by injection kk
        have kk2:(σ.ev.getD k default).kX= (r:Int):=by injection kk
        simp only [Option.getD_some,Option.isSome_some,Bool.true_and,Bool.not_true,Bool.false_and,UL,Bq0,Cq0]
        have key:((((r:Int)) != ((q:Int))) && (Zlb s q r) && decide (vk > vi))=false:=by
         by_cases c:r=q
         ·subst c;simp
         ·by_cases c2:Wth s q r
          ·rcases Nat.lt_or_ge i k with z | z
           ·exfalso;have:=List.pairwise_iff_getElem.1 h5.g5 i k hi hk z;rw [← UK (d:=default) hi,← UK (d:=default) hk] at this;exact c (this di dk (by rw [ki1,kk1]) q r ki2 kk2 hq hr c2)
           ·rw [ei,ek,decide_eq_false (by omega)];simp
          ·rw [Bool.eq_false_iff.2 (fun w=>c2 ((ZbU hS.inn hr).1 w))];simp
        cases hc:(((r:Int)) != ((q:Int))) with
        | false=>rfl
        | true=>
          rw [hc] at key;simp only [QO,Bq0,Bool.true_and] at key ⊢;rw [key];rfl
      | none=>
        simp only [Option.getD_some,Option.getD_none,Option.isSome_some,Option.isSome_none,Bool.true_and,Bool.and_false,Bool.false_and,UL,Bq0,Cq0,Bool.not_false,QO];cases hw:Zlb s q r with
        | false=>rfl
        | true=>
          simp only [Bool.true_and,QO];rw [show(vw s σ).qV=tab (nn s) σ.st from rfl,Yu hp];simp only [Bq0];by_cases c1:σ.st p=1
          ·rw [c1];simp only [beq_self_eq_true,QO,Bool.true_and];rw [ZuC (by omega) hev];simp only [Bq0];have hr3:σ.st r=3:= (hI.be.hh _ (Xe (d:=default) hi) di p q ki1 ki2 hp hq r hr ((ZbU hS.inn hr).1 hw)).1
           have h0:c3 σ.ev 4 p r=0:=by
            unfold c3;rw [List.countP_eq_zero];intro e he z;simp only [Ba0,beq_iff_eq] at z;obtain⟨j,hj,hje⟩:=List.getElem_of_mem he;have hg:σ.ev.getD j default=e:=by rw [UK hj];exact hje
            exact r2 hmr j hj (by rw [hg];exact z.1.1) (by rw [hg,z.1.2,z.2])
           have:=hb p r hp hr c1 hr3;rw [h0] at this;rw [← this,decide_eq_false (by decide),Cq0]
          ·rw [beq_eq_false_iff_ne.2 c1];rfl
   ·unfold Zmr;dsimp only;rw [show((s.Ze.length:Nat):Int)= ((nn s:Nat):Int) from rfl,Y1,Cq0,Qw (by omega)]
  ·unfold Zms;rw [show((s.Ze.length:Nat):Int)= ((nn s:Nat):Int) from rfl,Y1,Cq0,Qw (by omega)]
 ·unfold Zi5;rw [show((s.Ze.length:Nat):Int)= ((nn s:Nat):Int) from rfl,Y1,Cq0];rfl
theorem ZAp (x:Yx):(wst s x).length <=2:=by
 unfold wst;by_cases c:Pl s x.e0∧Pl s x.e1
 ·rw [ZF c];split <;> simp
 ·rw [ZE c];simp
theorem Zr2:∀ ws:List Yx,(pre s ws).length <=2 * ws.length:=by
 intro ws
 induction ws with
 | nil=>simp [pre]
 | cons x ws ih=>
   have:pre s (x::ws)=wst s x ++ pre s ws:=rfl;rw [this,List.length_append,List.length_cons];have:=ZAp (s:=s) x;omega
theorem ZAT (ws:List Yx) (x:Yx):pre s (ws ++ [x])=pre s ws ++ wst s x:=by
 unfold pre;rw [List.flatMap_append];simp
end
theorem Zjx (s:Zb) (ws:List Yx) (l:List Zx) (picks:List Int) (hpl:picks.length <=9223372036854775807):ZyY (1000000 + picks.length) s ws l picks=some true:=by
 obtain⟨F,eF⟩:∃ F,F=1000000 + picks.length:= ⟨_,rfl⟩
 have hF:1000000 <=F:=by omega
 rw [← eF];unfold ZyY ZB0;simp only [Bq0];cases h30:decide ((s.Ze.length:Int) <=30) with
 | false=>rfl
 | true=>
 simp only [Bool.not_true,Bool.not_false,QO,Bool.false_or];rw [Ztl (by omega)];rcases Classical.em (XO s) with hS | hS
 case inr=>rw [ZE hS];rfl
 rw [ZF hS];simp only [Bq0,Bool.not_true,Bool.not_false,QO,Bool.false_or];rw [Ztz (by omega) hpl];rcases Classical.em ((∀ x ∈ picks,0 <=x)∧picks.length <=100) with hp | hp
 case inr=>rw [ZE hp];rfl
 rw [ZF hp];simp only [Bq0,Bool.not_true,Bool.false_or];by_cases hw:(ws.length:Int) > 20
 ·rw [decide_eq_true hw];rfl
 by_cases hl:(l.length:Int) > 60
 ·rw [decide_eq_true hl,Bool.or_true];rfl
 rw [decide_eq_false hw,decide_eq_false hl];simp only [Bool.or_self,Cq0];have hlw:ws.length <=20:=by omega
 have hll:l.length <=60:=by omega
 have hpre:=Zr2 (s:=s) ws;refine Y9 (fun k=>(pre s (ws.take k),(k:Int))) rfl (n:=ws.length) (by omega) (fun k hk next=>?_) (fun next=>?_)
 ·have hpk:=Zr2 (s:=s) (ws.take k);rw [List.length_take] at hpk;have fin:∀ L,ZdQ (k:Int) next L=next (L,((k + 1:Nat):Int)):=fun L=>by unfold ZdQ;rw [Qw (by omega)]
  unfold Zmv;dsimp only;rw [YN hk,Cq1,Qr default hk,ZhH hk default,ZAT];simp only [Bq0];generalize ws.getD k default=x;have e0:Zf1 s x.e0=ifc (Pl s x.e0) (some true) (some false):=by unfold Zf1;exact ZDq s x.e0
  have e1:Zf1 s x.e1=ifc (Pl s x.e1) (some true) (some false):=by unfold Zf1;exact ZDq s x.e1
  rw [e0,e1];unfold wst;by_cases c0:Pl s x.e0
  ·by_cases c1:Pl s x.e1
   ·rw [ZF c0,ZF c1,ZF ⟨c0,c1⟩];simp only [Bq0,Bool.not_true,Bool.not_false,QO,Bool.or_self,Cq0];rw [Zgo (by simp;omega) (by decide)];simp only [Bq0];obtain⟨p,hp,p2⟩:=c0;obtain⟨q,hq,q2⟩:=c1;rw [hp,hq,Int.toNat_natCast,Int.toNat_natCast,Xi p2,Xi q2];simp only [Bq0];rw [Zbi];by_cases c:(spt s p).at_ ≠ (spt s q).at_
    ·rw [decide_eq_true c,Cq1,if_pos c,Zgo (by simp;omega) (by decide)];simp only [Bq0];rw [fin,List.append_assoc];rfl
    ·rw [decide_eq_false c,Cq0,if_neg c];exact fin _
   ·rw [ZF c0,ZE c1,ZE (c:=Pl s x.e0∧Pl s x.e1) (fun z=>c1 z.2)];simp only [Bq0,Bool.not_true,Bool.not_false,QO,Bool.or_true,Cq1,List.append_nil];exact fin _
  ·rw [ZE c0,ZE (c:=Pl s x.e0∧Pl s x.e1) (fun z=>c0 z.1)];simp only [Bq0,Bool.not_true,Bool.not_false,UL,Bool.true_or,Cq1,List.append_nil];exact fin _
 ·unfold Zmv;dsimp only;rw [Y1,Cq0,List.take_length];refine Y9 (fun k=>(pre s ws ++ oth (l.take k),(k:Int))) (by show(pre s ws ++ [],((0:Nat):Int))=_;rw [List.append_nil];rfl) (n:=l.length) (by omega) (fun k hk nx=>?_) (fun nx=>?_)
  ·have fin:∀ L,Zf6 (k:Int) nx L=nx (L,((k + 1:Nat):Int)):=fun L=>by unfold Zf6;rw [Qw (by omega)]
   have hok:(oth (l.take k)).length <=k:=by
    have:=List.length_filter_le (fun x:Zx=>x.act !=2) (l.take k);rw [List.length_take] at this;unfold oth;omega
   unfold Zmu;dsimp only;rw [YN hk,Cq1,Qr default hk,ZhH hk default];simp only [Bq0]
   have eo:oth (l.take k ++ [l.getD k default])=oth (l.take k) ++ (if((l.getD k default).act !=2)=true then [l.getD k default] else []):=by
    unfold oth;rw [List.filter_append,List.filter_cons,List.filter_nil]
   rw [eo];cases c:((l.getD k default).act !=2) with
   | true=>
     rw [Cq1,if_pos rfl,Zgo (by simp;omega) (by decide)];simp only [Bq0];rw [fin,List.append_assoc]
   | false=>
     rw [Cq0,if_neg (by decide),List.append_nil];exact fin _
  ·unfold Zmu;dsimp only;rw [Y1,Cq0,List.take_length];have hol:(oth l).length <=l.length:=List.length_filter_le _ _;have hG:Giv s (pre s ws ++ oth l) picks:= ⟨hS,by rw [List.length_append];omega,hp.1,hp.2⟩
   obtain⟨n,hn,he,ok,ac,ac2,e2,hdr⟩:=ZqR hF hG;have h5:=ZIt hS ac;rw [hdr];simp only [Bq0,Bool.not_true,Bool.false_or];rw [decide_eq_false (by omega),Cq0];obtain⟨σ,hσ⟩:∃ σ,σ=U8 s (pre s ws ++ oth l) picks n:= ⟨_,rfl⟩
   have ZRL:NoR s σ:=by rw [hσ];exact ZCk (ZwK _) _
   rw [← hσ] at he ok ac ac2 e2 h5 ⊢;obtain⟨hB,hM⟩:=ZzB hS ac;have hev:σ.ev.length <=9000:=by have:=ok.gd.wf.pot;unfold Pot at this;omega
   refine Y9 (fun k=>((k:Int),hrd σ.ev k)) rfl (n:=σ.ev.length) (by omega) (fun k hk nx2=>?_) (fun nx2=>?_)
   ·have fin:∀ m',Zf5 (k:Int) nx2 m'=nx2 (((k + 1:Nat):Int),m'):=fun m'=>by unfold Zf5;rw [Qw (by omega)]
    unfold Zmt;dsimp only;rw [YN hk,Cq1,Qr default hk];simp only [Bq0];rw [hrd,Xa];by_cases c:(σ.ev.getD k default).kZ=4
    ·rw [decide_eq_true c,Cq1,if_pos c];exact fin _
    ·rw [decide_eq_false c,Cq0,if_neg c];exact fin _
   ·unfold Zmt;dsimp only;rw [Y1,Cq0];refine Zn4 hF hS (Zn3 hS ac) h5 hev (fun p q hp hq h1 h3=>?_) n;exact(Zv4 hS ok.p2 hM ZRL he hB hp hq).2.2 h1 h3
end
end Go.Proofs.YtcnahmgekicbdaaGreat
end
