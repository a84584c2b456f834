/- Part 15. -/
import Derived.Test.YtcnahmgekicbdaaGreatIa14
set_option linter.all false
set_option maxHeartbeats 2000000
section
namespace Go.Proofs.YtcnahmgekicbdaaGreat
open Go.Lf
section
structure EvS (s:Zb) (σ:TS):Prop where
 rg:∀ p,p < nn s ->σ.st p=1∨σ.st p=2∨σ.st p=3
 e5:∀ p,p < nn s ->c3 σ.ev 5 p 0=one (σ.st p ≠ 1)
 e6:∀ p,p < nn s ->c3 σ.ev 6 p 0=one (σ.st p=3)
 z5:∀ e ∈ σ.ev,e.kZ=5∨e.kZ=6 ->e.kX=0
section
variable {s:Zb} {σ τ υ:TS} {F B a b p q w i j n d r p0 q0:Nat} {x:Zd} {k:Int} {l:List ZE} {picks:List Int} {e:Zg}
theorem EvS.congr (h:EvS s σ) (h1:τ.st=σ.st) (h2:τ.ev=σ.ev):EvS s τ:= ⟨by rw [h1];exact h.rg,by rw [h1,h2];exact h.e5,by rw [h1,h2];exact h.e6,by rw [h2];exact h.z5⟩
theorem EvS.add (h:EvS s σ) (h1:τ.st=σ.st) (h2:τ.ev=σ.ev ++ [e]) (d5:e.kZ ≠ 5) (d6:e.kZ ≠ 6):EvS s τ:=by
 refine⟨by rw [h1];exact h.rg,fun p hp=>?_,fun p hp=>?_,fun y hy z=>?_⟩
 ·rw [h1,h2,ZbJ,Z4 (fun z=>d5 z.1)];exact h.e5 p hp
 ·rw [h1,h2,ZbJ,Z4 (fun z=>d6 z.1)];exact h.e6 p hp
 ·rw [h2] at hy;rcases List.mem_append.1 hy with hy | hy
  ·exact h.z5 y hy z
  ·rw [List.mem_singleton.1 hy] at z;rcases z with z | z
   ·exact absurd z d5
   ·exact absurd z d6
theorem EvS.see (h:EvS s σ) (p q:Nat) (n:Int):EvS s (Proofs.YtcnahmgekicbdaaGreat.see p q n σ):=by
 unfold Proofs.YtcnahmgekicbdaaGreat.see;split
 ·exact h.add (e:= ⟨2,p,q,n⟩) rfl rfl (by show(2:Int) ≠ 5;decide) (by show(2:Int) ≠ 6;decide)
 ·exact h
theorem EvS.act (h:EvS s σ) (ac:Act s σ τ):EvS s τ:=by
 cases ac with
 | @fall p0 hp0 hst=>
   have ev:(YD p0 σ).ev=σ.ev ++ [⟨5,(p0:Int),0,0⟩]:=rfl;have st:(YD p0 σ).st=ZT σ.st p0 2:=rfl;refine⟨fun p hp=>?_,fun p hp=>?_,fun p hp=>?_,fun y hy z=>?_⟩
   ·rw [st];by_cases c:p=p0
    ·subst c;rw [Zq];exact .inr (.inl rfl)
    ·rw [ZA c];exact h.rg p hp
   ·rw [ev,st,ZbJ,h.e5 p hp];by_cases c:p=p0
    ·subst c;rw [Zq,Z4 (fun z=>z hst),Xa ⟨rfl,rfl,rfl⟩,Xa (by decide)]
    ·rw [ZA c,Z4 (c:= (5:Int)=5∧(p0:Int)=p∧(0:Int)=0) (fun z=>c (by have:=z.2.1;omega))];rfl
   ·rw [ev,st,ZbJ,h.e6 p hp,Z4 (c:= (5:Int)=6∧(p0:Int)=p∧(0:Int)=0) (fun z=>by have:=z.1;omega)];by_cases c:p=p0
    ·subst c;rw [Zq,Z4 (by rw [hst];decide),Z4 (by decide)]
    ·rw [ZA c];rfl
   ·rw [ev] at hy;rcases List.mem_append.1 hy with hy | hy
    ·exact h.z5 y hy z
    ·rw [List.mem_singleton.1 hy]
 | J7=>exact h.congr rfl rfl
 | @die p0 hp0 hst hA=>
   have sA:=X7 (s:=s) p0 σ
   have hA:EvS s (ZF s p0 σ):=by
    refine⟨fun p hp=>?_,fun p hp=>?_,fun p hp=>?_,fun y hy z=>?_⟩
    ·rw [sA.1];by_cases c:p=p0
     ·subst c;rw [Zq];exact .inr (.inr rfl)
     ·rw [ZA c];exact h.rg p hp
    ·rw [sA.2.2.2.2.1,sA.1,ZbJ,h.e5 p hp,Z4 (c:= (6:Int)=5∧(p0:Int)=p∧(0:Int)=0) (fun z=>by have:=z.1;omega)];by_cases c:p=p0
     ·subst c;rw [Zq,Xa (by rw [hst];decide),Xa (by decide)]
     ·rw [ZA c];rfl
    ·rw [sA.2.2.2.2.1,sA.1,ZbJ,h.e6 p hp];by_cases c:p=p0
     ·subst c;rw [Zq,Z4 (by rw [hst];decide),Xa ⟨rfl,rfl,rfl⟩,Xa rfl]
     ·rw [ZA c,Z4 (c:= (6:Int)=6∧(p0:Int)=p∧(0:Int)=0) (fun z=>c (by have:=z.2.1;omega))];rfl
    ·rw [sA.2.2.2.2.1] at hy;rcases List.mem_append.1 hy with hy | hy
     ·exact h.z5 y hy z
     ·rw [List.mem_singleton.1 hy]
   unfold JI;split
   ·exact hA
   ·split
    ·exact hA.congr rfl rfl
    ·exact hA.congr rfl rfl
 | @ZaS p q=>exact(h.add (τ:=kK p q σ) (e:= ⟨1,p,q,σ.sd⟩) rfl rfl (by show(1:Int) ≠ 5;decide) (by show(1:Int) ≠ 6;decide)).see _ _ _
 | @ZaR p q=>exact h.add (e:= ⟨1,p,q,σ.sd⟩) rfl rfl (by show(1:Int) ≠ 5;decide) (by show(1:Int) ≠ 6;decide)
 | @ZaN p q=>have z:=Xc (s:=s) p q (tell 3 p q 0 σ);exact(h.add (τ:=tell 3 p q 0 σ) (e:= ⟨3,p,q,0⟩) rfl rfl (by show(3:Int) ≠ 5;decide) (by show(3:Int) ≠ 6;decide)).congr z.1 z.2.2.2.2.2
 | @ZaM p q=>exact h.add (e:= ⟨3,p,q,0⟩) rfl rfl (by show(3:Int) ≠ 5;decide) (by show(3:Int) ≠ 6;decide)
 | Za0=>exact EvS.see (σ:=drop1 _ σ) (h.congr rfl rfl) _ _ _
 | @Za2 a b p q=>have z:=Xc (s:=s) p q (drop1 (li s a b) σ);exact h.congr z.1 z.2.2.2.2.2
 | Zab=>exact h.congr rfl rfl
 | KV=>exact h.congr rfl rfl
 | Za1=>exact h.congr rfl rfl
 | @ring w i=>
   unfold rung;split
   ·exact h.add (e:= ⟨4,_,_,0⟩) rfl rfl (by show(4:Int) ≠ 5;decide) (by show(4:Int) ≠ 6;decide)
   ·exact h.congr rfl rfl
theorem Zfi (hS:Y8 s) (kn:Kn s σ) (ki:KI s σ) (hq:q < nn s) (h3:σ.st q=3):∀ (j p:Nat),p < nn s ->up s j (p:Int)= (q:Int) ->σ.st p=3:=by
 intro j
 induction j with
 | zero=>intro p hp e;have:p=q:=by have:(p:Int)=q:=e;omega
         rw [this];exact h3
 | succ j ih=>
   intro p hp e;have e':(if(p:Int) < 0 then(p:Int) else up s j (inn s (p:Int)))= (q:Int):=e;rw [if_neg (by omega)] at e';by_cases h0:inn s (p:Int) < 0
   ·rw [ZfI h0] at e';omega
   ·obtain⟨eq,hq'⟩:=Xm hS hp h0;rw [eq] at e';have h3':=ih _ hq' e';have hk:=ki.k4 _ hq' h3' p hp eq;obtain⟨k,ek,_,_,hd⟩:=kn.rng _ hq' _ hk;have:p=k:=by omega
    rw [this];exact hd
end
end
section
def S1 (σ τ:TS):Prop:=∀ (i j:Nat) (x:Zd),x.kW=1 ->((τ.sn i)[j]? =some x↔(σ.sn i)[j]? =some x)
structure Num (σ:TS):Prop where
 n0:0 <=σ.sd
 n1:∀ e ∈ σ.ev,e.kZ=1∨e.kZ=2 ->0 <=e.n∧e.n < σ.sd
 n5:∀ (i j:Nat) (x:Zd),(σ.sn i)[j]? =some x ->x.kW=1 ->0 <=x.n∧x.n < σ.sd∧∃ e ∈ σ.ev,e.kZ=1∧e.kV=x.kV∧e.kX=x.kX∧e.n=x.n
 n6:∀ (i j:Nat) (x:Zd) (i' j':Nat) (x':Zd),(σ.sn i)[j]? =some x ->(σ.sn i')[j']? =some x' ->x.kW=1 ->x'.kW=1 ->x.n=x'.n ->i=i'∧j=j'
 n3:∀ e ∈ σ.ev,e.kZ=2 ->∀ (i j:Nat) (x:Zd),(σ.sn i)[j]? =some x ->x.kW=1 ->x.n=e.n ->j < σ.ld i
section
variable {s:Zb} {σ τ υ:TS} {F B a b p q w i j n d r p0 q0:Nat} {x:Zd} {k:Int} {e:Zg}
theorem S1.refl' (h:τ.sn=σ.sn):S1 σ τ:=fun i j x _=>by rw [h]
theorem S1.trans (h:S1 σ τ) (h':S1 τ υ):S1 σ υ:=fun i j x hx=>(h' i j x hx).trans (h i j x hx)
theorem S1.send (hx:x.kW ≠ 1):S1 σ (Proofs.YtcnahmgekicbdaaGreat.send s a b x σ):=fun i j y hy=>by
 rw [Xn];exact⟨fun z=>z.elim id fun w=>absurd (w.2.2 ▸ hy) hx,.inl⟩
theorem S1.YH (p q:Nat):S1 σ (Proofs.YtcnahmgekicbdaaGreat.YH s p q σ):=by
 unfold Proofs.YtcnahmgekicbdaaGreat.YH;split
 ·exact .refl' rfl
 ·exact .send (by show(5:Int) ≠ 1;decide)
theorem S1.Zu (p:Nat) (l:List Int):S1 σ (Proofs.YtcnahmgekicbdaaGreat.Zu s p l σ):=QA _ (S1 σ) l σ (.refl' rfl) fun τ x _ h=>h.trans (.YH _ _)
theorem S1.note (p q:Nat):S1 σ (Proofs.YtcnahmgekicbdaaGreat.note s p q σ):=by
 unfold Proofs.YtcnahmgekicbdaaGreat.note;split
 ·exact .YH _ _
 ·exact .refl' rfl
theorem S1.ZF (p:Nat):S1 σ (Proofs.YtcnahmgekicbdaaGreat.ZF s p σ):= (S1.Zu (σ:=Proofs.YtcnahmgekicbdaaGreat.QW p σ) p (σ.wa p)).trans (.refl' rfl)
theorem S1.JI (p:Nat):S1 σ (Proofs.YtcnahmgekicbdaaGreat.JI s p σ):=by
 unfold Proofs.YtcnahmgekicbdaaGreat.JI;split
 ·exact S1.ZF p
 ·split
  ·exact(S1.ZF p).trans (.refl' rfl)
  ·exact(S1.ZF p).trans (.send (by show(4:Int) ≠ 1;decide))
theorem Num.same (h:Num σ) (h1:S1 σ τ) (h2:τ.sd=σ.sd) (h3:∀ i,σ.ld i <=τ.ld i) (h4:∀ e ∈ σ.ev,e ∈ τ.ev) (h5:∀ e ∈ τ.ev,e.kZ=1∨e.kZ=2 ->e ∈ σ.ev):Num τ:=
 ⟨by rw [h2];exact h.n0,fun e he z=>by rw [h2];exact h.n1 e (h5 e he z) z,fun i j x hx hk=>by
   obtain⟨a,b,e,he,c⟩:=h.n5 i j x ((h1 i j x hk).1 hx) hk;exact⟨a,by rw [h2];exact b,e,h4 e he,c⟩,fun i j x i' j' x' hx hx' hk hk'=>h.n6 i j x i' j' x' ((h1 i j x hk).1 hx) ((h1 i' j' x' hk').1 hx') hk hk',fun e he z i j x hx hk hn=>Nat.lt_of_lt_of_le (h.n3 e (h5 e he (.inr z)) z i j x ((h1 i j x hk).1 hx) hk hn) (h3 i)⟩
theorem Num.ev (h:Num σ) (h1:S1 σ τ) (h2:τ.sd=σ.sd) (h3:∀ i,σ.ld i <=τ.ld i) (h4:τ.ev=σ.ev ++ [e]) (d1:e.kZ ≠ 1) (d2:e.kZ ≠ 2):Num τ:=
 h.same h1 h2 h3 (fun y hy=>by rw [h4];exact List.mem_append.2 (.inl hy)) fun y hy z=>by
   rw [h4] at hy;rcases List.mem_append.1 hy with hy | hy
   ·exact hy
   ·rw [List.mem_singleton.1 hy] at z;exact z.elim (fun z=>absurd z d1) fun z=>absurd z d2
theorem Num.eq (h:Num σ) (h1:S1 σ τ) (h2:τ.sd=σ.sd) (h3:∀ i,σ.ld i <=τ.ld i) (h4:τ.ev=σ.ev):Num τ:=
 h.same h1 h2 h3 (fun y hy=>by rw [h4];exact hy) fun y hy _=>by rw [h4] at hy;exact hy
theorem Num.see (h:Num σ) (hn:0 <=k∧k < σ.sd) (hl:∀ (i j:Nat) (x:Zd),(σ.sn i)[j]? =some x ->x.kW=1 ->x.n=k ->j < σ.ld i) (p q:Nat):Num (Proofs.YtcnahmgekicbdaaGreat.see p q k σ):=by
 unfold Proofs.YtcnahmgekicbdaaGreat.see;split
 ·refine⟨h.n0,fun e he z=>?_,fun i j x hx hk=>?_,h.n6,fun e he z i j x hx hk hn'=>?_⟩
  ·have he:e ∈ σ.ev ++ [⟨2,p,q,k⟩]:=he;rcases List.mem_append.1 he with he | he
   ·exact h.n1 e he z
   ·rw [List.mem_singleton.1 he];exact hn
  ·obtain⟨a,b,e,he,c⟩:=h.n5 i j x hx hk;exact⟨a,b,e,List.mem_append.2 (.inl he),c⟩
  ·have he:e ∈ σ.ev ++ [⟨2,p,q,k⟩]:=he;rcases List.mem_append.1 he with he | he
   ·exact h.n3 e he z i j x hx hk hn'
   ·rw [List.mem_singleton.1 he] at hn';exact hl i j x hx hk hn'
 ·exact h
theorem Num.kK (h:Num σ) (p q:Nat):Num (Proofs.YtcnahmgekicbdaaGreat.kK p q σ)∧∀ (i j:Nat) (x:Zd),(σ.sn i)[j]? =some x ->x.kW=1 ->x.n ≠ σ.sd:=by
 have h0:=h.n0;have key:∀ (i j:Nat) (x:Zd),(σ.sn i)[j]? =some x ->x.kW=1 ->x.n ≠ σ.sd:=fun i j x hx hk e=>by have:= (h.n5 i j x hx hk).2.1;omega
 have ev:(Proofs.YtcnahmgekicbdaaGreat.kK p q σ).ev=σ.ev ++ [⟨1,p,q,σ.sd⟩]:=rfl;have sd:(Proofs.YtcnahmgekicbdaaGreat.kK p q σ).sd=σ.sd + 1:=rfl;refine⟨⟨by rw [sd];omega,fun e he z=>?_,fun i j x hx hk=>?_,h.n6,fun e he z i j x hx hk hn=>?_⟩,key⟩
 ·rw [ev] at he;rw [sd];rcases List.mem_append.1 he with he | he
  ·have:=h.n1 e he z;omega
  ·rw [List.mem_singleton.1 he];show 0 <=σ.sd∧σ.sd < σ.sd + 1;omega
 ·obtain⟨a,b,e,he,c⟩:=h.n5 i j x hx hk;exact⟨a,by rw [sd];omega,e,by rw [ev];exact List.mem_append.2 (.inl he),c⟩
 ·rw [ev] at he;rcases List.mem_append.1 he with he | he
  ·exact h.n3 e he z i j x hx hk hn
  ·rw [List.mem_singleton.1 he] at z;exact absurd z (by show ¬ (1:Int)=2;decide)
theorem Wz (i:Nat):∀ j,σ.ld j <= (drop1 i σ).ld j:=fun j=>by
 show _ <=ZT σ.ld i (σ.ld i + 1) j;by_cases e:j=i
 ·subst e;rw [Zq];omega
 ·rw [ZA e];exact Nat.le_refl _
theorem Zel (hl:σ.ld i < (σ.sn i).length):(σ.sn i)[σ.ld i]? =some (hd σ i):=by
 unfold hd;rw [List.getD_eq_getElem?_getD,List.getElem?_eq_getElem hl];rfl
theorem Num.act (h:Num σ) (ac:Act s σ τ):Num τ:=by
 have r0:∀ i,σ.ld i <=σ.ld i:=fun _=>Nat.le_refl _
 cases ac with
 | @fall p=>exact h.ev (e:= ⟨5,p,0,0⟩) (.refl' rfl) rfl r0 rfl (by show(5:Int) ≠ 1;decide) (by show(5:Int) ≠ 2;decide)
 | J7=>exact h.eq (.send (by show(3:Int) ≠ 1;decide)) rfl r0 rfl
 | @die p hp h2 hA=>
   have sA:=X7 (s:=s) p σ
   have e1:(Proofs.YtcnahmgekicbdaaGreat.JI s p σ).sd=σ.sd∧(Proofs.YtcnahmgekicbdaaGreat.JI s p σ).ld=σ.ld∧(Proofs.YtcnahmgekicbdaaGreat.JI s p σ).ev=σ.ev ++ [⟨6,(p:Int),0,0⟩]:=by
    unfold Proofs.YtcnahmgekicbdaaGreat.JI;split
    ·exact⟨sA.2.2.2.1,sA.2.2.1,sA.2.2.2.2.1⟩
    ·split
     ·exact⟨sA.2.2.2.1,sA.2.2.1,sA.2.2.2.2.1⟩
     ·exact⟨sA.2.2.2.1,sA.2.2.1,sA.2.2.2.2.1⟩
   exact h.ev (.JI p) e1.1 (by rw [e1.2.1];exact r0) e1.2.2 (by show(6:Int) ≠ 1;decide) (by show(6:Int) ≠ 2;decide)
 | @ZaS p q=>
   obtain⟨h1,h2⟩:=h.kK p q;exact h1.see ⟨h.n0,by show σ.sd < σ.sd + 1;omega⟩ (fun i j x hx hk hn=>absurd hn (h2 i j x hx hk)) _ _
 | @ZaR p q hp hq hst e0=>
   obtain⟨h1,h2⟩:=h.kK p q;have h0:=h.n0;refine⟨h1.n0,h1.n1,fun i j x hx hk=>?_,fun i j x i' j' x' hx hx' hk hk' hn=>?_,fun e he z i j x hx hk hn=>?_⟩
   ·rcases Xn.1 hx with hx | ⟨_,_,rfl⟩
    ·exact h1.n5 i j x hx hk
    ·exact⟨h0,by show σ.sd < σ.sd + 1;omega,⟨1,p,q,σ.sd⟩,List.mem_append.2 (.inr (by simp)),rfl,rfl,rfl,rfl⟩
   ·rcases Xn.1 hx with hx | ⟨a1,a2,rfl⟩
    ·rcases Xn.1 hx' with hx' | ⟨b1,b2,rfl⟩
     ·exact h1.n6 i j x i' j' x' hx hx' hk hk' hn
     ·exact absurd hn (h2 i j x hx hk)
    ·rcases Xn.1 hx' with hx' | ⟨b1,b2,rfl⟩
     ·exact absurd hn.symm (h2 i' j' x' hx' hk')
     ·subst a1;subst b1;exact⟨rfl,by omega⟩
   ·rcases Xn.1 hx with hx | ⟨_,_,rfl⟩
    ·exact h1.n3 e he z i j x hx hk hn
    ·exfalso;have he:e ∈ σ.ev ++ [⟨1,p,q,σ.sd⟩]:=he;rcases List.mem_append.1 he with he | he
     ·have:= (h.n1 e he (.inr z)).2;have hn:σ.sd=e.n:=hn;omega
     ·rw [List.mem_singleton.1 he] at z;exact absurd z (by show ¬ (1:Int)=2;decide)
 | @ZaN p q=>
   have z:=Xc (s:=s) p q (tell 3 p q 0 σ);exact h.ev (e:= ⟨3,p,q,0⟩) ((S1.refl' (σ:=σ) (τ:=tell 3 p q 0 σ) rfl).trans (.note p q)) z.2.2.2.2.1 (by rw [z.2.2.2.1];exact r0) z.2.2.2.2.2 (by show(3:Int) ≠ 1;decide) (by show(3:Int) ≠ 2;decide)
 | @ZaM p q=>exact h.ev (e:= ⟨3,p,q,0⟩) ((S1.refl' (σ:=σ) (τ:=tell 3 p q 0 σ) rfl).trans (.send (by show(2:Int) ≠ 1;decide))) rfl r0 rfl (by show(3:Int) ≠ 1;decide) (by show(3:Int) ≠ 2;decide)
 | @Za0 a b p q ha hb hl hk=>
   have h1:Num (drop1 (li s a b) σ):=h.eq (.refl' rfl) rfl (Wz _) rfl;have hg:=Zel hl;obtain⟨n1,n2,_⟩:=h.n5 _ _ _ hg hk;refine h1.see ⟨n1,n2⟩ (fun i j x hx hk' hn=>?_) _ _;obtain⟨rfl,rfl⟩:=h.n6 _ _ _ _ _ _ hx hg hk' hk hn;show _ < ZT σ.ld (li s a b) (σ.ld (li s a b) + 1) (li s a b);rw [Zq];omega
 | @Za2 a b p q=>
   have z:=Xc (s:=s) p q (drop1 (li s a b) σ);exact h.eq ((S1.refl' (σ:=σ) (τ:=drop1 (li s a b) σ) rfl).trans (.note p q)) z.2.2.2.2.1 (by rw [z.2.2.2.1];exact Wz _) z.2.2.2.2.2
 | Zab=>exact h.eq (.refl' rfl) rfl (Wz _) rfl
 | KV=>exact h.eq (.refl' rfl) rfl (Wz _) rfl
 | Za1=>exact h.eq (.refl' rfl) rfl (Wz _) rfl
 | @ring w i=>
   have z:=Qq s w i σ;have hs:S1 σ (rung s w i σ):= .refl' z.2.2.2.2.2.1;unfold rung at hs ⊢;split at hs
   ·rename_i hst;rw [if_pos hst];exact h.ev (e:= ⟨4,_,_,0⟩) hs rfl r0 rfl (by show(4:Int) ≠ 1;decide) (by show(4:Int) ≠ 2;decide)
   ·rename_i hst;rw [if_neg hst];exact h.eq hs rfl r0 rfl
end
end
section
section
variable {s:Zb} {σ τ υ:TS} {F B a b p q w i j n d r p0 q0:Nat} {x:Zd} {k:Int} {e:Zg}
theorem ZHk (hS:Y8 s) (hp:p < nn s):inn s (p:Int) ≠ (p:Int):=fun e=>by
 have:∀ k,up s k (p:Int)= (p:Int):=fun k=>by
  induction k with
  | zero=>rfl
  | succ k ih=>rw [JD,ih,if_neg (by omega),e]
 have h:=U3 hS hp;rw [this] at h;omega
theorem ZOB (hS:Y8 s) (kn:Kn s σ) (ki:KI s σ) (hk:q < nn s) (h3:σ.st q=3) (ac:Act s σ τ):τ.ma q=σ.ma q:=by
 have alive:∀ p,p < nn s ->0 <=inn s (p:Int) ->(σ.st p ≠ 3∨(p:Int) ∉ σ.kn (inn s (p:Int)).toNat) ->q ≠ (inn s (p:Int)).toNat:=fun p hp h0 c e=>by
  obtain⟨eq,hq⟩:=Xm hS hp (by omega);have hk4:=ki.k4 q hk h3 p hp (by rw [e];exact eq);rw [e] at hk4;rcases c with c | c
  ·obtain⟨k,ek,_,_,hd⟩:=kn.rng _ hq _ hk4;have:p=k:=by omega
   subst this;exact c hd
  ·exact c hk4
 cases ac with
 | fall=>rfl
 | J7=>rfl
 | @die p hp h2 hA=>
   have hqp:q ≠ p:=fun e=>by subst e;rw [h2] at h3;cases h3
   have hA:(ZF s p σ).ma q=σ.ma q:=by
    show ZT (Zu s p (σ.wa p) (QW p σ)).ma p _ q=_;rw [ZA hqp,(ZcT (s:=s) p (σ.wa p) (QW p σ)).2.2.1];rfl
   unfold JI;by_cases h0:inn s (p:Int) < 0
   ·rw [if_pos h0];exact hA
   ·rw [if_neg h0];split
    ·show ZT (ZF s p σ).ma (inn s (p:Int)).toNat _ q=_;rw [ZA (alive p hp (by omega) (.inl (by rw [h2];decide)))];exact hA
    ·exact hA
 | ZaS=>rw [(XT _ _ _ _).2.2.1];rfl
 | ZaR=>rfl
 | ZaN=>rw [(Xc _ _ _).2.2.1];rfl
 | ZaM=>rfl
 | Za0=>rw [(XT _ _ _ _).2.2.1];rfl
 | Za2=>rw [(Xc _ _ _).2.2.1];rfl
 | Zab=>rfl
 | @KV a b p ha hb hl hk' hp hpn h0 hm h3' hn=>
   show ZT σ.ma (inn s (p:Int)).toNat _ q=_;rw [ZA (alive p hpn h0 (.inr hn))]
 | Za1=>rfl
 | ring=>rw [(Qq _ _ _ _).2.2.2.2.1]
def Msg (s:Zb) (σ:TS) (q b w j:Nat):Prop:=∃ x:Zd,(σ.sn (li s b w))[j]? =some x∧x.kW=1∧x.kV= (q:Int)
theorem Msg.s1 (h:S1 σ τ):Msg s τ q b w j↔Msg s σ q b w j:=
 ⟨fun⟨x,h1,h2,h3⟩=>⟨x,(h _ _ _ h2).1 h1,h2,h3⟩,fun⟨x,h1,h2,h3⟩=>⟨x,(h _ _ _ h2).2 h1,h2,h3⟩⟩
theorem Msg.lt (h:Msg s σ q b w j):j < (σ.sn (li s b w)).length:=by
 obtain⟨x,h1,_⟩:=h;exact(Li0 h1).1
structure Mk (s:Zb) (σ:TS):Prop where
 m1:∀ q b w j,q < nn s ->b < mm s ->w < mm s ->b ≠ w ->σ.st q=3 ->Msg s σ q b w j ->(j:Int) < σ.ma q (li s b w)
 m2:∀ p k:Nat,p < nn s ->k < nn s ->(k:Int) ∈ σ.kn p ->∀ i,i < mm s * mm s ->σ.ma k i <=σ.ma p i
 l4:∀ (i j:Nat) (x:Zd),(σ.sn i)[j]? =some x ->x.kW=4 ->∀ k:Nat,x.kV= (k:Int) ->∀ i',i' < mm s * mm s ->x.qX.getD i' 0=σ.ma k i'
theorem ZAQ {hS:Y8 s} (hp:p < nn s) (h:Wth s r p) (hne:p ≠ r):∃ c:Nat,c < nn s∧inn s (c:Int)= (r:Int)∧Wth s c p:=by
 obtain⟨j,e⟩:=h
 induction j generalizing r with
 | zero=>exact absurd (by have:(p:Int)=r:=e;omega) hne
 | succ j ih=>
   rw [JD] at e;by_cases h0:up s j (p:Int) < 0
   ·rw [if_pos h0] at e;omega
   ·rw [if_neg h0] at e;obtain⟨c,hc⟩:∃ c:Nat,up s j (p:Int)= (c:Int):= ⟨(up s j (p:Int)).toNat,by omega⟩
    refine⟨c,?_,by rw [← hc];exact e,j,hc⟩;have hok:=Zlg hS.inn.rng hp (k:=j);rw [hc] at hok;have:=hok.2;show c < s.Zf.length;omega
theorem Mk.chain (hS:Y8 s) (ki:KI s σ) (kn:Kn s σ) (h:Mk s σ) (hi:i < mm s * mm s):∀ (m q r:Nat),q < nn s ->r < nn s ->σ.st r=3 ->up s m (q:Int)= (r:Int) ->σ.ma q i <=σ.ma r i:=by
 intro m
 induction m with
 | zero=>intro q r hq hr _ e;have:q=r:=by have:(q:Int)=r:=e;omega
         rw [this];exact Int.le_refl _
 | succ m ih=>
   intro q r hq hr h3 e;have e':(if(q:Int) < 0 then(q:Int) else up s m (inn s (q:Int)))= (r:Int):=e;rw [if_neg (by omega)] at e';by_cases h0:inn s (q:Int) < 0
   ·rw [ZfI h0] at e';omega
   ·obtain⟨eq,hq'⟩:=Xm hS hq h0;rw [eq] at e';have h3':=Zfi hS kn ki hr h3 m _ hq' e';have h1:=ih _ r hq' hr h3 e';have h2:=h.m2 _ q hq' hq (ki.k4 _ hq' h3' q hq eq) i hi;omega
theorem ZG4 (hb:b < mm s):li s a b / mm s=a∧li s a b % mm s=b:=by
 have:= (WQ hb).1 (show li s a b=a * mm s + b from rfl);exact⟨this.1,this.2⟩
theorem Mk.act (hS:Y8 s) (h1:P1 s σ) (h2:P2 s σ) (ki:KI s σ) (hM:MB s σ) (h:Mk s σ) (ac:Act s σ τ):Mk s τ:=by
 have kn:=h2.kn;have fz:=fun q hq h3=>ZOB (q:=q) hS kn ki hq h3 ac
 have same:S1 σ τ ->S4 σ τ ->(∀ q,q < nn s ->τ.st q=3 ->σ.st q=3) ->τ.kn=σ.kn ->τ.ma=σ.ma ->Mk s τ:=fun c1 c4 c3 ck cm=>
  ⟨fun q b w j hq hb hw hne h3 hm=>by rw [cm];exact h.m1 q b w j hq hb hw hne (c3 q hq h3) ((Msg.s1 c1).1 hm),by rw [ck,cm];exact h.m2,fun i j x hx hk k hkp=>by rw [cm];exact h.l4 i j x ((c4 i j x hk).1 hx) hk k hkp⟩
 cases ac with
 | @fall p hp hst=>
   refine same (.refl' rfl) (.refl' rfl) (fun q _ h3=>?_) rfl rfl;have h3:ZT σ.st p 2 q=3:=h3;by_cases e:q=p
   ·subst e;rw [Zq] at h3;cases h3
   ·rwa [ZA e] at h3
 | J7=>exact same (.send (by show(3:Int) ≠ 1;decide)) (.send (by show(3:Int) ≠ 4;decide)) (fun _ _ z=>z) rfl rfl
 | @die p hp hst hA=>
   have sA:=X7 (s:=s) p σ;have c1:S1 σ (ZF s p σ):=S1.ZF p;have c4:S4 σ (ZF s p σ):=S4.ZF p;have up:=SnM.ZF (s:=s) (σ:=σ) p
   have maP:∀ i,i < mm s * mm s ->(ZF s p σ).ma p i=if i / mm s=pl s p∧i % mm s < mm s∧i % mm s ≠ pl s p then(((ZF s p σ).sn i).length:Int) else σ.ma p i:=fun i _=>by
    show ZT (Zu s p (σ.wa p) (QW p σ)).ma p (ZdE s (Zu s p (σ.wa p) (QW p σ)) p (mm s)) p i=_;rw [Zq];unfold ZdE;rw [(ZcT (s:=s) p (σ.wa p) (QW p σ)).2.2.1];rfl
   have maQ:∀ q,q ≠ p ->(ZF s p σ).ma q=σ.ma q:=fun q e=>by
    show ZT (Zu s p (σ.wa p) (QW p σ)).ma p _ q=_;rw [ZA e,(ZcT (s:=s) p (σ.wa p) (QW p σ)).2.2.1];rfl
   have ZRh:∀ i,i < mm s * mm s ->σ.ma p i <= (ZF s p σ).ma p i:=fun i hi=>by
    rw [maP i hi];split
    ·exact Int.le_trans (hM.ma p i hi) (Int.ofNat_le.2 (up i))
    ·exact Int.le_refl _
   have hA':Mk s (ZF s p σ):=by
    refine⟨fun q b w j hq hb hw hne h3 hm=>?_,fun q k hq hk hkn i hi=>?_,fun i j x hx hk k hkp i' hi'=>?_⟩
    ·by_cases e:q=p
     ·subst e;obtain⟨x,hx,hxk,hxp⟩:= (Msg.s1 c1).1 hm;have hlet:=h1.lets b w hb hw x (List.mem_of_getElem? hx)
      have hpb:pl s q=b:=by
       obtain⟨p',e1,_,_,c⟩:=hlet;have:p'=q:=by omega
       subst this;rcases c with⟨_,c,_⟩ | ⟨k,_⟩ | ⟨k,_⟩ | ⟨k,_⟩ | ⟨k,_⟩
       ·exact c
       all_goals omega
      obtain⟨d1,d2⟩:=ZG4 (s:=s) (a:=b) hw;rw [maP _ (Jj hb hw),if_pos ⟨by rw [d1,hpb],by rw [d2];exact hw,by rw [d2,hpb];exact fun z=>hne z.symm⟩];exact Int.ofNat_lt.2 hm.lt
     ·rw [maQ q e];rw [sA.1,ZA e] at h3;exact h.m1 q b w j hq hb hw hne h3 ((Msg.s1 c1).1 hm)
    ·rw [sA.2.1] at hkn
     have hkd:σ.st k=3:=by
      obtain⟨k',ek,_,_,hd⟩:=kn.rng q hq _ hkn;have:k=k':=by omega
      rw [this];exact hd
     have hkp:k ≠ p:=fun e=>by subst e;rw [hst] at hkd;cases hkd
     rw [maQ k hkp];have:=h.m2 q k hq hk hkn i hi;by_cases e:q=p
     ·subst e;exact Int.le_trans this (ZRh i hi)
     ·rw [maQ q e];exact this
    ·have hx':= (c4 i j x hk).1 hx;obtain⟨k',e1,e2,e3,_⟩:=ki.k1 i j x hx' hk;have hkk:k=k':=by omega
     have hne:k ≠ p:=fun e=>by rw [← hkk,e,hst] at e3;cases e3
     rw [maQ k hne];exact h.l4 i j x hx' hk k hkp i' hi'
   have fz':=fz;unfold JI at fz' ⊢;by_cases h0:inn s (p:Int) < 0
   ·rw [if_pos h0];exact hA'
   ·rw [if_neg h0] at fz' ⊢;obtain⟨eq,JL⟩:=Xm hS hp h0
    have hal:σ.st (inn s (p:Int)).toNat ≠ 3:=fun z=>by
     have:=ki.k4 _ JL z p hp eq;obtain⟨k,ek,_,_,hd⟩:=kn.rng _ JL _ this;have:p=k:=by omega
     subst this;rw [hst] at hd;cases hd
    have hpq:(inn s (p:Int)).toNat ≠ p:=fun z=>by
     have:=U3 hS hp;exact absurd (by rw [eq,z]:inn s (p:Int)= (p:Int)) (ZHk hS hp)
    by_cases c:pl s (inn s (p:Int)).toNat=pl s p
    ·rw [if_pos c] at fz' ⊢;have mq:∀ q,q ≠ (inn s (p:Int)).toNat ->(Z8 s p (Us s (ZF s p σ) p) (ZF s p σ)).ma q= (ZF s p σ).ma q:=fun q e=>ZA e
     have mi:∀ i,i < mm s * mm s ->(Z8 s p (Us s (ZF s p σ) p) (ZF s p σ)).ma (inn s (p:Int)).toNat i=if(ZF s p σ).ma p i > (ZF s p σ).ma (inn s (p:Int)).toNat i then(ZF s p σ).ma p i else(ZF s p σ).ma (inn s (p:Int)).toNat i:=fun i hi=>by
      show ZT (ZF s p σ).ma (inn s (p:Int)).toNat (mx _ _) (inn s (p:Int)).toNat i=_;rw [Zq];unfold mx;rw [Zde hi]
     refine⟨fun q b w j hq hb hw hne h3 hm=>?_,fun q k hq hk hkn i hi=>?_,fun i j x hx hk k hkp i' hi'=>?_⟩
     ·have e:q ≠ (inn s (p:Int)).toNat:=fun z=>by
       have h3:(ZF s p σ).st q=3:=h3;rw [sA.1,z,ZA hpq] at h3;exact hal h3
      rw [mq q e];exact hA'.m1 q b w j hq hb hw hne h3 hm
     ·have hkn':(k:Int) ∈ ZT (ZF s p σ).kn (inn s (p:Int)).toNat (ins (p:Int) ((ZF s p σ).kn (inn s (p:Int)).toNat)) q:=hkn;have hki:k ≠ (inn s (p:Int)).toNat ->(Z8 s p (Us s (ZF s p σ) p) (ZF s p σ)).ma k i= (ZF s p σ).ma k i:=fun e=>by rw [mq k e]
      by_cases e:q= (inn s (p:Int)).toNat
      ·subst e;rw [Zq] at hkn';rcases WA.1 hkn' with z | z
       ·have:k=p:=by omega
        subst this;rw [mi i hi,hki (fun z=>hpq z.symm)];split <;> omega
       ·have hke:k ≠ (inn s (p:Int)).toNat:=fun zz=>by
         rw [sA.2.1] at z;obtain⟨k',ek,_,_,hd⟩:=kn.rng _ JL _ z;have:k=k':=by omega
         rw [← this,zz] at hd;exact hal hd
        have:=hA'.m2 _ k hq hk z i hi;rw [mi i hi,hki hke];split <;> omega
      ·rw [ZA e] at hkn'
       have hke:k ≠ (inn s (p:Int)).toNat:=fun zz=>by
        rw [sA.2.1] at hkn';obtain⟨k',ek,_,_,hd⟩:=kn.rng q hq _ hkn';have:k=k':=by omega
        rw [← this,zz] at hd;exact hal hd
       rw [mq q e,hki hke];exact hA'.m2 q k hq hk hkn' i hi
     ·have hx':= (c4 i j x hk).1 hx;obtain⟨k',e1,e2,e3,_⟩:=ki.k1 i j x hx' hk;have hkk:k=k':=by omega
      have hne:k ≠ (inn s (p:Int)).toNat:=fun e=>by rw [← hkk,e] at e3;exact hal e3
      rw [mq k hne];exact hA'.l4 i j x hx hk k hkp i' hi'
    ·rw [if_neg c] at fz' ⊢;refine⟨fun q b w j hq hb hw hne h3 hm=>hA'.m1 q b w j hq hb hw hne h3 ((Msg.s1 (S1.send (by show(4:Int) ≠ 1;decide))).1 hm),hA'.m2,fun i j x hx hk k hkp i' hi'=>?_⟩;rcases Xn.1 hx with hx | ⟨_,_,rfl⟩
     ·exact hA'.l4 i j x hx hk k hkp i' hi'
     ·have:p=k:=by have:(p:Int)=k:=hkp;omega
      subst this;exact Zde hi'
 | @ZaS p q hp hq hst e0=>
   have z:=XT q p σ.sd (kK p q σ);exact same (.refl' z.2.2.2.2.1) (.refl' z.2.2.2.2.1) (fun q _ h3=>by rw [z.1] at h3;exact h3) z.2.1 z.2.2.1
 | @ZaR p q hp hq hst e0=>
   refine⟨fun q' b w j hq' hb hw hne h3 hm=>?_,h.m2,fun i j x hx hk k hkp=>?_⟩
   ·obtain⟨x,hx,hxk,hxp⟩:=hm;rcases Xn.1 hx with hx | ⟨_,_,rfl⟩
    ·exact h.m1 q' b w j hq' hb hw hne h3 ⟨x,hx,hxk,hxp⟩
    ·have:p=q':=by have:(p:Int)=q':=hxp;omega
     subst this;have h3:σ.st p=3:=h3;rw [hst] at h3;cases h3
   ·rcases Xn.1 hx with hx | ⟨_,_,rfl⟩
    ·exact h.l4 i j x hx hk k hkp
    ·exact absurd hk (by show ¬ (1:Int)=4;decide)
 | @ZaN p q=>
   have z:=Xc (s:=s) p q (tell 3 p q 0 σ);exact same ((S1.refl' (σ:=σ) (τ:=tell 3 p q 0 σ) rfl).trans (.note p q)) ((S4.refl' (σ:=σ) (τ:=tell 3 p q 0 σ) rfl).trans (.note p q)) (fun q _ h3=>by rw [z.1] at h3;exact h3) z.2.1 z.2.2.1
 | @ZaM p q=>exact same ((S1.refl' (σ:=σ) (τ:=tell 3 p q 0 σ) rfl).trans (.send (by show(2:Int) ≠ 1;decide))) ((S4.refl' (σ:=σ) (τ:=tell 3 p q 0 σ) rfl).trans (.send (by show(2:Int) ≠ 4;decide))) (fun _ _ z=>z) rfl rfl
 | @Za0 a b p q=>
   have z:=XT q p (hd σ (li s a b)).n (drop1 (li s a b) σ);exact same (.refl' z.2.2.2.2.1) (.refl' z.2.2.2.2.1) (fun q _ h3=>by rw [z.1] at h3;exact h3) z.2.1 z.2.2.1
 | @Za2 a b p q=>
   have z:=Xc (s:=s) p q (drop1 (li s a b) σ);exact same ((S1.refl' (σ:=σ) (τ:=drop1 (li s a b) σ) rfl).trans (.note p q)) ((S4.refl' (σ:=σ) (τ:=drop1 (li s a b) σ) rfl).trans (.note p q)) (fun q _ h3=>by rw [z.1] at h3;exact h3) z.2.1 z.2.2.1
 | Zab=>exact same (.refl' rfl) (.refl' rfl) (fun _ _ z=>z) rfl rfl
 | @KV a b p ha hb hl hk hp hpn h0 hm h3 hn=>
   obtain⟨eq,JL⟩:=Xm hS hpn (by omega);have hal:σ.st (inn s (p:Int)).toNat ≠ 3:=fun z=>hn (ki.k4 _ JL z p hpn eq)
   have hl4:=h.l4 _ _ _ (Zel hl) hk p hp;have mq:∀ q,q ≠ (inn s (p:Int)).toNat ->(Z8 s p (hd σ (li s a b)).qX (drop1 (li s a b) σ)).ma q=σ.ma q:=fun q e=>ZA e
   have mi:∀ i,i < mm s * mm s ->(Z8 s p (hd σ (li s a b)).qX (drop1 (li s a b) σ)).ma (inn s (p:Int)).toNat i=if σ.ma p i > σ.ma (inn s (p:Int)).toNat i then σ.ma p i else σ.ma (inn s (p:Int)).toNat i:=fun i hi=>by
    show ZT σ.ma (inn s (p:Int)).toNat (mx _ _) (inn s (p:Int)).toNat i=_;rw [Zq];unfold mx;rw [hl4 i hi];rfl
   have hpq:p ≠ (inn s (p:Int)).toNat:=fun z=>by rw [← z] at hal;exact hal h3
   refine⟨fun q b w j hq hb hw hne h3 hm=>?_,fun q k hq hk hkn i hi=>?_,fun i j x hx hk k hkp i' hi'=>?_⟩
   ·have e:q ≠ (inn s (p:Int)).toNat:=fun z=>by
     have h3:σ.st q=3:=h3;rw [z] at h3;exact hal h3
    rw [mq q e];exact h.m1 q b w j hq hb hw hne h3 hm
   ·have hkn':(k:Int) ∈ ZT σ.kn (inn s (p:Int)).toNat (ins (p:Int) (σ.kn (inn s (p:Int)).toNat)) q:=hkn;by_cases e:q= (inn s (p:Int)).toNat
    ·subst e;rw [Zq] at hkn';rcases WA.1 hkn' with z | z
     ·have:k=p:=by omega
      subst this;rw [mi i hi,mq k hpq];split <;> omega
     ·have hke:k ≠ (inn s (p:Int)).toNat:=fun zz=>by
       obtain⟨k',ek,_,_,hd⟩:=kn.rng _ JL _ z;have:k=k':=by omega
       rw [← this,zz] at hd;exact hal hd
      have:=h.m2 _ k hq hk z i hi;rw [mi i hi,mq k hke];split <;> omega
    ·rw [ZA e] at hkn'
     have hke:k ≠ (inn s (p:Int)).toNat:=fun zz=>by
      obtain⟨k',ek,_,_,hd⟩:=kn.rng q hq _ hkn';have:k=k':=by omega
      rw [← this,zz] at hd;exact hal hd
     rw [mq q e,mq k hke];exact h.m2 q k hq hk hkn' i hi
   ·obtain⟨k',e1,e2,e3,_⟩:=ki.k1 i j x hx hk;have hkk:k=k':=by omega
    have hne:k ≠ (inn s (p:Int)).toNat:=fun e=>by rw [← hkk,e] at e3;exact hal e3
    rw [mq k hne];exact h.l4 i j x hx hk k hkp i' hi'
 | Za1=>exact same (.refl' rfl) (.refl' rfl) (fun _ _ z=>z) rfl rfl
 | @ring w i=>
   have z:=Qq s w i σ;exact same (.refl' z.2.2.2.2.2.1) (.refl' z.2.2.2.2.2.1) (fun q _ h3=>by rw [z.2.2.1] at h3;exact h3) z.2.2.2.1 z.2.2.2.2.1
end
end
section
structure Bel (s:Zb) (σ:TS):Prop where
 bl:∀ (a w jb:Nat) (x:Zd),a < mm s ->w < mm s ->(σ.sn (li s a w))[jb]? =some x ->x.kW=5 ->∀ r:Nat,x.kX= (r:Int) ->r < nn s ->σ.st r=3∧∀ q b j,q < nn s ->Wth s r q ->b < mm s ->b ≠ w ->Msg s σ q b w j ->(j:Int) < x.qX.getD (li s b w) 0∨(b=a∧j < jb)
 bw:∀ m,m < mm s ->∀ x ∈ σ.be m,∀ r:Nat,x.kX= (r:Int) ->r < nn s ->σ.st r=3∧∀ q b j,q < nn s ->Wth s r q ->b < mm s ->b ≠ m ->Msg s σ q b m j ->(j:Int) < x.qX.getD (li s b m) 0∨j < σ.ld (li s b m)
 hh:∀ e ∈ σ.ev,e.kZ=4 ->∀ y r:Nat,e.kV= (y:Int) ->e.kX= (r:Int) ->y < nn s ->r < nn s ->∀ q,q < nn s ->Wth s r q ->σ.st q=3∧∀ b j,b < mm s ->b ≠ pl s y ->Msg s σ q b (pl s y) j ->j < σ.ld (li s b (pl s y))
section
variable {s:Zb} {σ τ υ:TS} {F B a b p q w i j n d r p0 q0 y:Nat} {x:Zd} {k:Int} {e:Zg}
def S5 (σ τ:TS):Prop:=∀ (i j:Nat) (x:Zd),x.kW=5 ->((τ.sn i)[j]? =some x↔(σ.sn i)[j]? =some x)
theorem S5.refl' (h:τ.sn=σ.sn):S5 σ τ:=fun i j x _=>by rw [h]
theorem S5.send (hx:x.kW ≠ 5):S5 σ (Proofs.YtcnahmgekicbdaaGreat.send s a b x σ):=fun i j y hy=>by
 rw [Xn];exact⟨fun z=>z.elim id fun w=>absurd (w.2.2 ▸ hy) hx,.inl⟩
theorem Bel.same (h:Bel s σ) (hm:∀ q b w j,q < nn s ->σ.st q=3 ->Msg s τ q b w j ->Msg s σ q b w j) (h5:S5 σ τ) (h3:∀ q,q < nn s ->σ.st q=3 ->τ.st q=3) (hl:∀ i,σ.ld i <=τ.ld i) (hb:∀ m,∀ x ∈ τ.be m,x ∈ σ.be m) (he:∀ e ∈ τ.ev,e.kZ=4 ->e ∈ σ.ev)
 (hd:∀ r q,r < nn s ->q < nn s ->σ.st r=3 ->Wth s r q ->σ.st q=3):Bel s τ:=by
 refine⟨fun a w jb x ha hw hx hk r hr hrn=>?_,fun m hm' x hx r hr hrn=>?_,fun e he' z y r hy hr hyn hrn q hq hW=>?_⟩
 ·obtain⟨c1,c2⟩:=h.bl a w jb x ha hw ((h5 _ _ _ hk).1 hx) hk r hr hrn;exact⟨h3 r hrn c1,fun q b j hq hW hb' hne hM=>c2 q b j hq hW hb' hne (hm q b w j hq (hd r q hrn hq c1 hW) hM)⟩
 ·obtain⟨c1,c2⟩:=h.bw m hm' x (hb m x hx) r hr hrn;exact⟨h3 r hrn c1,fun q b j hq hW hb' hne hM=>(c2 q b j hq hW hb' hne (hm q b m j hq (hd r q hrn hq c1 hW) hM)).imp id fun z=>Nat.lt_of_lt_of_le z (hl _)⟩
 ·obtain⟨c1,c2⟩:=h.hh e (he e he' z) z y r hy hr hyn hrn q hq hW;exact⟨h3 q hq c1,fun b j hb' hne hM=>Nat.lt_of_lt_of_le (c2 b j hb' hne (hm q b _ j hq c1 hM)) (hl _)⟩
def HB (s:Zb) (σ:TS) (r:Nat):Prop:=∀ q b w j,q < nn s ->Wth s r q ->b < mm s ->w < mm s ->b ≠ w ->Msg s σ q b w j ->(j:Int) < σ.ma r (li s b w)∨b=pl s r
theorem Bel.YH (hS:Y8 s) (h:Bel s σ) (hy:y < nn s) (hr:r < nn s) (h3:σ.st r=3) (hB:HB s σ r):Bel s (Proofs.YtcnahmgekicbdaaGreat.YH s y r σ):=by
 unfold Proofs.YtcnahmgekicbdaaGreat.YH;by_cases e:pl s y=pl s r
 ·rw [if_pos e];refine⟨h.bl,fun m hm x hx r' hr' hrn=>?_,h.hh⟩;have hx:x ∈ ZT σ.be (pl s y) (σ.be (pl s y) ++ [⟨5,y,r,0,Us s σ r⟩]) m:=hx;by_cases c:m=pl s y
  ·subst c;rw [Zq] at hx;rcases List.mem_append.1 hx with hx | hx
   ·exact h.bw _ hm x hx r' hr' hrn
   ·rw [List.mem_singleton.1 hx] at hr' ⊢;have:r=r':=by have:(r:Int)=r':=hr';omega
    subst this;refine⟨h3,fun q b j hq hW hb hne hM=>?_⟩;rcases hB q b _ j hq hW hb hm hne hM with z | z
    ·left;show(j:Int) < (Us s σ r).getD (li s b (pl s y)) 0;rw [Zde (Jj hb hm)];exact z
    ·exact absurd z (by rw [← e];exact hne)
  ·rw [ZA c] at hx;exact h.bw m hm x hx r' hr' hrn
 ·rw [if_neg e];have mb:∀ q b w j,Msg s (Proofs.YtcnahmgekicbdaaGreat.send s (pl s r) (pl s y) ⟨5,y,r,0,Us s σ r⟩ σ) q b w j ->Msg s σ q b w j:=fun q b w j hM=>(Msg.s1 (S1.send (by show(5:Int) ≠ 1;decide))).1 hM
  refine⟨fun a w jb x ha hw hx hk r' hr' hrn=>?_,fun m hm x hx r' hr' hrn=>?_,fun e he z y' r' hy' hr' hyn hrn q hq hW=>?_⟩
  ·rcases Xn.1 hx with hx | ⟨e1,e2,rfl⟩
   ·obtain⟨c1,c2⟩:=h.bl a w jb x ha hw hx hk r' hr' hrn;exact⟨c1,fun q b j hq hW hb hne hM=>c2 q b j hq hW hb hne (mb q b w j hM)⟩
   ·have:r=r':=by have:(r:Int)=r':=hr';omega
    subst this;obtain⟨e3,e4⟩:=Zp0 hw (hS.pl hy).2 e1;refine⟨h3,fun q b j hq hW hb hne hM=>?_⟩;have hM':=mb q b w j hM;rcases hB q b w j hq hW hb hw hne hM' with z | z
    ·left;show(j:Int) < (Us s σ r).getD (li s b w) 0;rw [Zde (Jj hb hw)];exact z
    ·right;refine⟨by rw [z,e3],?_⟩;have:=hM'.lt;rw [e2,e3,← z];exact this
  ·obtain⟨c1,c2⟩:=h.bw m hm x hx r' hr' hrn;exact⟨c1,fun q b j hq hW hb hne hM=>c2 q b j hq hW hb hne (mb q b m j hM)⟩
  ·obtain⟨c1,c2⟩:=h.hh e he z y' r' hy' hr' hyn hrn q hq hW;exact⟨c1,fun b j hb hne hM=>c2 b j hb hne (mb q b _ j hM)⟩
theorem ZwZ {ld:Nat ->Nat} {l:List Zd}:∀ k j,UU s ld w l k=some j ->rdy s ld w (l.getD j default):=by
 intro k
 induction k with
 | zero=>intro j h;cases h
 | succ k ih=>
   intro j h;rw [UU] at h;by_cases c:rdy s ld w (l.getD k default)∧∀ j,UU s ld w l k=some j ->Zef s (l.getD j default) < Zef s (l.getD k default)
   ·rw [ZH c] at h;cases h;exact c.1
   ·rw [ZG c] at h;exact ih j h
theorem HB.dead (hS:Y8 s) (ki:KI s σ) (kn:Kn s σ) (h:Mk s σ) (hr:r < nn s) (h3:σ.st r=3):HB s σ r:=fun q b w j hq ⟨m,e⟩ hb hw hne hM=>by
 have hq3:=Zfi hS kn ki hr h3 m q hq e;have h1:=h.m1 q b w j hq hb hw hne hq3 hM;have h2:=h.chain hS ki kn (Jj hb hw) m q r hq hr h3 e;left;omega
theorem ZG5 (h1:P1 s σ) (hb:b < mm s) (hw:w < mm s) (hM:Msg s σ q b w j):pl s q=b:=by
 obtain⟨x,hx,hxk,hxp⟩:=hM;obtain⟨p',e1,_,_,c⟩:=h1.lets b w hb hw x (List.mem_of_getElem? hx);have:p'=q:=by omega
 subst this;rcases c with⟨_,c,_⟩ | ⟨k,_⟩ | ⟨k,_⟩ | ⟨k,_⟩ | ⟨k,_⟩
 ·exact c
 all_goals omega
theorem HB.dying (hS:Y8 s) (h1:P1 s σ) (ki:KI s σ) (kn:Kn s σ) (h:Mk s σ) (hp:p < nn s) (hA:Alo s σ p):HB s σ p:=fun q b w j hq hW hb hw hne hM=>by
 by_cases e:q=p
 ·subst e;exact .inr (ZG5 h1 hb hw hM).symm
 ·left;obtain⟨c,hc,hci,m,hm⟩:=ZAQ (hS:=hS) hq hW e;have hkc:=hA c hc hci;obtain⟨c',ec,_,_,hd⟩:=kn.rng p hp _ hkc;have:c=c':=by omega
  subst this;have hq3:=Zfi hS kn ki hc hd m q hq hm;have h1':=h.m1 q b w j hq hb hw hne hq3 hM;have h2:=h.chain hS ki kn (Jj hb hw) m q c hq hc hd hm;have h3:=h.m2 p c hp hc hkc _ (Jj hb hw);omega
theorem HB.congr (h:HB s σ r) (h1:S1 σ τ) (h2:τ.ma=σ.ma):HB s τ r:=fun q b w j hq hW hb hw hne hM=>by rw [h2];exact h q b w j hq hW hb hw hne ((Msg.s1 h1).1 hM)
theorem Bel.Zu (hS:Y8 s) (hr:r < nn s):∀ (l:List Int) (σ:TS),(∀ x ∈ l,∃ k:Nat,x= (k:Int)∧k < nn s) ->Bel s σ ->σ.st r=3 ->HB s σ r ->Bel s (Proofs.YtcnahmgekicbdaaGreat.Zu s r l σ):=by
 intro l
 induction l with
 | nil=>intro σ _ h _ _;exact h
 | cons x l ih=>
   intro σ hx h h3 hB;obtain⟨k,rfl,hk⟩:=hx x (by simp);have z:=ZbL (s:=s) k r σ;show Bel s (Proofs.YtcnahmgekicbdaaGreat.Zu s r l (Proofs.YtcnahmgekicbdaaGreat.YH s ((k:Int)).toNat r σ));rw [Int.toNat_natCast];exact ih _ (fun y hy=>hx y (by simp [hy])) (h.YH hS hk hr h3 hB) (by rw [z.1];exact h3) (hB.congr (.YH k r) z.2.2.1)
theorem Bel.note (hS:Y8 s) (h:Bel s σ) (hy:y < nn s) (hr:r < nn s) (hB:σ.st r=3 ->HB s σ r):Bel s (Proofs.YtcnahmgekicbdaaGreat.note s y r σ):=by
 unfold Proofs.YtcnahmgekicbdaaGreat.note;by_cases e:σ.st r=3
 ·rw [if_pos e];exact h.YH hS hy hr e (hB e)
 ·rw [if_neg e];exact⟨h.bl,h.bw,h.hh⟩
theorem Bel.act (hS:Y8 s) (h1:P1 s σ) (h2:P2 s σ) (h3:P3 s σ) (ki:KI s σ) (hMk:Mk s σ) (h:Bel s σ) (ac:Act s σ τ):Bel s τ:=by
 have kn:=h2.kn;have hd:∀ r q,r < nn s ->q < nn s ->σ.st r=3 ->Wth s r q ->σ.st q=3:=fun r q hr hq z ⟨m,e⟩=>Zfi hS kn ki hr z m q hq e
 have r0:∀ i,σ.ld i <=σ.ld i:=fun _=>Nat.le_refl _
 have b0:∀ m,∀ x ∈ σ.be m,x ∈ σ.be m:=fun _ _ z=>z
 have ev1:∀ (l:List Zg) (e:Zg),e.kZ ≠ 4 ->∀ y ∈ l ++ [e],y.kZ=4 ->y ∈ l:=fun l e he y hy z=>by
  rcases List.mem_append.1 hy with hy | hy
  ·exact hy
  ·rw [List.mem_singleton.1 hy] at z;exact absurd z he
 have ZLe:∀ (ρ:TS) (p q:Nat) (n:Int),∀ y ∈ (see p q n ρ).ev,y.kZ=4 ->y ∈ ρ.ev:=fun ρ p q n y hy z=>by
  unfold see at hy;split at hy
  ·exact ev1 _ _ (by show(2:Int) ≠ 4;decide) y hy z
  ·exact hy
 cases ac with
 | @fall p hp hst=>
   refine h.same (fun q b w j _ _ hM=>hM) (.refl' rfl) (fun q _ z=>?_) r0 b0 (ev1 _ _ (by show(5:Int) ≠ 4;decide)) hd;show ZT σ.st p 2 q=3;rw [ZA (fun e=>by subst e;rw [hst] at z;cases z)];exact z
 | J7=>exact h.same (fun q b w j _ _ hM=>(Msg.s1 (S1.send (by show(3:Int) ≠ 1;decide))).1 hM) (.send (by show(3:Int) ≠ 5;decide)) (fun _ _ z=>z) r0 b0 (fun _ z _=>z) hd
 | @die p hp hst hA=>
   have sA:=X7 (s:=s) p σ
   have st3:∀ q,q < nn s ->σ.st q=3 ->ZT σ.st p 3 q=3:=fun q _ z=>by
    by_cases e:q=p
    ·subst e;exact Zq _ _ _
    ·rw [ZA e];exact z
   have c0:Bel s (QW p σ):=h.same (fun q b w j _ _ hM=>hM) (.refl' rfl) st3 r0 b0 (ev1 _ _ (by show(6:Int) ≠ 4;decide)) hd
   have cA:Bel s (ZF s p σ):=by
    have:=Bel.Zu hS hp (σ.wa p) (QW p σ) (h1.ws p hp) c0 (Zq _ _ _) ((HB.dying hS h1 ki kn hMk hp hA).congr (.refl' rfl) rfl);exact⟨this.bl,this.bw,this.hh⟩
   unfold JI;split
   ·exact cA
   ·split
    ·exact⟨cA.bl,cA.bw,cA.hh⟩
    ·have mb:∀ q b w j,Msg s (send s (pl s p) (pl s (inn s (p:Int)).toNat) ⟨4,(p:Int),0,0,Us s (ZF s p σ) p⟩ (ZF s p σ)) q b w j ->Msg s (ZF s p σ) q b w j:=fun q b w j hM=>(Msg.s1 (S1.send (by show(4:Int) ≠ 1;decide))).1 hM
     refine⟨fun a w jb x ha hw hx hk r hr hrn=>?_,fun m hm x hx r hr hrn=>?_,fun e he z y r hy hr hyn hrn q hq hW=>?_⟩
     ·obtain⟨c1,c2⟩:=cA.bl a w jb x ha hw ((S5.send (by show(4:Int) ≠ 5;decide) _ _ _ hk).1 hx) hk r hr hrn;exact⟨c1,fun q b j hq hW hb hne hM=>c2 q b j hq hW hb hne (mb q b w j hM)⟩
     ·obtain⟨c1,c2⟩:=cA.bw m hm x hx r hr hrn;exact⟨c1,fun q b j hq hW hb hne hM=>c2 q b j hq hW hb hne (mb q b m j hM)⟩
     ·obtain⟨c1,c2⟩:=cA.hh e he z y r hy hr hyn hrn q hq hW;exact⟨c1,fun b j hb hne hM=>c2 b j hb hne (mb q b _ j hM)⟩
 | @ZaS p q hp hq hst e0=>
   have z:=XT q p σ.sd (kK p q σ);refine h.same (fun q b w j _ _ hM=>(Msg.s1 (S1.refl' z.2.2.2.2.1)).1 hM) (.refl' z.2.2.2.2.1) (fun q _ hq3=>by rw [z.1];exact hq3) (by rw [z.2.2.2.1];exact r0) (by rw [z.2.2.2.2.2.1];exact b0) (fun y hy h4=>?_) hd;exact ev1 σ.ev _ (by show(1:Int) ≠ 4;decide) y (ZLe (kK p q σ) q p σ.sd y hy h4) h4
 | @ZaR p q hp hq hst e0=>
   refine h.same (fun q' b w j _ h3' hM=>?_) (.send (by show(1:Int) ≠ 5;decide)) (fun _ _ z=>z) r0 b0 (ev1 _ _ (by show(1:Int) ≠ 4;decide)) hd;obtain⟨x,hx,hk,hxp⟩:=hM;rcases Xn.1 hx with hx | ⟨_,_,rfl⟩
   ·exact⟨x,hx,hk,hxp⟩
   ·have:p=q':=by have:(p:Int)=q':=hxp;omega
    subst this;rw [hst] at h3';cases h3'
 | @ZaN p q hp hq hst e0=>
   have c:Bel s (tell 3 p q 0 σ):=h.same (fun q b w j _ _ hM=>hM) (.refl' rfl) (fun _ _ z=>z) r0 b0 (ev1 _ _ (by show(3:Int) ≠ 4;decide)) hd;exact c.note hS hp hq fun z=>(HB.dead hS ki kn hMk hq z).congr (.refl' rfl) rfl
 | @ZaM p q hp hq hst e0=>exact h.same (fun q b w j _ _ hM=>(Msg.s1 ((S1.refl' (σ:=σ) (τ:=tell 3 p q 0 σ) rfl).trans (S1.send (by show(2:Int) ≠ 1;decide)))).1 hM) (.send (by show(2:Int) ≠ 5;decide)) (fun _ _ z=>z) r0 b0 (ev1 _ _ (by show(3:Int) ≠ 4;decide)) hd
 | @Za0 a b p q=>
   have z:=XT q p (Proofs.YtcnahmgekicbdaaGreat.hd σ (li s a b)).n (drop1 (li s a b) σ);refine h.same (fun q b w j _ _ hM=>(Msg.s1 (S1.refl' z.2.2.2.2.1)).1 hM) (.refl' z.2.2.2.2.1) (fun q _ hq3=>by rw [z.1];exact hq3) (by rw [z.2.2.2.1];exact Wz _) (by rw [z.2.2.2.2.2.1];exact b0) (fun y hy h4=>ZLe (drop1 (li s a b) σ) _ _ _ y hy h4) hd
 | @Za2 a b p q ha hb hl hk hp hq hpn JL=>
   have c:Bel s (drop1 (li s a b) σ):=h.same (fun q b w j _ _ hM=>hM) (.refl' rfl) (fun _ _ z=>z) (Wz _) b0 (fun _ z _=>z) hd;exact c.note hS hpn JL fun z=>(HB.dead hS ki kn hMk JL z).congr (.refl' rfl) rfl
 | Zab=>exact h.same (fun q b w j _ _ hM=>hM) (.refl' rfl) (fun _ _ z=>z) (Wz _) b0 (fun _ z _=>z) hd
 | KV=>exact h.same (fun q b w j _ _ hM=>hM) (.refl' rfl) (fun _ _ z=>z) (Wz _) b0 (fun _ z _=>z) hd
 | @Za1 a b ha hb hl hk=>
   have c:Bel s (drop1 (li s a b) σ):=h.same (fun q b w j _ _ hM=>hM) (.refl' rfl) (fun _ _ z=>z) (Wz _) b0 (fun _ z _=>z) hd;refine⟨c.bl,fun m hm x hx r hr hrn=>?_,c.hh⟩;have hx:x ∈ ZT σ.be b (σ.be b ++ [Proofs.YtcnahmgekicbdaaGreat.hd σ (li s a b)]) m:=hx;by_cases e:m=b
   ·subst e;rw [Zq] at hx;rcases List.mem_append.1 hx with hx | hx
    ·exact c.bw m hm x hx r hr hrn
    ·rw [List.mem_singleton.1 hx] at hr ⊢;obtain⟨c1,c2⟩:=h.bl a m _ _ ha hb (Zel hl) hk r hr hrn;refine⟨c1,fun q b' j hq hW hb' hne hM=>(c2 q b' j hq hW hb' hne hM).imp id fun⟨e1,e2⟩=>?_⟩;show j < ZT σ.ld (li s a m) (σ.ld (li s a m) + 1) (li s b' m);rw [e1,Zq];omega
   ·rw [ZA e] at hx;exact c.bw m hm x hx r hr hrn
 | @ring w i hw hpk=>
   have z:=Qq s w i σ;have hi:i < (σ.be w).length:=Zc9 _ _ hpk;have mb:∀ q b w' j,Msg s (rung s w i σ) q b w' j ->Msg s σ q b w' j:=fun q b w' j hM=>(Msg.s1 (S1.refl' z.2.2.2.2.2.1)).1 hM
   have c:Bel s {σ with be:=ZT σ.be w (Zcd (σ.be w) i)}:=h.same (fun q b w j _ _ hM=>hM) (.refl' rfl) (fun _ _ z=>z) r0 (fun m x hx=>by
    have hx:x ∈ ZT σ.be w (Zcd (σ.be w) i) m:=hx;by_cases e:m=w
    ·subst e;rw [Zq] at hx;exact ZcO hx
    ·rwa [ZA e] at hx) (fun _ z _=>z) hd
   unfold rung;split
   ·refine⟨c.bl,c.bw,fun e he h4 y r hy hr hyn hrn q hq hW=>?_⟩;have he:e ∈ σ.ev ++ [⟨4,((σ.be w).getD i default).kV,((σ.be w).getD i default).kX,0⟩]:=he;rcases List.mem_append.1 he with he | he
    ·exact c.hh e he h4 y r hy hr hyn hrn q hq hW
    ·rw [List.mem_singleton.1 he] at hy hr;have hy:((σ.be w).getD i default).kV= (y:Int):=hy;have hr:((σ.be w).getD i default).kX= (r:Int):=hr;have hmem:=Xd (d:=default) hi;obtain⟨p',e1,_,e2⟩:=h3 w hw _ hmem;have:p'=y:=by omega
     subst this;obtain⟨c1,c2⟩:=h.bw w hw _ hmem r hr hrn;refine⟨hd r q hrn hq c1 hW,fun b j hb hne hM=>?_⟩;rw [e2] at hne hM ⊢;rcases c2 q b j hq hW hb hne hM with z1 | z1
     ·have hrd:rdy s σ.ld w ((σ.be w).getD i default):=ZwZ _ _ hpk;have:=hrd b hb hne;show j < σ.ld (li s b w);omega
     ·exact z1
   ·exact c
end
end
section
structure RuO (s:Zb) (σ:TS):Prop where
 told:∀ e ∈ σ.ev,Told s e
 ok:∀ k,k < σ.ev.length ->KR s (σ.ev.take k) (σ.ev.getD k default)=0
section
variable {s:Zb} {σ τ υ:TS} {F B a b p q w i j n d r p0 q0 y:Nat} {x:Zd} {k:Int} {e:Zg} {l:List ZE} {picks:List Int} {L:List Zg}
theorem RuO.congr (h:RuO s σ) (he:τ.ev=σ.ev):RuO s τ:= ⟨by rw [he];exact h.told,by rw [he];exact h.ok⟩
theorem RuO.add (h:RuO s σ) (he:τ.ev=σ.ev ++ [e]) (ht:Told s e) (hr:KR s σ.ev e=0):RuO s τ:=by
 refine⟨fun y hy=>?_,fun k hk=>?_⟩
 ·rw [he] at hy;rcases List.mem_append.1 hy with hy | hy
  ·exact h.told y hy
  ·rw [List.mem_singleton.1 hy];exact ht
 ·rw [he] at hk ⊢;rw [List.length_append,List.length_singleton] at hk;by_cases c:k < σ.ev.length
  ·rw [List.take_append_of_le_length (by omega)]
   have:(σ.ev ++ [e]).getD k default=σ.ev.getD k default:=by
    rw [List.getD_eq_getElem?_getD,List.getElem?_append_left c,← List.getD_eq_getElem?_getD]
   rw [this];exact h.ok k c
  ·have:k=σ.ev.length:=by omega
   subst this;rw [List.take_append_of_le_length (Nat.le_refl _),List.take_length]
   have:(σ.ev ++ [e]).getD σ.ev.length default=e:=by
    rw [List.getD_eq_getElem?_getD,List.getElem?_append_right (Nat.le_refl _),Nat.sub_self];rfl
   rw [this];exact hr
theorem Zaf (hp:p < nn s):Pl s (p:Int):= ⟨p,rfl,hp⟩
theorem Zai (h:EvS s σ) (hp:p < nn s) (h1:σ.st p=1):c3 σ.ev 5 (p:Int) 0=0:=by rw [h.e5 p hp,Z4 (fun z=>z h1)]
theorem ZDG (n:Int) (h5:c3 L 5 (p:Int) 0=0) (hk:k1 L ⟨1,p,q,n⟩=0):KR s L ⟨1,p,q,n⟩=0:=by
 unfold KR;rw [hk];show(bif((1:Int) !=6) && decide (c3 L 5 (p:Int) 0 > 0) then _ else _)=_;rw [h5];rfl
theorem ZDF (n:Int) (h5:c3 L 5 (p:Int) 0=0) (hk:0 < k1 L ⟨2,p,q,n⟩) (hk2:k2 L ⟨2,p,q,n⟩=0) (hs:Zv6 s L ⟨2,p,q,n⟩=false):KR s L ⟨2,p,q,n⟩=0:=by
 unfold KR;rw [hk2,hs,decide_eq_false (show ¬ k1 L ⟨2,p,q,n⟩=0 by omega)];show(bif((2:Int) !=6) && decide (c3 L 5 (p:Int) 0 > 0) then _ else _)=_;rw [h5];rfl
theorem ZDE (h5:c3 L 5 (p:Int) 0=0) (o:Int):KR s L ⟨3,p,o,0⟩=0:=by
 unfold KR;show(bif((3:Int) !=6) && decide (c3 L 5 (p:Int) 0 > 0) then _ else _)=_;rw [h5];rfl
theorem ZLo (h5:c3 L 5 (p:Int) 0=0):KR s L ⟨5,p,0,0⟩=0:=by
 unfold KR;show(bif((5:Int) !=6) && decide (c3 L 5 (p:Int) 0 > 0) then _ else _)=_;rw [h5];rfl
theorem ZLp (h5:c3 L 5 (p:Int) 0=0) (h6:c3 L 6 (q:Int) 0 ≠ 0) (hc:c3 L 4 (p:Int) (q:Int) < c3 L 3 (p:Int) (q:Int)):KR s L ⟨4,p,q,0⟩=0:=by
 unfold KR;show(bif((4:Int) !=6) && decide (c3 L 5 (p:Int) 0 > 0) then(1:Int) else bif false then _ else bif false then _ else bif false then _ else bif true then(bif decide (c3 L 6 (q:Int) 0=0) || decide (c3 L 4 (p:Int) (q:Int) >=c3 L 3 (p:Int) (q:Int)) then 4 else 0) else 0)=_;rw [h5,decide_eq_false h6,decide_eq_false (show ¬ c3 L 4 (p:Int) (q:Int) >=c3 L 3 (p:Int) (q:Int) by omega)];rfl
theorem ZLn (h5:c3 L 5 (p:Int) 0 ≠ 0) (h6:c3 L 6 (p:Int) 0=0) (hk:Zsh s L (p:Int)=false):KR s L ⟨6,p,0,0⟩=0:=by
 unfold KR;show(bif false && _ then(1:Int) else bif false then _ else bif false then _ else bif true then(bif(decide (c3 L 5 (p:Int) 0=0) || decide (c3 L 6 (p:Int) 0 > 0)) || Zsh s L (p:Int) then 3 else 0) else _)=_;rw [hk,h6,decide_eq_false h5];rfl
theorem Zmm {α:Type} {f:α ->Bool} {l:List α} (h:∀ x ∈ l,f x=false):l.countP f=0:=by
 rw [List.countP_eq_zero];intro x hx;rw [h x hx];decide
theorem ZzR (y:Nat):(atW s (y:Int)).toNat=pl s y:=by unfold atW pl;rw [Int.toNat_natCast];rfl
theorem ZrI (hS:Y8 s) (hR:EvR s σ) (hB:Bel s σ) (hq:q < nn s) (hp:p < nn s) (hM:σ.st p ≠ 3∨∃ b j,b < mm s∧b ≠ pl s q∧Msg s σ p b (pl s q) j∧¬ j < σ.ld (li s b (pl s q))) (n:Int):Zv6 s σ.ev ⟨2,q,p,n⟩=false:=by
 unfold Zv6;rw [List.any_eq_false];intro e he z;simp only [Ba0,beq_iff_eq] at z;obtain⟨⟨z1,z2⟩,z3⟩:=z;obtain⟨⟨y,ey,hy⟩,⟨r,er,hr⟩⟩:=hR e he;rw [ey] at z2;rw [er,Int.toNat_natCast,Int.toNat_natCast] at z3;have hW:= (ZaK hS.inn (show p < s.Zf.length from hp)).1 z3;have hpl:pl s y=pl s q:=by rw [← ZzR,← ZzR,z2]
 obtain⟨c1,c2⟩:=hB.hh e he z1 y r ey er hy hr p hp hW;rcases hM with hM | ⟨b,j,hb,hne,hMs,hn⟩
 ·exact hM c1
 ·rw [hpl] at c2;exact hn (c2 b j hb hne hMs)
theorem RuO.act (hS:Y8 s) (h1:P1 s σ) (h2:P2 s σ) (h3:P3 s σ) (ki:KI s σ) (hR:EvR s σ) (hE:EvS s σ) (hN:Num σ) (ZOg:Bal s σ) (hB:Bel s σ) (h:RuO s σ) (ac:Act s σ τ):RuO s τ:=by
 have kn:=h2.kn
 have ZLc:∀ (ρ:TS) (q p:Nat) (n:Int),RuO s ρ ->q < nn s ->p < nn s ->0 <=n ->(ρ.st q=1 ->KR s ρ.ev ⟨2,q,p,n⟩=0) ->RuO s (see q p n ρ):=fun ρ q p n hρ hq hp hn hr=>by
  unfold see;split
  ·rename_i hst;exact hρ.add (e:= ⟨2,q,p,n⟩) rfl ⟨Zaf hq,hn,.inl ⟨.inr rfl,Zaf hp⟩⟩ (hr hst)
  ·exact hρ
 cases ac with
 | @fall p hp hst=>exact h.add (e:= ⟨5,p,0,0⟩) rfl ⟨Zaf hp,Int.le_refl _,.inr (.inr ⟨.inl rfl,rfl,rfl⟩)⟩ (ZLo (Zai hE hp hst))
 | J7=>exact h.congr rfl
 | @die p hp hst hA=>
   have sA:=X7 (s:=s) p σ
   have hA':RuO s (ZF s p σ):=by
    refine h.add (e:= ⟨6,p,0,0⟩) sA.2.2.2.2.1 ⟨Zaf hp,Int.le_refl _,.inr (.inr ⟨.inr rfl,rfl,rfl⟩)⟩ (ZLn ?_ ?_ ?_)
    ·rw [hE.e5 p hp,Xa (by rw [hst];decide)];decide
    ·rw [hE.e6 p hp,Z4 (by rw [hst];decide)]
    ·unfold Zsh;rw [List.any_eq_false];intro q hq z;simp only [Ba0,beq_iff_eq,decide_eq_true_eq] at z;have hq':q < nn s:=List.mem_range.1 hq;obtain⟨k',ek,_,_,hd⟩:=kn.rng p hp _ (hA q hq' z.1);have:q=k':=by omega
     subst this;have:=z.2;rw [hE.e6 q hq',Xa hd] at this;cases this
   unfold JI;split
   ·exact hA'
   ·split
    ·exact hA'.congr rfl
    ·exact hA'.congr rfl
 | @ZaS p q hp hq hst e0=>
   have k0:∀ (m:Int),k1 σ.ev ⟨1,p,q,σ.sd⟩=0:=fun _=>Zmm fun x hx=>by
    by_cases z:x.kZ=1
    ·have:= (hN.n1 x hx (.inl z)).2;rw [show(x.n== (⟨1,p,q,σ.sd⟩:Zg).n)=false from beq_eq_false_iff_ne.2 (by show x.n ≠ σ.sd;omega)];simp
    ·rw [show(x.kZ==1)=false from beq_eq_false_iff_ne.2 z];simp
   have c1:RuO s (kK p q σ):=h.add (e:= ⟨1,p,q,σ.sd⟩) rfl ⟨Zaf hp,hN.n0,.inl ⟨.inl rfl,Zaf hq⟩⟩ (ZDG _ (Zai hE hp hst) (k0 0));refine ZLc (kK p q σ) q p σ.sd c1 hq hp hN.n0 fun Zhb=>?_
   have ev:(kK p q σ).ev=σ.ev ++ [⟨1,p,q,σ.sd⟩]:=rfl;have Zhb:σ.st q=1:=Zhb;refine ZDF _ ?_ ?_ ?_ ?_
   ·rw [ev,ZbJ,Zai hE hq Zhb,Z4 (fun z=>by have:(1:Int)=5:=z.1;omega)]
   ·rw [ev];unfold k1;rw [List.countP_append];simp
   ·rw [ev]
    exact Zmm fun x hx=>by
     by_cases z:x.kZ=2
     ·rcases List.mem_append.1 hx with hx | hx
      ·have:= (hN.n1 x hx (.inr z)).2;rw [show(x.n== (⟨2,q,p,σ.sd⟩:Zg).n)=false from beq_eq_false_iff_ne.2 (by show x.n ≠ σ.sd;omega)];simp
      ·rw [List.mem_singleton.1 hx] at z;exact absurd z (by show ¬ (1:Int)=2;decide)
     ·rw [show(x.kZ==2)=false from beq_eq_false_iff_ne.2 z];rfl
   ·have:=ZrI (n:=σ.sd) hS hR hB hq hp (.inl (by rw [hst];decide));rw [ev];unfold Zv6 at this ⊢;rw [List.any_append,this];simp
 | @ZaR p q hp hq hst e0=>
   have k0:k1 σ.ev ⟨1,p,q,σ.sd⟩=0:=Zmm fun x hx=>by
    by_cases z:x.kZ=1
    ·have:= (hN.n1 x hx (.inl z)).2;rw [show(x.n== (⟨1,p,q,σ.sd⟩:Zg).n)=false from beq_eq_false_iff_ne.2 (by show x.n ≠ σ.sd;omega)];simp
    ·rw [show(x.kZ==1)=false from beq_eq_false_iff_ne.2 z];simp
   exact h.add (e:= ⟨1,p,q,σ.sd⟩) rfl ⟨Zaf hp,hN.n0,.inl ⟨.inl rfl,Zaf hq⟩⟩ (ZDG _ (Zai hE hp hst) k0)
 | @ZaN p q hp hq hst e0=>exact(h.add (τ:=tell 3 p q 0 σ) (e:= ⟨3,p,q,0⟩) rfl ⟨Zaf hp,Int.le_refl _,.inr (.inl ⟨.inl rfl,Zaf hq,rfl⟩)⟩ (ZDE (Zai hE hp hst) q)).congr (Xc (s:=s) p q (tell 3 p q 0 σ)).2.2.2.2.2
 | @ZaM p q hp hq hst e0=>exact h.add (e:= ⟨3,p,q,0⟩) rfl ⟨Zaf hp,Int.le_refl _,.inr (.inl ⟨.inl rfl,Zaf hq,rfl⟩)⟩ (ZDE (Zai hE hp hst) q)
 | @Za0 a b p q ha hb hl hk hpe hqe hp hq=>
   have hg:=Zel hl;obtain⟨n1,n2,e,he,e1,e2,e3,e4⟩:=hN.n5 _ _ _ hg hk;refine ZLc (drop1 (li s a b) σ) q p _ (h.congr rfl) hq hp n1 fun hst=>?_
   have hst:σ.st q=1:=hst;have hlet:=h1.lets a b ha hb _ (ZcH hl)
   have hpq:pl s p=a∧pl s q=b:=by
    obtain⟨p',hp',_,_,c⟩:=hlet;have:p'=p:=by omega
    subst this;rcases c with⟨k,c1,q',hq',_,c2⟩ | ⟨k,_⟩ | ⟨k,_⟩ | ⟨k,_⟩ | ⟨k,_⟩
    ·have:q'=q:=by omega
     subst this;exact⟨c1,c2⟩
    all_goals omega
   have hab:a ≠ b:=fun z=>by
    subst z;have:=h1.self a ha;rw [this] at hl;simp at hl
   refine ZDF (L:=σ.ev) _ (Zai hE hq hst) ?_ ?_ ?_
   ·show 0 < σ.ev.countP _;rw [List.countP_pos_iff];refine⟨e,he,?_⟩;rw [e1,e4,e2,e3,hpe,hqe];simp
   ·exact Zmm fun x hx=>by
     by_cases z:x.kZ=2
     ·have hne:x.n ≠ (hd σ (li s a b)).n:=fun z'=>by
       have:=hN.n3 x hx z _ _ _ hg hk z'.symm;omega
      rw [show(x.n== (⟨2,q,p,(hd σ (li s a b)).n⟩:Zg).n)=false from beq_eq_false_iff_ne.2 hne];simp
     ·rw [show(x.kZ==2)=false from beq_eq_false_iff_ne.2 z];rfl
   ·refine ZrI hS hR hB hq hp (.inr ⟨a,σ.ld (li s a b),ha,by rw [hpq.2];exact hab,?_,?_⟩) _
    ·rw [hpq.2];exact⟨_,hg,hk,hpe⟩
    ·rw [hpq.2];omega
 | @Za2 a b p q=>exact h.congr (Xc (s:=s) p q (drop1 (li s a b) σ)).2.2.2.2.2
 | Zab=>exact h.congr rfl
 | KV=>exact h.congr rfl
 | Za1=>exact h.congr rfl
 | @ring w i hw hpk=>
   have hi:i < (σ.be w).length:=Zc9 _ _ hpk;have hmem:=Xd (d:=default) hi;obtain⟨p,hpe,hp,hpw⟩:=h3 w hw _ hmem;obtain⟨⟨_,⟨q,hqe,hq⟩,_⟩,hk⟩:=h1.bea w hw _ hmem
   have hb1:0 < bb s σ p q:=by
    have hc:=Zxw (k:=5) (p:=p) (q:=q) hi;rw [Xa ⟨hk,hpe,hqe⟩] at hc;unfold bb;rw [hpw];omega
   have hd3:=ZOg.dead p q hp hq (by omega);have hle:=ZOg.le p q hp hq;unfold ec at hle;unfold rung;rw [hpe,hqe,Int.toNat_natCast];split
   ·rename_i hst;refine h.add (e:= ⟨4,p,q,0⟩) rfl ⟨Zaf hp,Int.le_refl _,.inr (.inl ⟨.inr rfl,Zaf hq,rfl⟩)⟩ (ZLp (Zai hE hp hst) ?_ (by omega));rw [hE.e6 q hq,Xa hd3];decide
   ·exact h.congr rfl
structure Wx (s:Zb) (σ:TS):Prop where
 p1:P1 s σ
 p2:P2 s σ
 p3:P3 s σ
 ki:KI s σ
 er:EvR s σ
 es:EvS s σ
 nu:Num σ
 ba:Bal s σ
 mb:MB s σ
 Us:Mk s σ
 be:Bel s σ
 ru:RuO s σ
theorem Wx.act (hS:Y8 s) (h:Wx s σ) (ac:Act s σ τ):Wx s τ:=
 ⟨h.p1.act hS ac,h.p2.act hS ac,h.p3.act h.p1 ac,h.ki.act hS h.p2 ac,h.er.act hS h.p1 ac,h.es.act ac,h.nu.act ac,h.ba.act hS h.p1 h.p2 h.p3 ac,h.mb.act ac,h.Us.act hS h.p1 h.p2 h.ki h.mb ac,h.be.act hS h.p1 h.p2 h.p3 h.ki h.Us ac,h.ru.act hS h.p1 h.p2 h.p3 h.ki h.er h.es h.nu h.ba h.be ac⟩
theorem inv0 (hS:Y8 s):Wx s ts0:=by
 have h0:=ok0 hS;have nil:∀ {α:Type} (x:α),¬ x ∈ ([]:List α):=fun x h=>by cases h
 have sn:∀ (i j:Nat) (x:Zd),¬ (ts0.sn i)[j]? =some x:=fun i j x h=>by simp [ts0] at h
 exact⟨h0.p1,h0.p2,fun w _ x hx=>absurd hx (nil x),h0.ki,fun e he=>absurd he (nil e),⟨fun p _=>.inl rfl,fun p _=>rfl,fun p _=>rfl,fun e he=>absurd he (nil e)⟩,
  ⟨Int.le_refl _,fun e he=>absurd he (nil e),fun i j x hx=>absurd hx (sn i j x),fun i j x i' j' x' hx=>absurd hx (sn i j x),fun e he=>absurd he (nil e)⟩,
  ⟨fun p q _ _=>Nat.le_refl 0,fun p q _ _ _=>rfl,fun p q _ _ z=>absurd z (Nat.lt_irrefl 0),fun p q _ _ _=>rfl⟩,
  ⟨fun p i _=>by show(0:Int) <=0;omega,fun j x hx=>absurd hx (nil x),fun m x hx=>absurd hx (nil x)⟩,
  ⟨fun q b w j _ _ _ _ _ hM=>absurd hM.choose_spec.1 (sn _ _ _),fun p k _ _ hk=>absurd hk (nil _),fun i j x hx=>absurd hx (sn i j x)⟩,
  ⟨fun a w jb x _ _ hx=>absurd hx (sn _ _ _),fun m _ x hx=>absurd hx (nil x),fun e he=>absurd he (nil e)⟩,
  ⟨fun e he=>absurd he (nil e),fun k hk=>absurd hk (Nat.not_lt_zero _)⟩⟩
theorem Uk (hS:Y8 s) (h:Qa s ts0 σ):Wx s σ:=h.keep (P:=Wx s) (fun _ _ h ac=>h.act hS ac) (inv0 hS)
end
end
section
def hst (s:Zb) (r:Nat) (a:Int) (m:List (Ztg×Bool)):Nat ->List (Ztg×Bool)
 | 0=>m
 | v + 1=>if ZeG s r v then ZnH (hst s r a m v) ⟨a,(v:Int)⟩ true else hst s r a m v
section
variable {s:Zb} {σ τ υ:TS} {F B a b p q w i j n d r v k:Nat} {l:List ZE} {picks:List Int} {L:List Zg}
end
end
section
structure InZ (s:Zb) (Z:Nat ->Prop) (σ:TS):Prop where
 st:∀ p,p < nn s ->σ.st p ≠ 1 ->Z p
 le:∀ (i j:Nat) (x:Zd),(σ.sn i)[j]? =some x ->x.kW=3 ->∀ k:Nat,x.kV= (k:Int) ->Z k
section
variable {s:Zb} {Z:Nat ->Prop} {σ τ υ:TS} {F B a b p q w i j n d r v k:Nat} {x:Zd}
theorem InZ.congr (h:InZ s Z σ) (h1:τ.st=σ.st) (h2:τ.sn=σ.sn):InZ s Z τ:= ⟨by rw [h1];exact h.st,by rw [h2];exact h.le⟩
theorem InZ.send (h:InZ s Z σ) (hx:x.kW=3 ->∀ k:Nat,x.kV= (k:Int) ->Z k):InZ s Z (Proofs.YtcnahmgekicbdaaGreat.send s a b x σ):=by
 refine⟨h.st,fun i j y hy hk k hp=>?_⟩;rcases Xn.1 hy with hy | ⟨_,_,rfl⟩
 ·exact h.le i j y hy hk k hp
 ·exact hx hk k hp
theorem InZ.YH (h:InZ s Z σ) (p q:Nat):InZ s Z (Proofs.YtcnahmgekicbdaaGreat.YH s p q σ):=by
 unfold Proofs.YtcnahmgekicbdaaGreat.YH;split
 ·exact h.congr rfl rfl
 ·exact h.send fun z=>absurd z (by show ¬ (5:Int)=3;decide)
theorem InZ.note (h:InZ s Z σ) (p q:Nat):InZ s Z (Proofs.YtcnahmgekicbdaaGreat.note s p q σ):=by
 unfold Proofs.YtcnahmgekicbdaaGreat.note;split
 ·exact h.YH _ _
 ·exact h.congr rfl rfl
theorem InZ.ZF (h:InZ s Z σ) (hp:Z p):InZ s Z (Proofs.YtcnahmgekicbdaaGreat.ZF s p σ):=by
 have h0:InZ s Z (QW p σ):=by
  refine⟨fun q hq z=>?_,h.le⟩;have z:ZT σ.st p 3 q ≠ 1:=z;by_cases e:q=p
  ·rw [e];exact hp
  ·rw [ZA e] at z;exact h.st q hq z
 have:InZ s Z (Zu s p (σ.wa p) (QW p σ)):=QA _ (InZ s Z) _ _ h0 fun τ x _ hτ=>hτ.YH _ _
 exact this.congr rfl rfl
theorem Zzr (hS:Y8 s):∀ (d p:Nat) (σ:TS),p < nn s ->Z p ->InZ s Z σ ->InZ s Z (Kc s d p σ):=by
 intro d
 induction d with
 | zero=>intro p σ _ _ h;exact h
 | succ d ih=>
   intro p σ hp hZ h;have hA:=h.ZF hZ;show InZ s Z (ZbG s (Kc s d) p (ZF s p σ));unfold ZbG;by_cases h0:inn s (p:Int) < 0
   ·rw [if_pos h0];exact hA
   ·rw [if_neg h0];obtain⟨_,hq⟩:=Xm hS hp h0;split
    ·unfold JC;by_cases c:(Z8 s p (Us s (ZF s p σ) p) (ZF s p σ)).st (inn s (p:Int)).toNat=2∧Alo s (Z8 s p (Us s (ZF s p σ) p) (ZF s p σ)) (inn s (p:Int)).toNat
     ·rw [ZH c];have hl:InZ s Z (Z8 s p (Us s (ZF s p σ) p) (ZF s p σ)):=hA.congr rfl rfl;exact ih _ _ hq (hl.st _ hq (by rw [c.1];decide)) hl
     ·rw [ZG c];exact hA.congr rfl rfl
    ·exact hA.send fun z=>absurd z (by show ¬ (4:Int)=3;decide)
theorem ZsD (hS:Y8 s) (hZk:∀ p k:Nat,p < nn s ->k < nn s ->Z p ->inn s (k:Int)= (p:Int) ->Z k):∀ (d p:Nat) (σ:TS),p < nn s ->Z p ->InZ s Z σ ->InZ s Z (YC s d p σ):=by
 intro d
 induction d with
 | zero=>intro p σ _ _ h;exact h
 | succ d ih=>
   intro p σ hp hZ h
   have h0:InZ s Z (YD p σ):=by
    refine⟨fun q hq z=>?_,h.le⟩;have z:ZT σ.st p 2 q ≠ 1:=z;by_cases e:q=p
    ·rw [e];exact hZ
    ·rw [ZA e] at z;exact h.st q hq z
   have hk:InZ s Z (fk s (YC s d) p (nn s) (YD p σ)):=by
    refine QA _ (InZ s Z) _ _ h0 fun τ k hk hτ=>?_
    obtain⟨hkn,hki⟩:=Zis.1 (show k ∈ Zxv s p from hk);have hZ':=hZk p k hp hkn hZ hki;unfold KW;split
    ·split
     ·exact ih k τ hkn hZ' hτ
     ·exact hτ
    ·split
     ·exact hτ
     ·exact hτ.send fun _ k' e=>by have:k=k':=by have:(k:Int)=k':=e;omega
                                   subst this;exact hZ'
   show InZ s Z (ZaF s p _);unfold ZaF;by_cases c:(fk s (YC s d) p (nn s) (YD p σ)).st p=2∧Alo s (fk s (YC s d) p (nn s) (YD p σ)) p
   ·rw [ZH c];exact Zzr hS _ _ _ hp hZ hk
   ·rw [ZG c];exact hk
end
end
section
def SnP (σ τ:TS):Prop:=∀ (i j:Nat) (x:Zd),(σ.sn i)[j]? =some x ->(τ.sn i)[j]? =some x
def Fl3 (s:Zb) (σ:TS) (p k:Nat):Prop:=∃ (j:Nat) (x:Zd),(σ.sn (li s (pl s p) (pl s k)))[j]? =some x∧σ.ld (li s (pl s p) (pl s k)) <=j∧x.kW=3∧x.kV= (k:Int)
def K2 (s:Zb) (X Y:Nat ->Prop) (σ:TS):Prop:=∀ p k,p < nn s ->k < nn s ->¬ X p ->¬ Y k ->inn s (k:Int)= (p:Int) ->σ.st p ≠ 1 ->σ.st k ≠ 1∨Fl3 s σ p k
section
variable {s:Zb} {X Y:Nat ->Prop} {σ τ υ:TS} {F B a b p q w i j n d r v k:Nat} {x:Zd}
theorem SnP.refl' (h:τ.sn=σ.sn):SnP σ τ:=fun i j x hx=>by rw [h];exact hx
theorem SnP.trans (h:SnP σ τ) (h':SnP τ υ):SnP σ υ:=fun i j x hx=>h' i j x (h i j x hx)
theorem SnP.send:SnP σ (Proofs.YtcnahmgekicbdaaGreat.send s a b x σ):=fun i j y hy=>Xn.2 (.inl hy)
theorem SnP.YH (p q:Nat):SnP σ (Proofs.YtcnahmgekicbdaaGreat.YH s p q σ):=by
 unfold Proofs.YtcnahmgekicbdaaGreat.YH;split
 ·exact .refl' rfl
 ·exact .send
theorem SnP.note (p q:Nat):SnP σ (Proofs.YtcnahmgekicbdaaGreat.note s p q σ):=by
 unfold Proofs.YtcnahmgekicbdaaGreat.note;split
 ·exact .YH _ _
 ·exact .refl' rfl
theorem SnP.ZF (p:Nat):SnP σ (Proofs.YtcnahmgekicbdaaGreat.ZF s p σ):=by
 have:SnP σ (Zu s p (σ.wa p) (QW p σ)):=QA _ (SnP σ) _ _ (.refl' rfl) fun τ x _ h=>h.trans (.YH _ _)
 exact this.trans (.refl' rfl)
theorem SnP.act (ac:Act s σ τ):SnP σ τ:=by
 cases ac with
 | fall=>exact .refl' rfl
 | J7=>exact .send
 | @die p=>
   unfold JI;split
   ·exact .ZF p
   ·split
    ·exact(SnP.ZF p).trans (.refl' rfl)
    ·exact(SnP.ZF p).trans .send
 | ZaS=>exact .refl' (XT _ _ _ _).2.2.2.2.1
 | @ZaR p q=>exact(SnP.refl' (σ:=σ) (τ:=kK p q σ) rfl).trans .send
 | @ZaN p q=>exact(SnP.refl' (σ:=σ) (τ:=tell 3 p q 0 σ) rfl).trans (.note _ _)
 | @ZaM p q=>exact(SnP.refl' (σ:=σ) (τ:=tell 3 p q 0 σ) rfl).trans .send
 | Za0=>exact .refl' (XT _ _ _ _).2.2.2.2.1
 | @Za2 a b p q=>exact(SnP.refl' (σ:=σ) (τ:=drop1 (li s a b) σ) rfl).trans (.note _ _)
 | Zab=>exact .refl' rfl
 | KV=>exact .refl' rfl
 | Za1=>exact .refl' rfl
 | ring=>exact .refl' (Qq _ _ _ _).2.2.2.2.2.1
theorem SnP.acts (h:Qa s σ τ):SnP σ τ:=by
 induction h with
 | refl=>exact .refl' rfl
 | tail _ a ih=>exact ih.trans (.act a)
theorem Fl3.mono (h:Fl3 s σ p k) (h1:SnP σ τ) (h2:τ.ld=σ.ld):Fl3 s τ p k:=by
 obtain⟨j,x,a,b,c⟩:=h;exact⟨j,x,h1 _ _ _ a,by rw [h2];exact b,c⟩
theorem ZyO (hl:σ.ld (li s (pl s p) (pl s k)) <= (σ.sn (li s (pl s p) (pl s k))).length):Fl3 s (send s (pl s p) (pl s k) ⟨3,(k:Int),0,0,[]⟩ σ) p k:=
 ⟨_,_,Xn.2 (.inr ⟨rfl,rfl,rfl⟩),hl,rfl,rfl⟩
theorem K2.keep (h:K2 s X Y σ) (h1:SnP σ τ) (h2:τ.ld=σ.ld) (h3:∀ q,q < nn s ->(σ.st q ≠ 1↔τ.st q ≠ 1)):K2 s X Y τ:=fun p k hp hk hX hY e hst=>
 (h p k hp hk hX hY e ((h3 p hp).2 hst)).imp (h3 k hk).1 fun z=>z.mono h1 h2
theorem ZoD (hS:Y8 s):∀ (d p:Nat) (σ:TS),p < nn s ->σ.st p ≠ 1 ->∀ q,σ.st q ≠ 1↔(Kc s d p σ).st q ≠ 1:=by
 intro d
 induction d with
 | zero=>intro p σ _ _ q;exact Iff.rfl
 | succ d ih=>
   intro p σ hp hst q;have sA:= (X7 (s:=s) p σ).1
   have hA:σ.st q ≠ 1↔(ZF s p σ).st q ≠ 1:=by
    rw [sA];by_cases e:q=p
    ·subst e;rw [Zq];exact⟨fun _=>by decide,fun _=>hst⟩
    ·rw [ZA e]
   show _↔(ZbG s (Kc s d) p (ZF s p σ)).st q ≠ 1;unfold ZbG;by_cases h0:inn s (p:Int) < 0
   ·rw [if_pos h0];exact hA
   ·rw [if_neg h0];obtain⟨_,hq⟩:=Xm hS hp h0;split
    ·unfold JC;by_cases c:(Z8 s p (Us s (ZF s p σ) p) (ZF s p σ)).st (inn s (p:Int)).toNat=2∧Alo s (Z8 s p (Us s (ZF s p σ) p) (ZF s p σ)) (inn s (p:Int)).toNat
     ·rw [ZH c];exact hA.trans (ih _ _ hq (by rw [c.1];decide) q)
     ·rw [ZG c];exact hA
    ·exact hA
theorem ZiJ (hS:Y8 s):∀ (d p:Nat) (X Y:Nat ->Prop) (σ:TS),p < nn s ->Ww s d p ->Wx s σ ->σ.st p=1 ->K2 s X Y σ ->K2 s X (fun k=>Y k∧k ≠ p) (YC s d p σ)∧(YC s d p σ).st p ≠ 1:=by
 intro d
 induction d with
 | zero=>intro p X Y σ hp hs _ _ _;exact absurd rfl (hs p hp 0 (Nat.le_refl _))
 | succ d ih=>
   intro p X Y σ hp hs hI h1 hK;have a0:Qa s σ (YD p σ):= .one (.fall hp h1);have st0:(YD p σ).st p ≠ 1:=by show ZT σ.st p 2 p ≠ 1;rw [Zq];decide
   have kids:∀ m,m <=nn s ->Qa s σ (fk s (YC s d) p m (YD p σ))∧(fk s (YC s d) p m (YD p σ)).ld=σ.ld∧K2 s (fun q=>X q∨q=p) (fun k=>Y k∧k ≠ p) (fk s (YC s d) p m (YD p σ))∧(fk s (YC s d) p m (YD p σ)).st p ≠ 1∧
    ∀ k,k < m ->inn s (k:Int)= (p:Int) ->(fk s (YC s d) p m (YD p σ)).st k ≠ 1∨Fl3 s (fk s (YC s d) p m (YD p σ)) p k:=by
    intro m
    induction m with
    | zero=>
      intro _;refine⟨a0,rfl,fun q k hq hk hX hY e hst=>?_,st0,fun k hk=>by omega⟩;have hqp:q ≠ p:=fun z=>hX (.inr z)
      have hst:ZT σ.st p 2 q ≠ 1:=hst;rw [ZA hqp] at hst;show ZT σ.st p 2 k ≠ 1∨_;by_cases ekp:k=p
      ·subst ekp;left;rw [Zq];decide
      ·rw [ZA ekp];exact hK q k hq hk (fun z=>hX (.inl z)) (fun z=>hY ⟨z,ekp⟩) e hst
    | succ m ihm=>
      intro hm;obtain⟨b1,b2,b3,b4,b5⟩:=ihm (by omega)
      have hstep:fk s (YC s d) p (m + 1) (YD p σ)=if inn s (m:Int)= (p:Int) then KW s (YC s d) p (fk s (YC s d) p m (YD p σ)) m else fk s (YC s d) p m (YD p σ):=by
       unfold fk;rw [KD,List.foldl_append];split <;> rfl
      rw [hstep];generalize fk s (YC s d) p m (YD p σ)=τ at b1 b2 b3 b4 b5 ⊢;by_cases e:inn s (m:Int)= (p:Int)
      ·rw [if_pos e];have hmn:m < nn s:=by omega
       have Zqn:Wx s τ:=b1.keep (P:=Wx s) (fun _ _ h ac=>h.act hS ac) hI
       have fin:∀ (υ:TS),Qa s τ υ ->υ.ld=τ.ld ->K2 s (fun q=>X q∨q=p) (fun k=>Y k∧k ≠ p) υ ->(υ.st m ≠ 1∨Fl3 s υ p m) ->Qa s σ υ∧υ.ld=σ.ld∧K2 s (fun q=>X q∨q=p) (fun k=>Y k∧k ≠ p) υ∧υ.st p ≠ 1∧∀ k,k < m + 1 ->inn s (k:Int)= (p:Int) ->υ.st k ≠ 1∨Fl3 s υ p k:=fun υ c1 c2 c3 c4=>
        ⟨b1.trans c1,c2.trans b2,c3,U4 c1 b4,fun k hk ek=>by
          by_cases z:k=m
          ·subst z;exact c4
          ·exact(b5 k (by omega) ek).imp (fun z=>U4 c1 z) fun z=>z.mono (.acts c1) c2⟩
       unfold KW;by_cases el:pl s m=pl s p
       ·rw [if_pos el];by_cases e1:τ.st m=1
        ·rw [if_pos e1];obtain⟨k1,k2⟩:=ih m _ _ τ hmn (hs.kid e) Zqn e1 b3;refine fin _ (Zdk hS _ _ _ hmn (hs.kid e) e1) (Zoc _ _ _) (fun q k hq hk hX hY ee hst=>k1 q k hq hk hX (fun z=>hY z.1) ee hst) (.inl k2)
        ·rw [if_neg e1];exact fin τ .refl rfl b3 (.inl e1)
       ·rw [if_neg el];by_cases e1:(m:Int) ∈ τ.kn p
        ·rw [if_pos e1];obtain⟨k',ek,_,_,hd⟩:=Zqn.p2.kn.rng p hp _ e1;have:m=k':=by omega
         subst this;exact fin τ .refl rfl b3 (.inl (by rw [hd];decide))
        ·rw [if_neg e1];refine fin _ (.one (.J7 hp hmn e b4 el e1)) rfl (b3.keep .send rfl fun _ _=>Iff.rfl) (.inr (ZyO (Zqn.p2.ld _)))
      ·rw [if_neg e]
       exact⟨b1,b2,b3,b4,fun k hk ek=>b5 k (by
        by_cases z:k=m
        ·subst z;exact absurd ek e
        ·omega) ek⟩
   obtain⟨b1,b2,b3,b4,b5⟩:=kids (nn s) (Nat.le_refl _)
   have hall:K2 s X (fun k=>Y k∧k ≠ p) (fk s (YC s d) p (nn s) (YD p σ)):=fun q k hq hk hX hY e hst=>by
    by_cases z:q=p
    ·subst z;exact b5 k hk e
    ·exact b3 q k hq hk (fun w=>w.elim hX z) hY e hst
   show K2 s X _ (ZaF s p _)∧(ZaF s p _).st p ≠ 1;unfold ZaF;by_cases c:(fk s (YC s d) p (nn s) (YD p σ)).st p=2∧Alo s (fk s (YC s d) p (nn s) (YD p σ)) p
   ·rw [ZH c];have hd:=ZoD hS (nn s) p (fk s (YC s d) p (nn s) (YD p σ)) hp b4;exact⟨hall.keep (.acts (Za9 hS _ _ _ hp (U3 hS hp) c.1 c.2)) (ZhF _ _ _) fun q _=>hd q,(hd p).1 b4⟩
   ·rw [ZG c];exact⟨hall,b4⟩
end
end
section
def N2 (s:Zb) (X:Nat ->Prop) (σ:TS):Prop:=∀ p,p < nn s ->¬ X p ->σ.st p=2 ->¬ Alo s σ p
section
variable {s:Zb} {X Y Z:Nat ->Prop} {σ τ υ:TS} {F B a b p q w i j n d r v k:Nat} {x:Zd} {y:ZE}
theorem N2.keep (h:N2 s X σ) (h1:τ.st=σ.st) (h2:τ.kn=σ.kn):N2 s X τ:=fun p hp hX hst hA=>h p hp hX (by rw [← h1];exact hst) fun k hk e=>by rw [← h2];exact hA k hk e
theorem ZsZ (hS:Y8 s):∀ (d p:Nat) (X:Nat ->Prop) (σ:TS),p < nn s ->up s d (p:Int) < 0 ->N2 s (fun q=>X q∨q=p) σ ->N2 s X (Kc s d p σ):=by
 intro d
 induction d with
 | zero=>intro p X σ hp hu _;exact absurd hu (by show ¬ ((p:Int)) < 0;omega)
 | succ d ih=>
   intro p X σ hp hu h;have sA:=X7 (s:=s) p σ
   have hA:N2 s X (ZF s p σ):=fun q hq hX hst hAl=>by
    rw [sA.1] at hst;by_cases e:q=p
    ·subst e;rw [Zq] at hst;cases hst
    ·rw [ZA e] at hst;exact h q hq (fun z=>z.elim hX e) hst fun k hk ek=>by rw [← sA.2.1];exact hAl k hk ek
   show N2 s X (ZbG s (Kc s d) p (ZF s p σ));unfold ZbG;by_cases h0:inn s (p:Int) < 0
   ·rw [if_pos h0];exact hA
   ·rw [if_neg h0];obtain⟨eq,hq⟩:=Xm hS hp h0;split
    ·have hL:N2 s (fun q=>X q∨q= (inn s (p:Int)).toNat) (Z8 s p (Us s (ZF s p σ) p) (ZF s p σ)):=fun q hq' hX hst hAl=>by
      refine hA q hq' (fun z=>hX (.inl z)) hst fun k hk ek=>?_
      have:=hAl k hk ek;have this:(k:Int) ∈ ZT (ZF s p σ).kn (inn s (p:Int)).toNat _ q:=this;rw [ZA (fun z=>hX (.inr z))] at this;exact this
     unfold JC;by_cases c:(Z8 s p (Us s (ZF s p σ) p) (ZF s p σ)).st (inn s (p:Int)).toNat=2∧Alo s (Z8 s p (Us s (ZF s p σ) p) (ZF s p σ)) (inn s (p:Int)).toNat
     ·rw [ZH c];exact ih _ X _ hq (by rw [← eq];exact Zps hp hu) hL
     ·rw [ZG c];intro q hq' hX hst hAl;by_cases e:q= (inn s (p:Int)).toNat
      ·rw [e] at hst hAl;exact c ⟨hst,hAl⟩
      ·exact hL q hq' (fun z=>z.elim hX e) hst hAl
    ·exact hA.keep rfl rfl
theorem Zob (hS:Y8 s):∀ (d p:Nat) (X:Nat ->Prop) (σ:TS),p < nn s ->N2 s X σ ->N2 s X (YC s d p σ):=by
 intro d
 induction d with
 | zero=>intro p X σ _ h;exact h
 | succ d ih=>
   intro p X σ hp h
   have h0:N2 s (fun q=>X q∨q=p) (YD p σ):=fun q hq hX hst hAl=>by
    have hst:ZT σ.st p 2 q=2:=hst;rw [ZA (fun z=>hX (.inr z))] at hst;exact h q hq (fun z=>hX (.inl z)) hst hAl
   have hk:N2 s (fun q=>X q∨q=p) (fk s (YC s d) p (nn s) (YD p σ)):=by
    refine QA _ (N2 s (fun q=>X q∨q=p)) _ _ h0 fun τ k hk hτ=>?_
    obtain⟨hkn,_⟩:=Zis.1 (show k ∈ Zxv s p from hk);unfold KW;split
    ·split
     ·exact ih k _ τ hkn hτ
     ·exact hτ
    ·split
     ·exact hτ
     ·exact hτ.keep rfl rfl
   show N2 s X (ZaF s p _);unfold ZaF;by_cases c:(fk s (YC s d) p (nn s) (YD p σ)).st p=2∧Alo s (fk s (YC s d) p (nn s) (YD p σ)) p
   ·rw [ZH c];exact ZsZ hS _ _ X _ hp (U3 hS hp) hk
   ·rw [ZG c];intro q hq hX hst hAl;by_cases e:q=p
    ·rw [e] at hst hAl;exact c ⟨hst,hAl⟩
    ·exact hk q hq (fun z=>z.elim hX e) hst hAl
def no:Nat ->Prop:=fun _=>False
structure Fal (s:Zb) (Z:Nat ->Prop) (σ:TS):Prop where
 z:InZ s Z σ
 k:K2 s no no σ
 n:N2 s no σ
theorem Fal.same (h:Fal s Z σ) (h1:τ.st=σ.st) (h2:τ.kn=σ.kn) (h3:τ.ld=σ.ld) (h4:SnP σ τ) (h5:InZ s Z τ):Fal s Z τ:=
 ⟨h5,h.k.keep h4 h3 fun q _=>by rw [h1],h.n.keep h1 h2⟩
theorem InZ.drop (h:InZ s Z σ):InZ s Z (drop1 i σ):=h.congr rfl rfl
theorem K2.drop (h:K2 s X Y σ) (hl:σ.ld i < (σ.sn i).length) (hk:(Proofs.YtcnahmgekicbdaaGreat.hd σ i).kW ≠ 3):K2 s X Y (drop1 i σ):=fun p k hp hk' hX hY e hst=>by
 refine(h p k hp hk' hX hY e hst).imp id fun⟨j,x,a,b,c⟩=>⟨j,x,a,?_,c⟩
 show ZT σ.ld i (σ.ld i + 1) (li s (pl s p) (pl s k)) <=j;by_cases z:li s (pl s p) (pl s k)=i
 ·rw [z,Zq];rw [z] at a b
  have hne:j ≠ σ.ld i:=fun w=>by
   subst w;have:=Zel hl;rw [a] at this;injection this with this
   rw [this] at c;exact hk c.1
  omega
 ·rw [ZA z];exact b
theorem K2.ZO3 (h:K2 s X Y σ) (hl:σ.ld i < (σ.sn i).length) (hp:(Proofs.YtcnahmgekicbdaaGreat.hd σ i).kV= (q:Int)):K2 s X (fun k=>Y k∨k=q) (drop1 i σ):=fun p k hp' hk' hX hY e hst=>by
 refine(h p k hp' hk' hX (fun z=>hY (.inl z)) e hst).imp id fun⟨j,x,a,b,c⟩=>⟨j,x,a,?_,c⟩
 show ZT σ.ld i (σ.ld i + 1) (li s (pl s p) (pl s k)) <=j;by_cases z:li s (pl s p) (pl s k)=i
 ·rw [z,Zq];rw [z] at a b
  have hne:j ≠ σ.ld i:=fun w=>by
   subst w;have:=Zel hl;rw [a] at this;injection this with this
   rw [this] at c;exact hY (.inr (by have:=c.2;omega))
  omega
 ·rw [ZA z];exact b
theorem ZtV (hS:Y8 s) (hZk:∀ p k:Nat,p < nn s ->k < nn s ->Z p ->inn s (k:Int)= (p:Int) ->Z k) (hI:Wx s σ) (h:Fal s Z σ) (ha:a < mm s) (hb:b < mm s) (hl:σ.ld (li s a b) < (σ.sn (li s a b)).length) (hx:Zrx s b (Proofs.YtcnahmgekicbdaaGreat.hd σ (li s a b))) (hD:Zpa s (Proofs.YtcnahmgekicbdaaGreat.hd σ (li s a b)) σ):Fal s Z (Zao s a b σ):=by
 have ac:=Zkr hS ha hb hl hx hD;obtain⟨p,hp,hpn,c⟩:=hx;have hz:=h.z.drop (i:=li s a b);have ZsX:(Proofs.YtcnahmgekicbdaaGreat.hd σ (li s a b)).kW ≠ 3 ->Fal s Z (drop1 (li s a b) σ):=fun k=>⟨hz,h.k.drop hl k,h.n.keep rfl rfl⟩
 unfold Zao Zd3;rcases c with⟨k,q,hq,JL⟩ | ⟨k,q,hq,JL⟩ | k | ⟨k,h0,hm⟩ | ⟨k,e,hm,q,hq,JL⟩
 ·rw [if_pos k];have z:=XT (Proofs.YtcnahmgekicbdaaGreat.hd σ (li s a b)).kX.toNat (Proofs.YtcnahmgekicbdaaGreat.hd σ (li s a b)).kV.toNat (Proofs.YtcnahmgekicbdaaGreat.hd σ (li s a b)).n (drop1 (li s a b) σ);exact(ZsX (by omega)).same z.1 z.2.1 z.2.2.2.1 (.refl' z.2.2.2.2.1) (hz.congr z.1 z.2.2.2.2.1)
 ·rw [if_neg (by omega),if_pos k];have z:=Xc (s:=s) (Proofs.YtcnahmgekicbdaaGreat.hd σ (li s a b)).kV.toNat (Proofs.YtcnahmgekicbdaaGreat.hd σ (li s a b)).kX.toNat (drop1 (li s a b) σ);exact(ZsX (by omega)).same z.1 z.2.1 z.2.2.2.1 (.note _ _) (hz.note _ _)
 ·rw [if_neg (by omega),if_neg (by omega),if_pos k,hp,Int.toNat_natCast];have hZp:Z p:=h.z.le _ _ _ (Zel hl) k p hp;have hk3:=h.k.ZO3 hl hp;have hn:N2 s no (drop1 (li s a b) σ):=h.n.keep rfl rfl;by_cases e:(drop1 (li s a b) σ).st p=1
  ·rw [if_pos e];have hId:Wx s (drop1 (li s a b) σ):=hI.act hS (.Zab ha hb hl k hp hpn);obtain⟨k1,k2⟩:=ZiJ hS (nn s) p no _ _ hpn (Ww.all hS.inn) hId e hk3;refine⟨ZsD hS hZk _ _ _ hpn hZp hz,fun q k' hq hk' hX hY ee hst=>?_,Zob hS _ _ _ _ hpn hn⟩;by_cases z:k'=p
   ·subst z;exact .inl k2
   ·exact k1 q k' hq hk' hX (fun w=>w.1.elim hY w.2) ee hst
  ·rw [if_neg e];refine⟨hz,fun q k' hq hk' hX hY ee hst=>?_,hn⟩;by_cases z:k'=p
   ·subst z;exact .inl e
   ·exact hk3 q k' hq hk' hX (fun w=>w.elim hY z) ee hst
 ·rw [if_neg (by omega),if_neg (by omega),if_neg (by omega),if_pos k,hp,Int.toNat_natCast];obtain⟨eq,hq⟩:=Xm hS hpn (by omega);have hd:=ZsX (by omega)
  have hL:N2 s (fun q=>no q∨q= (inn s (p:Int)).toNat) (Z8 s p (Proofs.YtcnahmgekicbdaaGreat.hd σ (li s a b)).qX (drop1 (li s a b) σ)):=fun q hq' hX hst hAl=>by
   refine hd.n q hq' (fun z=>hX (.inl z)) hst fun k hk ek=>?_
   have:=hAl k hk ek;have this:(k:Int) ∈ ZT (drop1 (li s a b) σ).kn (inn s (p:Int)).toNat _ q:=this;rw [ZA (fun z=>hX (.inr z))] at this;exact this
  have hzl:InZ s Z (Z8 s p (Proofs.YtcnahmgekicbdaaGreat.hd σ (li s a b)).qX (drop1 (li s a b) σ)):=hz.congr rfl rfl;have hkl:K2 s no no (Z8 s p (Proofs.YtcnahmgekicbdaaGreat.hd σ (li s a b)).qX (drop1 (li s a b) σ)):=hd.k.keep (.refl' rfl) rfl fun _ _=>Iff.rfl
  unfold ZaC JC;by_cases c:(Z8 s p (Proofs.YtcnahmgekicbdaaGreat.hd σ (li s a b)).qX (drop1 (li s a b) σ)).st (inn s (p:Int)).toNat=2∧Alo s (Z8 s p (Proofs.YtcnahmgekicbdaaGreat.hd σ (li s a b)).qX (drop1 (li s a b) σ)) (inn s (p:Int)).toNat
  ·rw [ZH c];have hne:(Z8 s p (Proofs.YtcnahmgekicbdaaGreat.hd σ (li s a b)).qX (drop1 (li s a b) σ)).st (inn s (p:Int)).toNat ≠ 1:=by rw [c.1];decide
   refine⟨Zzr hS _ _ _ hq (hzl.st _ hq hne) hzl,hkl.keep (.acts (Za9 hS _ _ _ hq (U3 hS hq) c.1 c.2)) (ZhF _ _ _) fun q _=>ZoD hS _ _ _ hq hne q,ZsZ hS _ _ _ _ hq (U3 hS hq) hL⟩
  ·rw [ZG c];refine⟨hzl,hkl,fun q hq' hX hst hAl=>?_⟩;by_cases e:q= (inn s (p:Int)).toNat
   ·rw [e] at hst hAl;exact c ⟨hst,hAl⟩
   ·exact hL q hq' (fun z=>z.elim hX e) hst hAl
 ·rw [if_neg (by omega),if_neg (by omega),if_neg (by omega),if_neg (by omega)];exact(ZsX (by omega)).same rfl rfl rfl (.refl' rfl) (hz.congr rfl rfl)
theorem Ztt:∀ k,Fal s Z σ ->Fal s Z (rings s k σ):=by
 intro k h
 have one:∀ (w i:Nat) (τ:TS),Fal s Z τ ->Fal s Z (rung s w i τ):=fun w i τ hτ=>by
  have z:=Qq s w i τ;exact hτ.same z.2.2.1 z.2.2.2.1 z.2.1 (.refl' z.2.2.2.2.2.1) (hτ.z.congr z.2.2.1 z.2.2.2.2.2.1)
 have ring:∀ (w n:Nat) (τ:TS),Fal s Z τ ->Fal s Z (Wh s w n τ):=fun w n=>by
  induction n with
  | zero=>intro τ hτ;exact hτ
  | succ n ih=>
    intro τ hτ;rw [Wh];split
    ·exact hτ
    ·exact ih _ (one _ _ _ hτ)
 induction k with
 | zero=>exact h
 | succ k ih=>rw [rings];exact ring _ _ _ ih
theorem Zm8 (hS:Y8 s) (hZk:∀ p k:Nat,p < nn s ->k < nn s ->Z p ->inn s (k:Int)= (p:Int) ->Z k) (hI:Wx s σ) (h:Fal s Z σ) (hA:ZaI s y σ) (ok:Ok s B σ) (h3:y.act=3 ->Z y.a.toNat):Fal s Z (stepW s y σ):=by
 unfold stepW;refine Ztt _ ?_;rcases hA with⟨k,p,q,hp,hq,hpn,JL,hst⟩ | ⟨k,p,q,hp,hq,hpn,JL,hst⟩ | ⟨k,p,hp,hpn,hst⟩ | ⟨k,a,b,ha,hb,han,hbn,hl⟩
 ·unfold UG;rw [if_pos k];split
  ·have z:=XT y.b.toNat y.a.toNat σ.sd (kK y.a.toNat y.b.toNat σ);exact h.same z.1 z.2.1 z.2.2.2.1 (.refl' z.2.2.2.2.1) (h.z.congr z.1 z.2.2.2.2.1)
  ·exact h.same rfl rfl rfl ((SnP.refl' (σ:=σ) (τ:=kK y.a.toNat y.b.toNat σ) rfl).trans .send) ((h.z.congr (τ:=kK y.a.toNat y.b.toNat σ) rfl rfl).send fun z=>absurd z (by show ¬ (1:Int)=3;decide))
 ·unfold UG;rw [if_neg (by omega),if_pos k];split
  ·have z:=Xc (s:=s) y.a.toNat y.b.toNat (tell 3 y.a y.b 0 σ);exact h.same z.1 z.2.1 z.2.2.2.1 ((SnP.refl' (σ:=σ) (τ:=tell 3 y.a y.b 0 σ) rfl).trans (.note _ _)) ((h.z.congr (τ:=tell 3 y.a y.b 0 σ) rfl rfl).note _ _)
  ·exact h.same rfl rfl rfl ((SnP.refl' (σ:=σ) (τ:=tell 3 y.a y.b 0 σ) rfl).trans .send) ((h.z.congr (τ:=tell 3 y.a y.b 0 σ) rfl rfl).send fun z=>absurd z (by show ¬ (2:Int)=3;decide))
 ·have hZ:=h3 k;unfold UG;rw [if_neg (by omega),if_neg (by omega),if_pos k];rw [hp,Int.toNat_natCast] at hZ ⊢;obtain⟨k1,k2⟩:=ZiJ hS (nn s) p no no σ hpn (Ww.all hS.inn) hI hst h.k;refine⟨ZsD hS hZk _ _ _ hpn hZ h.z,fun q k' hq hk' hX hY ee hst'=>?_,Zob hS _ _ _ _ hpn h.n⟩;exact k1 q k' hq hk' hX (fun w=>hY w.1) ee hst'
 ·unfold UG;rw [if_neg (by omega),if_neg (by omega),if_neg (by omega),ha,hb,Int.toNat_natCast,Int.toNat_natCast];obtain⟨hf,hD⟩:=ok.head han hbn hl;exact ZtV hS hZk hI h han hbn hl hf.s hD
end
end
section
def SnR (s:Zb) (σ:TS):Prop:=∀ i,mm s * mm s <=i ->σ.sn i= []
def FS (s:Zb) (l:List ZE) (q:Nat):Prop:=∃ j,j < l.length∧ZaI s (l.getD j default) (Yg s l j).1∧(l.getD j default).act=3∧(l.getD j default).a= (q:Int)
def FZ (s:Zb) (l:List ZE) (p:Nat):Prop:=∃ q,FS s l q∧Wth s q p
section
variable {s:Zb} {X Y Z:Nat ->Prop} {σ τ υ:TS} {F B a b p q w i j n d r v k:Nat} {x:Zd} {y:ZE} {l:List ZE} {picks:List Int}
theorem SnR.send (h:SnR s σ) (ha:a < mm s) (hb:b < mm s):SnR s (Proofs.YtcnahmgekicbdaaGreat.send s a b x σ):=fun i hi=>by
 have:=Jj ha hb;rw [QS (by omega)];exact h i hi
theorem SnR.YH (hS:Y8 s) (h:SnR s σ) (hp:p < nn s) (hq:q < nn s):SnR s (Proofs.YtcnahmgekicbdaaGreat.YH s p q σ):=by
 unfold Proofs.YtcnahmgekicbdaaGreat.YH;split
 ·exact h
 ·exact h.send (hS.pl hq).2 (hS.pl hp).2
theorem SnR.note (hS:Y8 s) (h:SnR s σ) (hp:p < nn s) (hq:q < nn s):SnR s (Proofs.YtcnahmgekicbdaaGreat.note s p q σ):=by
 unfold Proofs.YtcnahmgekicbdaaGreat.note;split
 ·exact h.YH hS hp hq
 ·exact h
theorem SnR.congr (h:SnR s σ) (e:τ.sn=σ.sn):SnR s τ:=fun i hi=>by rw [e];exact h i hi
theorem SnR.act (hS:Y8 s) (h1:P1 s σ) (h:SnR s σ) (ac:Act s σ τ):SnR s τ:=by
 cases ac with
 | fall=>exact h
 | J7 hp hk=>exact h.send (hS.pl hp).2 (hS.pl hk).2
 | @die p hp h2 hA=>
   have hA:SnR s (ZF s p σ):=by
    have:SnR s (Zu s p (σ.wa p) (QW p σ)):=QA _ (SnR s) (σ.wa p) (QW p σ) h fun τ x hx hτ=>by
     obtain⟨k,rfl,hk⟩:=h1.ws p hp x hx;exact hτ.YH hS (by rw [Int.toNat_natCast];exact hk) hp
    exact this
   unfold JI;by_cases h0:inn s (p:Int) < 0
   ·rw [if_pos h0];exact hA
   ·rw [if_neg h0];obtain⟨_,hq⟩:=Xm hS hp h0;split
    ·exact hA
    ·exact hA.send (hS.pl hp).2 (hS.pl hq).2
 | ZaS=>exact h.congr (XT _ _ _ _).2.2.2.2.1
 | @ZaR p q hp hq=>exact SnR.send (σ:=kK p q σ) h (hS.pl hp).2 (hS.pl hq).2
 | @ZaN p q hp hq=>exact SnR.note (σ:=tell 3 p q 0 σ) hS h hp hq
 | @ZaM p q hp hq=>exact SnR.send (σ:=tell 3 p q 0 σ) h (hS.pl hp).2 (hS.pl hq).2
 | Za0=>exact SnR.congr (σ:=drop1 _ σ) h (XT _ _ _ _).2.2.2.2.1
 | Za2 ha hb hl hk hp hq hpn JL=>exact SnR.note (σ:=drop1 _ σ) hS h hpn JL
 | Zab=>exact h
 | KV=>exact h
 | Za1=>exact h
 | ring=>exact h.congr (Qq _ _ _ _).2.2.2.2.2.1
theorem ZvZ (hS:Y8 s) (h:Qa s ts0 σ):SnR s σ:=
 (h.keep (P:=fun σ=>P1 s σ∧SnR s σ) (fun _ _ ⟨a,b⟩ ac=>⟨a.act hS ac,b.act hS a ac⟩) ⟨(ok0 hS).p1,fun _ _=>rfl⟩).2
theorem ZyE (p k:Nat) (_:p < nn s) (_:k < nn s) (h:FZ s l p) (e:inn s (k:Int)= (p:Int)):FZ s l k:=by
 obtain⟨q,hq,j,ej⟩:=h;refine⟨q,hq,j + 1,?_⟩;show(if((k:Int)) < 0 then((k:Int)) else up s j (inn s (k:Int)))=_;rw [if_neg (by omega),e];exact ej
theorem ZUn:Fal s Z ts0:= ⟨⟨fun p _ h=>absurd rfl h,fun i j x hx=>by simp [ts0] at hx⟩,fun p k _ _ _ _ _ h=>absurd rfl h,fun p _ _ h=>absurd h (by show ¬ (1:Int)=2;decide)⟩
theorem ZnD (hS:Y8 s):∀ k,k <=l.length ->Fal s (FZ s l) (Yg s l k).1:=by
 intro k
 induction k with
 | zero=>intro _;exact ZUn
 | succ k ih=>
   intro hk;have h:=ih (by omega);obtain⟨ok,_,ac⟩:=Wy (l:=l) hS k;rw [Yg];by_cases hA:ZaI s (l.getD k default) (Yg s l k).1
   ·rw [ZH hA];refine Zm8 hS ZyE (Uk hS ac) h hA ok fun h3=>?_
    rcases hA with⟨k',_⟩ | ⟨k',_⟩ | ⟨_,p,hp,hpn,hst⟩ | ⟨k',_⟩
    ·omega
    ·omega
    ·refine⟨p,⟨k,by omega,.inr (.inr (.inl ⟨h3,p,hp,hpn,hst⟩)),h3,hp⟩,0,?_⟩;rw [hp,Int.toNat_natCast];rfl
    ·omega
   ·rw [ZG hA];exact h
theorem ZCJ (hS:Y8 s) (hac:Qa s ts0 σ) (ok:Ok s B σ) (h:Fal s Z σ) (hZk:∀ p k:Nat,p < nn s ->k < nn s ->Z p ->inn s (k:Int)= (p:Int) ->Z k):∀ r,Fal s Z (drK s picks σ r):=by
 intro r
 induction r with
 | zero=>exact h
 | succ r ih=>
   obtain⟨o,a⟩:=Zet (picks:=picks) hS ok r;rw [drK];by_cases e:opens s (drK s picks σ r)= []
   ·rw [if_pos e];exact ih
   ·rw [if_neg e];have hA:=ZbB (σ:=drK s picks σ r) hS (ZaW (picks:=picks) (r:=r) e);exact Zm8 hS hZk (Uk hS (hac.trans a)) ih hA o fun h3=>absurd h3 (by show ¬ (4:Int)=3;decide)
theorem Znl (hS:Y8 s) (hI:Wx s σ) (hF:Fal s Z σ) (he:opens s σ= []) (hp:p < nn s) (hk:k < nn s) (e:inn s (k:Int)= (p:Int)) (h:σ.st p ≠ 1):σ.st k ≠ 1:=by
 rcases hF.k p k hp hk id id e h with z | ⟨j,x,a,b,_⟩
 ·exact z
 ·have:= (Li0 a).1;rw [ZrL hI.p2 he (Jj (hS.pl hp).2 (hS.pl hk).2)] at b;omega
theorem Ztw (hS:Y8 s) (hI:Wx s σ) (hR:SnR s σ) (hF:Fal s Z σ) (he:opens s σ= []):∀ (d p:Nat),p < nn s ->Ww s d p ->σ.st p ≠ 1 ->σ.st p=3:=by
 intro d
 induction d with
 | zero=>intro p hp hs _;exact absurd rfl (hs p hp 0 (Nat.le_refl _))
 | succ d ih=>
   intro p hp hs h1;rcases hI.es.rg p hp with z | z | z
   ·exact absurd z h1
   ·exfalso;refine hF.n p hp id z fun k hk e=>?_
    have hk3:=ih k hk (hs.kid e) (Znl hS hI hF he hp hk e h1);rcases hI.ki.k3 k hk hk3 (by rw [e];omega) with w | ⟨i,j,x,a,b,c⟩
    ·rw [e,Int.toNat_natCast] at w;exact w
    ·obtain⟨k',e1,_,_,e4⟩:=hI.ki.k1 i j x a b;have hkk:k=k':=by omega
     subst hkk;have hj:= (Li0 a).1
     have hi:i < mm s * mm s:=by
      rcases Nat.lt_or_ge i (mm s * mm s) with q | q
      ·exact q
      ·rw [hR i q] at hj;simp at hj
     have:=e4.2 (by rw [ZrL hI.p2 he hi];exact hj);rw [e,Int.toNat_natCast] at this;exact this
   ·exact z
theorem ZA9 (hS:Y8 s) (hI:Wx s σ) (hF:Fal s Z σ) (he:opens s σ= []) (h:σ.st q ≠ 1) (hq:q < nn s):∀ (j p:Nat),p < nn s ->up s j (p:Int)= (q:Int) ->σ.st p ≠ 1:=by
 intro j
 induction j with
 | zero=>intro p hp e;have:p=q:=by have:(p:Int)=q:=e;omega
         rw [this];exact h
 | succ j ih=>
   intro p hp e;have e':(if(p:Int) < 0 then(p:Int) else up s j (inn s (p:Int)))= (q:Int):=e;rw [if_neg (by omega)] at e';by_cases h0:inn s (p:Int) < 0
   ·rw [ZfI h0] at e';omega
   ·obtain⟨eq,hq'⟩:=Xm hS hp h0;rw [eq] at e';exact Znl hS hI hF he hq' hp eq (ih _ hq' e')
end
end
section
section
variable {s:Zb} {X Y Z:Nat ->Prop} {σ τ υ:TS} {F B a b p q w i j n d r v k m:Nat} {x:Zd} {y:ZE} {l:List ZE} {picks:List Int}
theorem ZtE (hS:Y8 s) (k:Nat):∀ m,Qa s (Yg s l k).1 (Yg s l (k + m)).1:=by
 intro m
 induction m with
 | zero=>exact .refl
 | succ m ih=>
   obtain⟨ok,_,_⟩:=Wy (l:=l) hS (k + m);rw [show k + (m + 1)= (k + m) + 1 by omega,Yg];by_cases hA:ZaI s (l.getD (k + m) default) (Yg s l (k + m)).1
   ·rw [ZH hA];exact ih.trans (ZfK hS ok hA)
   ·rw [ZG hA];exact ih
theorem Zsz (hS:Y8 s) (h:FS s l q):(Yg s l l.length).1.st q ≠ 1∧q < nn s:=by
 obtain⟨j,hj,hA,h3,hq⟩:=h;obtain⟨ok,_,ac⟩:=Wy (l:=l) hS j
 have JL:q < nn s∧(Yg s l j).1.st q=1:=by
  rcases hA with⟨k',_⟩ | ⟨k',_⟩ | ⟨_,p,hp,hpn,hst⟩ | ⟨k',_⟩
  ·omega
  ·omega
  ·have:p=q:=by omega
   subst this;exact⟨hpn,hst⟩
  ·omega
 have e1:(Yg s l (j + 1)).1=stepW s (l.getD j default) (Yg s l j).1:=by rw [Yg,ZH hA]
 have hf:(UG s (l.getD j default) (Yg s l j).1).st q ≠ 1:=by
  unfold UG;rw [if_neg (by omega),if_neg (by omega),if_pos h3,hq,Int.toNat_natCast];exact(ZiJ hS (nn s) q no no _ JL.1 (Ww.all hS.inn) (Uk hS ac) JL.2 (ZnD hS j (by omega)).k).2
 have h2:(Yg s l (j + 1)).1.st q ≠ 1:=by
  rw [e1];unfold stepW;exact U4 (Zbp (mm s) (Nat.le_refl _)) hf
 have h3':=U4 (ZtE (l:=l) hS (j + 1) (l.length - (j + 1))) h2;rw [show j + 1 + (l.length - (j + 1))=l.length by omega] at h3';exact⟨h3',JL.1⟩
theorem ZIU (hS:Y8 s) (hac:Qa s ts0 (Jt s l picks n)) (he:opens s (Jt s l picks n)= []) (hp:p < nn s):(FZ s l p ->(Jt s l picks n).st p=3)∧(¬ FZ s l p ->(Jt s l picks n).st p=1):=by
 obtain⟨ok,_,ac⟩:=Wy (l:=l) hS l.length;have hF:Fal s (FZ s l) (Jt s l picks n):=ZCJ hS ac ok (ZnD hS l.length (Nat.le_refl _)) ZyE n;have hI:=Uk hS hac;have a2:= (Zet (picks:=picks) hS ok n).2
 constructor
 ·rintro⟨q,hq,j,ej⟩;obtain⟨h1,JL⟩:=Zsz hS hq;have h2:(Jt s l picks n).st q ≠ 1:=U4 a2 h1;exact Ztw hS hI (ZvZ hS hac) hF he (nn s) p hp (Ww.all hS.inn) (ZA9 hS hI hF he h2 JL j p hp ej)
 ·intro hn;rcases Int.lt_trichotomy ((Jt s l picks n).st p) 1 with z | z | z
  ·exact absurd (hF.z.st p hp (by omega)) hn
  ·exact z
  ·exact absurd (hF.z.st p hp (by omega)) hn
def OrD (s:Zb) (l:List Zg):Prop:=∀ i j,i < j ->j < l.length ->(l.getD i default).kZ=6 ->(l.getD j default).kZ=6 ->∀ p q:Nat,(l.getD i default).kV= (p:Int) ->(l.getD j default).kV= (q:Int) ->p < nn s ->q < nn s ->¬ Wth s p q
theorem Zih {L:List Zg} {e:Zg} (h:OrD s L) (hn:e.kZ=6 ->∀ x ∈ L,x.kZ=6 ->∀ p q:Nat,x.kV= (p:Int) ->e.kV= (q:Int) ->p < nn s ->q < nn s ->¬ Wth s p q):OrD s (L ++ [e]):=by
 intro i j hij hj d1 d2 p q e1 e2 hp hq;rw [List.length_append,List.length_singleton] at hj
 have gi:∀ k,k < L.length ->(L ++ [e]).getD k default=L.getD k default:=fun k hk=>by
  rw [List.getD_eq_getElem?_getD,List.getElem?_append_left hk,← List.getD_eq_getElem?_getD]
 have hi:i < L.length:=by omega
 rw [gi i hi] at d1 e1;by_cases c:j < L.length
 ·rw [gi j c] at d2 e2;exact h i j hij c d1 d2 p q e1 e2 hp hq
 ·have:j=L.length:=by omega
  subst this
  have ge:(L ++ [e]).getD L.length default=e:=by
   rw [List.getD_eq_getElem?_getD,List.getElem?_append_right (Nat.le_refl _),Nat.sub_self];rfl
  rw [ge] at d2 e2;exact hn d2 _ (Xd hi) d1 p q e1 e2 hp hq
theorem Zw0 (hS:Y8 s) (hI:Wx s σ) (h:OrD s σ.ev) (ac:Act s σ τ):OrD s τ.ev:=by
 have no6:∀ (e:Zg),e.kZ ≠ 6 ->OrD s (σ.ev ++ [e]):=fun e he=>Zih h fun z=>absurd z he
 have ZLd:∀ (ρ:TS) (p q:Nat) (k:Int),OrD s ρ.ev ->OrD s (see p q k ρ).ev:=fun ρ p q k hρ=>by
  unfold see;split
  ·exact Zih hρ fun z=>absurd z (by show ¬ (2:Int)=6;decide)
  ·exact hρ
 cases ac with
 | @fall p=>exact no6 ⟨5,p,0,0⟩ (by show(5:Int) ≠ 6;decide)
 | J7=>exact h
 | @die p hp hst hA=>
   have sA:= (X7 (s:=s) p σ).2.2.2.2.1
   have hA:OrD s (ZF s p σ).ev:=by
    rw [sA];refine Zih h fun _ x hx d6 p' q e1 e2 hp' hq hW=>?_
    have hpq:p=q:=by have:(p:Int)=q:=e2;omega
    subst hpq
    have h3:σ.st p'=3:=by
     have ho:=hI.es.z5 x hx (.inr d6);have hc:=hI.es.e6 p' hp';by_cases z:σ.st p'=3
     ·exact z
     ·rw [Z4 z] at hc
      have:0 < c3 σ.ev 6 (p':Int) 0:=by
       unfold c3;rw [List.countP_pos_iff];exact⟨x,hx,by rw [d6,e1,ho];simp⟩
      omega
    obtain⟨j,ej⟩:=hW;have:=Zfi hS hI.p2.kn hI.ki hp' h3 j p hp ej;rw [hst] at this;cases this
   unfold JI;split
   ·exact hA
   ·split
    ·exact hA
    ·exact hA
 | @ZaS p q=>exact ZLd (kK p q σ) _ _ _ (no6 ⟨1,p,q,σ.sd⟩ (by show(1:Int) ≠ 6;decide))
 | @ZaR p q=>exact no6 ⟨1,p,q,σ.sd⟩ (by show(1:Int) ≠ 6;decide)
 | @ZaN p q=>rw [(Xc (s:=s) p q (tell 3 p q 0 σ)).2.2.2.2.2];exact no6 ⟨3,p,q,0⟩ (by show(3:Int) ≠ 6;decide)
 | @ZaM p q=>exact no6 ⟨3,p,q,0⟩ (by show(3:Int) ≠ 6;decide)
 | @Za0 a b p q=>exact ZLd (drop1 (li s a b) σ) _ _ _ h
 | @Za2 a b p q=>rw [(Xc (s:=s) p q (drop1 (li s a b) σ)).2.2.2.2.2];exact h
 | Zab=>exact h
 | KV=>exact h
 | Za1=>exact h
 | @ring w i=>
   unfold rung;split
   ·exact no6 ⟨4,_,_,0⟩ (by show(4:Int) ≠ 6;decide)
   ·exact h
end
end
section
def ck (k:Int) (l:List Zd):Nat:=l.countP fun x=>x.kW==k
def sk (s:Zb) (k:Int) (σ:TS):Nat:=Y7 (mm s * mm s) fun i=>ck k (σ.sn i)
def ska (s:Zb) (σ:TS):Nat:=Y7 (mm s * mm s) fun i=>ck 2 (fl σ i)
def waT (s:Zb) (σ:TS):Nat:=Y7 (nn s) fun q=>(σ.wa q).length
def dcT (s:Zb) (σ:TS):Nat:=Y7 (nn s) fun p=>one (σ.st p=3)
def U6 (d:Int) (l:List Zg):Nat:=l.countP fun x=>x.kZ==d
section
variable {s:Zb} {σ τ υ:TS} {F B a b p q w i j n d r v m:Nat} {x:Zd} {k:Int}
theorem Zzv (l:List Zd):ck k (l ++ [x])=ck k l + one (x.kW=k):=by
 unfold ck;rw [List.countP_append,List.countP_cons,List.countP_nil,Nat.zero_add];congr 1;by_cases c:x.kW=k
 ·rw [Xa c,c];simp
 ·rw [Z4 c,if_neg];simpa using c
theorem Zas (l:List Zg) (e:Zg) (d:Int):U6 d (l ++ [e])=U6 d l + one (e.kZ=d):=by
 unfold U6;rw [List.countP_append,List.countP_cons,List.countP_nil,Nat.zero_add];congr 1;by_cases c:e.kZ=d
 ·rw [Xa c,c];simp
 ·rw [Z4 c,if_neg];simpa using c
theorem Js (ha:a < mm s) (hb:b < mm s):sk s k (send s a b x σ)=sk s k σ + one (x.kW=k):=by
 have h:=Q9 (f:=fun i=>ck k (σ.sn i)) (g:=fun i=>ck k ((send s a b x σ).sn i)) (Jj ha hb) fun j _ hj=>by rw [QS hj]
 rw [Zad,Zzv] at h;unfold sk;omega
theorem Zcn (ha:a < mm s) (hb:b < mm s) (hl:σ.ld (li s a b) <= (σ.sn (li s a b)).length):ska s (send s a b x σ)=ska s σ + one (x.kW=2):=by
 have h:=Q9 (f:=fun i=>ck 2 (fl σ i)) (g:=fun i=>ck 2 (fl (send s a b x σ) i)) (Jj ha hb) fun j _ hj=>by rw [Zen hj]
 rw [ZlK hl,Zzv] at h;unfold ska;omega
theorem Zco (hi:i < mm s * mm s) (hl:σ.ld i < (σ.sn i).length):ska s (drop1 i σ) + one ((hd σ i).kW=2)=ska s σ:=by
 have h:=Q9 (f:=fun i=>ck 2 (fl σ i)) (g:=fun j=>ck 2 (fl (drop1 i σ) j)) hi fun j _ hj=>by
  show ck 2 ((σ.sn j).drop (ZT σ.ld i (σ.ld i + 1) j))=_;rw [ZA hj];rfl
 have e1:fl (drop1 i σ) i= (σ.sn i).drop (σ.ld i + 1):=by
  show(σ.sn i).drop (ZT σ.ld i (σ.ld i + 1) i)=_;rw [Zq]
 have e2:ck 2 (fl σ i)=ck 2 ((σ.sn i).drop (σ.ld i + 1)) + one ((hd σ i).kW=2):=by
  rw [Zhy hl];unfold ck;rw [List.countP_cons];congr 1;by_cases c:(hd σ i).kW=2
  ·rw [Xa c,c];rfl
  ·rw [Z4 c,if_neg];simpa using c
 rw [e1,e2] at h;unfold ska;omega
theorem ZAS (hq:q < nn s) (y:Int):waT s {σ with wa:=ZT σ.wa q (σ.wa q ++ [y])}=waT s σ + 1:=by
 have h:=Q9 (f:=fun q=>(σ.wa q).length) (g:=fun j=>(ZT σ.wa q (σ.wa q ++ [y]) j).length) hq fun j _ hj=>by rw [ZA hj]
 rw [Zq,List.length_append,List.length_singleton] at h;show Y7 (nn s) (fun j=>(ZT σ.wa q (σ.wa q ++ [y]) j).length)=_;unfold waT;omega
theorem Ztl (hq:q < nn s):waT s {σ with wa:=ZT σ.wa q []} + (σ.wa q).length=waT s σ:=by
 have h:=Q9 (f:=fun q=>(σ.wa q).length) (g:=fun j=>(ZT σ.wa q [] j).length) hq fun j _ hj=>by rw [ZA hj]
 rw [Zq] at h;show Y7 (nn s) (fun j=>(ZT σ.wa q [] j).length) + _=_;unfold waT;simp at h ⊢;omega
theorem Zs5 (hS:Y8 s) (hp:p < nn s) (hq:q < nn s) (hl:∀ i,σ.ld i <= (σ.sn i).length):sk s 5 (YH s p q σ) <=sk s 5 σ + 1∧(∀ k,k ≠ 5 ->sk s k (YH s p q σ)=sk s k σ)∧ska s (YH s p q σ)=ska s σ∧waT s (YH s p q σ)=waT s σ:=by
 unfold YH;split
 ·exact⟨Nat.le_succ _,fun _ _=>rfl,rfl,rfl⟩
 ·refine⟨?_,fun k hk=>?_,?_,rfl⟩
  ·rw [Js (hS.pl hq).2 (hS.pl hp).2,Xa rfl];exact Nat.le_refl _
  ·rw [Js (hS.pl hq).2 (hS.pl hp).2,Z4 (fun z=>hk (by have:(5:Int)=k:=z;exact this.symm))];rfl
  ·rw [Zcn (hS.pl hq).2 (hS.pl hp).2 (hl _),Z4 (by show ¬ (5:Int)=2;decide)];rfl
theorem ZzL (hS:Y8 s) (hq:q < nn s):∀ (l:List Int) (σ:TS),(∀ x ∈ l,∃ k:Nat,x= (k:Int)∧k < nn s) ->(∀ i,σ.ld i <= (σ.sn i).length) ->sk s 5 (Zu s q l σ) <=sk s 5 σ + l.length∧(∀ k,k ≠ 5 ->sk s k (Zu s q l σ)=sk s k σ)∧ska s (Zu s q l σ)=ska s σ∧waT s (Zu s q l σ)=waT s σ:=by
 intro l
 induction l with
 | nil=>intro σ _ _;exact⟨Nat.le_refl _,fun _ _=>rfl,rfl,rfl⟩
 | cons x l ih=>
   intro σ hx hl;obtain⟨k,rfl,hk⟩:=hx x (by simp);obtain⟨b1,b2,b3,b4⟩:=Zs5 (p:=k) (q:=q) hS hk hq hl;obtain⟨c1,c2,c3,c4⟩:=ih (YH s k q σ) (fun y hy=>hx y (by simp [hy])) (Zs6 hl k q);show sk s 5 (Zu s q l (YH s ((k:Int)).toNat q σ)) <=_∧(∀ k',k' ≠ 5 ->sk s k' (Zu s q l (YH s ((k:Int)).toNat q σ))=_)∧ska s (Zu s q l (YH s ((k:Int)).toNat q σ))=_∧waT s (Zu s q l (YH s ((k:Int)).toNat q σ))=_;rw [Int.toNat_natCast];refine⟨by rw [List.length_cons];omega,fun k' hk'=>(c2 k' hk').trans (b2 k' hk'),c3.trans b3,c4.trans b4⟩
end
end
section
structure Snt (s:Zb) (σ:TS):Prop where
 k1:sk s 1 σ <=U6 1 σ.ev
 k2:sk s 2 σ <=U6 3 σ.ev
 k5:sk s 5 σ + ska s σ + waT s σ <=U6 3 σ.ev
 k4:sk s 4 σ <=dcT s σ
section
variable {s:Zb} {σ τ υ:TS} {F B a b p q w i j n d r v m:Nat} {x:Zd} {k:Int} {e:Zg}
theorem Snt.same (h:Snt s σ) (h1:∀ k:Int,k ≠ 3 ->sk s k τ=sk s k σ) (h2:ska s τ=ska s σ) (h3:waT s τ=waT s σ) (h4:dcT s τ=dcT s σ) (h5:U6 1 σ.ev <=U6 1 τ.ev) (h6:U6 3 σ.ev <=U6 3 τ.ev):Snt s τ:=
 ⟨by rw [h1 1 (by decide)];exact Nat.le_trans h.k1 h5,by rw [h1 2 (by decide)];exact Nat.le_trans h.k2 h6,by rw [h1 5 (by decide),h2,h3];exact Nat.le_trans h.k5 h6,by rw [h1 4 (by decide),h4];exact h.k4⟩
theorem Ke (l:List Zg) (e:Zg) (d:Int):U6 d l <=U6 d (l ++ [e]):=by rw [Zas];omega
theorem ZI6 (h:τ.st=σ.st):dcT s τ=dcT s σ:=by unfold dcT;rw [h]
theorem Snt.see (h:Snt s σ) (p q:Nat) (k:Int):Snt s (Proofs.YtcnahmgekicbdaaGreat.see p q k σ):=by
 unfold Proofs.YtcnahmgekicbdaaGreat.see;split
 ·exact h.same (fun _ _=>rfl) rfl rfl rfl (Ke _ _ _) (Ke _ _ _)
 ·exact h
theorem Snt.note (hS:Y8 s) (hl:∀ i,σ.ld i <= (σ.sn i).length) (hp:p < nn s) (hq:q < nn s) (h1:sk s 1 σ <=U6 1 σ.ev) (h2:sk s 2 σ <=U6 3 σ.ev) (h5:sk s 5 σ + ska s σ + waT s σ + 1 <=U6 3 σ.ev) (h4:sk s 4 σ <=dcT s σ):Snt s (Proofs.YtcnahmgekicbdaaGreat.note s p q σ):=by
 unfold Proofs.YtcnahmgekicbdaaGreat.note;split
 ·obtain⟨b1,b2,b3,b4⟩:=Zs5 (p:=p) (q:=q) hS hp hq hl;have z:=ZbL (s:=s) p q σ;refine⟨by rw [b2 1 (by decide),z.2.2.2.2.2.1];exact h1,by rw [b2 2 (by decide),z.2.2.2.2.2.1];exact h2,by rw [b3,b4,z.2.2.2.2.2.1];omega,by rw [b2 4 (by decide),ZI6 z.1];exact h4⟩
 ·refine⟨h1,h2,?_,h4⟩;rw [ZAS hq];show sk s 5 σ + ska s σ + (waT s σ + 1) <=U6 3 σ.ev;omega
theorem Snt.act (hS:Y8 s) (h1:P1 s σ) (h2:P2 s σ) (h:Snt s σ) (ac:Act s σ τ):Snt s τ:=by
 cases ac with
 | @fall p hp hst=>
   refine h.same (fun _ _=>rfl) rfl rfl ?_ (Ke _ _ _) (Ke _ _ _);unfold dcT;refine Jr fun q _=>?_
   show one (ZT σ.st p 2 q=3)=one (σ.st q=3);by_cases e:q=p
   ·subst e;rw [Zq,Z4 (by decide),Z4 (by rw [hst];decide)]
   ·rw [ZA e]
 | @J7 p k hp hk=>
   refine h.same (fun k' hk'=>?_) ?_ rfl rfl (Nat.le_refl _) (Nat.le_refl _)
   ·rw [Js (hS.pl hp).2 (hS.pl hk).2,Z4 (fun z=>hk' (by have:(3:Int)=k':=z;exact this.symm))];rfl
   ·rw [Zcn (hS.pl hp).2 (hS.pl hk).2 (h2.ld _),Z4 (by show ¬ (3:Int)=2;decide)];rfl
 | @die p hp hst hA=>
   have sA:=X7 (s:=s) p σ;obtain⟨b1,b2,b3,b4⟩:=ZzL (q:=p) hS hp (σ.wa p) (QW p σ) (h1.ws p hp) h2.ld;have hw:=Ztl (σ:=σ) hp
   have hdc:dcT s (ZF s p σ)=dcT s σ + 1:=by
    have:=Q9 (f:=fun q=>one (σ.st q=3)) (g:=fun q=>one (ZT σ.st p 3 q=3)) hp fun j _ hj=>by rw [ZA hj]
    rw [Zq,Xa rfl,Z4 (show ¬ σ.st p=3 by rw [hst];decide)] at this;unfold dcT;rw [sA.1];omega
   have he:∀ d:Int,U6 d σ.ev <=U6 d (ZF s p σ).ev:=fun d=>by rw [sA.2.2.2.2.1];exact Ke _ _ _
   have e0:∀ k,sk s k (QW p σ)=sk s k σ:=fun _=>rfl
   have k1:∀ k,k ≠ 5 ->sk s k (ZF s p σ)=sk s k σ:=fun k hk=>(b2 k hk).trans (e0 k)
   have k5:sk s 5 (ZF s p σ) <=sk s 5 σ + (σ.wa p).length:=b1;have ka:ska s (ZF s p σ)=ska s σ:=b3
   have kw:waT s (ZF s p σ) + (σ.wa p).length=waT s σ:=by
    have:waT s (ZF s p σ)=waT s {σ with wa:=ZT σ.wa p []}:=b4;rw [this];exact hw
   have hA:sk s 1 (ZF s p σ) <=U6 1 (ZF s p σ).ev∧sk s 2 (ZF s p σ) <=U6 3 (ZF s p σ).ev∧sk s 5 (ZF s p σ) + ska s (ZF s p σ) + waT s (ZF s p σ) <=U6 3 (ZF s p σ).ev∧sk s 4 (ZF s p σ) + 1 <=dcT s (ZF s p σ):=by
    have l1:=h.k1;have l2:=h.k2;have l5:=h.k5;have l4:=h.k4;have m1:=he 1;have m3:=he 3;refine⟨by rw [k1 1 (by decide)];omega,by rw [k1 2 (by decide)];omega,by omega,by rw [k1 4 (by decide)];omega⟩
   obtain⟨c1,c2,c5,c4⟩:=hA;unfold JI;by_cases h0:inn s (p:Int) < 0
   ·rw [if_pos h0];exact⟨c1,c2,c5,by omega⟩
   ·rw [if_neg h0];obtain⟨_,hq⟩:=Xm hS hp h0;split
    ·refine⟨c1,c2,c5,?_⟩;show sk s 4 (ZF s p σ) <=dcT s (ZF s p σ);omega
    ·have hl:∀ i,(ZF s p σ).ld i <= ((ZF s p σ).sn i).length:=fun i=>by rw [sA.2.2.1];exact Nat.le_trans (h2.ld i) (SnM.ZF p i)
     refine⟨?_,?_,?_,?_⟩
     ·rw [Js (hS.pl hp).2 (hS.pl hq).2,Z4 (by show ¬ (4:Int)=1;decide)];exact c1
     ·rw [Js (hS.pl hp).2 (hS.pl hq).2,Z4 (by show ¬ (4:Int)=2;decide)];exact c2
     ·rw [Js (hS.pl hp).2 (hS.pl hq).2,Z4 (by show ¬ (4:Int)=5;decide),Zcn (hS.pl hp).2 (hS.pl hq).2 (hl _),Z4 (by show ¬ (4:Int)=2;decide)];exact c5
     ·rw [Js (hS.pl hp).2 (hS.pl hq).2,Xa rfl];exact c4
 | @ZaS p q=>
   have c:Snt s (kK p q σ):=h.same (fun _ _=>rfl) rfl rfl rfl (Ke σ.ev _ 1) (Ke σ.ev _ 3);exact c.see _ _ _
 | @ZaR p q hp hq hst e0=>
   have e1:U6 1 (kK p q σ).ev=U6 1 σ.ev + 1:=by show U6 1 (σ.ev ++ [_])=_;rw [Zas,Xa rfl]
   have e3:U6 3 σ.ev <=U6 3 (kK p q σ).ev:=Ke σ.ev _ 3;have f:∀ k,sk s k (kK p q σ)=sk s k σ:=fun _=>rfl
   have l1:=h.k1;have l2:=h.k2;have l5:=h.k5;have l4:=h.k4;refine⟨?_,?_,?_,?_⟩
   ·rw [Js (hS.pl hp).2 (hS.pl hq).2,f,Xa rfl];show sk s 1 σ + 1 <=U6 1 (kK p q σ).ev;omega
   ·rw [Js (hS.pl hp).2 (hS.pl hq).2,f,Z4 (by show ¬ (1:Int)=2;decide)];show sk s 2 σ + 0 <=U6 3 (kK p q σ).ev;omega
   ·rw [Js (hS.pl hp).2 (hS.pl hq).2,f,Z4 (by show ¬ (1:Int)=5;decide),Zcn (σ:=kK p q σ) (hS.pl hp).2 (hS.pl hq).2 (h2.ld _),Z4 (by show ¬ (1:Int)=2;decide)];show sk s 5 σ + 0 + (ska s σ + 0) + waT s σ <=U6 3 (kK p q σ).ev;omega
   ·rw [Js (hS.pl hp).2 (hS.pl hq).2,f,Z4 (by show ¬ (1:Int)=4;decide)];exact l4
 | @ZaN p q hp hq hst e0=>
   have e1:U6 1 σ.ev <=U6 1 (tell 3 p q 0 σ).ev:=Ke σ.ev _ 1;have e3:U6 3 (tell 3 p q 0 σ).ev=U6 3 σ.ev + 1:=by show U6 3 (σ.ev ++ [_])=_;rw [Zas,Xa rfl]
   have l1:=h.k1;have l2:=h.k2;have l5:=h.k5;have l4:=h.k4;exact Snt.note (σ:=tell 3 p q 0 σ) hS h2.ld hp hq (Nat.le_trans l1 e1) (by show sk s 2 σ <=_;omega) (by show sk s 5 σ + ska s σ + waT s σ + 1 <=_;omega) l4
 | @ZaM p q hp hq hst e0=>
   have e1:U6 1 σ.ev <=U6 1 (tell 3 p q 0 σ).ev:=Ke σ.ev _ 1;have e3:U6 3 (tell 3 p q 0 σ).ev=U6 3 σ.ev + 1:=by show U6 3 (σ.ev ++ [_])=_;rw [Zas,Xa rfl]
   have f:∀ k,sk s k (tell 3 p q 0 σ)=sk s k σ:=fun _=>rfl
   have l1:=h.k1;have l2:=h.k2;have l5:=h.k5;have l4:=h.k4;refine⟨?_,?_,?_,?_⟩
   ·rw [Js (hS.pl hp).2 (hS.pl hq).2,f,Z4 (by show ¬ (2:Int)=1;decide)];exact Nat.le_trans l1 e1
   ·rw [Js (hS.pl hp).2 (hS.pl hq).2,f,Xa rfl];show sk s 2 σ + 1 <=U6 3 (tell 3 p q 0 σ).ev;omega
   ·rw [Js (hS.pl hp).2 (hS.pl hq).2,f,Z4 (by show ¬ (2:Int)=5;decide),Zcn (σ:=tell 3 p q 0 σ) (hS.pl hp).2 (hS.pl hq).2 (h2.ld _),Xa rfl];show sk s 5 σ + 0 + (ska s σ + 1) + waT s σ <=U6 3 (tell 3 p q 0 σ).ev;omega
   ·rw [Js (hS.pl hp).2 (hS.pl hq).2,f,Z4 (by show ¬ (2:Int)=4;decide)];exact l4
 | @Za0 a b p q ha hb hl hk=>
   have hd:=Zco (Jj ha hb) hl;rw [Z4 (by omega)] at hd;exact Snt.see (σ:=drop1 (li s a b) σ) (h.same (fun _ _=>rfl) hd rfl rfl (Nat.le_refl _) (Nat.le_refl _)) _ _ _
 | @Za2 a b p q ha hb hl hk hpe hqe hp hq=>
   have hd:=Zco (Jj ha hb) hl;rw [Xa hk] at hd;have l5:=h.k5;exact Snt.note (σ:=drop1 (li s a b) σ) hS (h2.drop hl).ld hp hq h.k1 h.k2 (by show sk s 5 σ + _ + waT s σ + 1 <=U6 3 σ.ev;omega) h.k4
 | @Zab a b p ha hb hl hk=>
   have hd:=Zco (Jj ha hb) hl;rw [Z4 (by omega)] at hd;exact h.same (fun _ _=>rfl) hd rfl rfl (Nat.le_refl _) (Nat.le_refl _)
 | @KV a b p ha hb hl hk=>
   have hd:=Zco (Jj ha hb) hl;rw [Z4 (by omega)] at hd;exact h.same (fun _ _=>rfl) hd rfl rfl (Nat.le_refl _) (Nat.le_refl _)
 | @Za1 a b ha hb hl hk=>
   have hd:=Zco (Jj ha hb) hl;rw [Z4 (by omega)] at hd;exact h.same (fun _ _=>rfl) hd rfl rfl (Nat.le_refl _) (Nat.le_refl _)
 | @ring w i=>
   unfold rung;split
   ·exact h.same (fun _ _=>rfl) rfl rfl rfl (Ke _ _ _) (Ke _ _ _)
   ·exact h.same (fun _ _=>rfl) rfl rfl rfl (Nat.le_refl _) (Nat.le_refl _)
end
end
section
def c3k (s:Zb) (σ:TS) (k:Nat):Nat:=Y7 (mm s * mm s) fun i=>(σ.sn i).countP fun x=>(x.kW==3) && (x.kV== (k:Int))
section
variable {s:Zb} {σ τ υ:TS} {F B a b p q w i j n d r v m:Nat} {x:Zd} {k:Nat}
theorem ZcR (ha:a < mm s) (hb:b < mm s):c3k s (send s a b x σ) k=c3k s σ k + one (x.kW=3∧x.kV= (k:Int)):=by
 have h:=Q9 (f:=fun i=>(σ.sn i).countP fun x=>(x.kW==3) && (x.kV== (k:Int))) (g:=fun i=>((send s a b x σ).sn i).countP fun x=>(x.kW==3) && (x.kV== (k:Int))) (Jj ha hb) fun j _ hj=>by rw [QS hj]
 rw [Zad,List.countP_append,List.countP_cons,List.countP_nil,Nat.zero_add] at h
 have e:(if((x.kW==3) && (x.kV== (k:Int)))=true then 1 else 0)=one (x.kW=3∧x.kV= (k:Int)):=by
  by_cases c:x.kW=3∧x.kV= (k:Int)
  ·rw [Xa c,c.1,c.2];simp
  ·rw [Z4 c,if_neg];simp only [Ba0,beq_iff_eq];exact c
 rw [e] at h;unfold c3k;omega
theorem ZoK (hS:Y8 s) (hp:p < nn s) (hq:q < nn s):c3k s (YH s p q σ) k=c3k s σ k:=by
 unfold YH;split
 ·rfl
 ·rw [ZcR (hS.pl hq).2 (hS.pl hp).2,Z4 (fun z=>absurd z.1 (by show ¬ (5:Int)=3;decide))];rfl
theorem ZzB (hS:Y8 s) (hp:p < nn s) (hq:q < nn s):c3k s (note s p q σ) k=c3k s σ k:=by
 unfold note;split
 ·exact ZoK hS hp hq
 ·rfl
theorem ZzC (hS:Y8 s) (h1:P1 s σ) (hp:p < nn s):c3k s (ZF s p σ) k=c3k s σ k:=by
 have:c3k s (Zu s p (σ.wa p) (QW p σ)) k=c3k s σ k:=QA _ (fun τ=>c3k s τ k=c3k s σ k) (σ.wa p) (QW p σ) rfl fun τ x hx hτ=>by
  obtain⟨k',rfl,hk⟩:=h1.ws p hp x hx;rw [Int.toNat_natCast,ZoK hS hk hp];exact hτ
 exact this
theorem ZoE (hS:Y8 s):∀ (d p:Nat) (σ:TS),p < nn s ->P1 s σ ->σ.st p=2 ->Alo s σ p ->c3k s (Kc s d p σ) k=c3k s σ k:=by
 intro d
 induction d with
 | zero=>intro p σ _ _ _ _;rfl
 | succ d ih=>
   intro p σ hp h1 h2 hA;have eA:=ZzC (k:=k) hS h1 hp;have hC:P1 s (JI s p σ):=h1.act hS (.die hp h2 hA);show c3k s (ZbG s (Kc s d) p (ZF s p σ)) k=_;unfold ZbG;unfold JI at hC;by_cases h0:inn s (p:Int) < 0
   ·rw [if_pos h0];exact eA
   ·rw [if_neg h0] at hC ⊢;obtain⟨_,hq⟩:=Xm hS hp h0;by_cases c:pl s (inn s (p:Int)).toNat=pl s p
    ·rw [if_pos c] at hC ⊢;unfold JC;by_cases c2:(Z8 s p (Us s (ZF s p σ) p) (ZF s p σ)).st (inn s (p:Int)).toNat=2∧Alo s (Z8 s p (Us s (ZF s p σ) p) (ZF s p σ)) (inn s (p:Int)).toNat
     ·rw [ZH c2,ih _ _ hq hC c2.1 c2.2];exact eA
     ·rw [ZG c2];exact eA
    ·rw [if_neg c,ZcR (hS.pl hp).2 (hS.pl hq).2,Z4 (fun z=>absurd z.1 (by show ¬ (4:Int)=3;decide))];exact eA
end
end
section
def V3 (s:Zb) (σ:TS):Prop:=∀ k,k < nn s ->c3k s σ k <=one (0 <=inn s (k:Int)∧σ.st (inn s (k:Int)).toNat ≠ 1)
def Fr3 (s:Zb) (σ τ:TS):Prop:=∀ p k,p < nn s ->k < nn s ->inn s (k:Int)= (p:Int) ->σ.st p ≠ 1 ->c3k s τ k=c3k s σ k
section
variable {s:Zb} {σ τ υ:TS} {F B a b p q w i j n d r v m:Nat} {x:Zd} {k:Nat} {y:ZE} {l:List ZE} {picks:List Int}
theorem Zw3 {c d:Prop} [Decidable c] [Decidable d] (h:c ->d):one c <=one d:=by
 by_cases z:c
 ·rw [Xa z,Xa (h z)];exact Nat.le_refl _
 ·rw [Z4 z];omega
theorem V3.keep (h:V3 s σ) (h1:∀ k,k < nn s ->c3k s τ k=c3k s σ k) (h2:∀ q,σ.st q ≠ 1 ->τ.st q ≠ 1):V3 s τ:=fun k hk=>by
 rw [h1 k hk];exact Nat.le_trans (h k hk) (Zw3 fun z=>⟨z.1,h2 _ z.2⟩)
theorem Zmp (h:τ.sn=σ.sn):c3k s τ k=c3k s σ k:=by unfold c3k;rw [h]
theorem V3.same (h:V3 s σ) (h1:τ.sn=σ.sn) (h2:τ.st=σ.st):V3 s τ:=h.keep (fun _ _=>Zmp h1) fun q z=>by rw [h2];exact z
theorem V3.send (h:V3 s σ) (ha:a < mm s) (hb:b < mm s) (hx:x.kW ≠ 3):V3 s (Proofs.YtcnahmgekicbdaaGreat.send s a b x σ):=
 h.keep (fun k _=>by rw [ZcR ha hb,Z4 fun z=>hx z.1];rfl) fun _ z=>z
theorem V3.note (hS:Y8 s) (h:V3 s σ) (hp:p < nn s) (hq:q < nn s):V3 s (Proofs.YtcnahmgekicbdaaGreat.note s p q σ):=
 h.keep (fun k _=>ZzB hS hp hq) fun r z=>by rw [(Xc p q σ).1];exact z
theorem Zoe (hS:Y8 s):∀ (d p:Nat) (σ:TS),p < nn s ->Ww s d p ->Wx s σ ->σ.st p=1 ->V3 s σ ->V3 s (YC s d p σ)∧Fr3 s σ (YC s d p σ):=by
 intro d
 induction d with
 | zero=>intro p σ hp hs _ _ _;exact absurd rfl (hs p hp 0 (Nat.le_refl _))
 | succ d ih=>
   intro p σ hp hs hI h1 hV;have a0:Qa s σ (YD p σ):= .one (.fall hp h1);have st0:(YD p σ).st p ≠ 1:=by show ZT σ.st p 2 p ≠ 1;rw [Zq];decide
   have kids:∀ m,m <=nn s ->Qa s σ (fk s (YC s d) p m (YD p σ))∧V3 s (fk s (YC s d) p m (YD p σ))∧(fk s (YC s d) p m (YD p σ)).st p ≠ 1∧Fr3 s σ (fk s (YC s d) p m (YD p σ))∧
    ∀ k,m <=k ->k < nn s ->inn s (k:Int)= (p:Int) ->c3k s (fk s (YC s d) p m (YD p σ)) k=0:=by
    intro m
    induction m with
    | zero=>
      intro _;refine⟨a0,hV.keep (fun k _=>Zmp (σ:=σ) (τ:=YD p σ) rfl) fun q z=>U4 a0 z,st0,fun q k _ _ _ _=>Zmp (σ:=σ) (τ:=YD p σ) rfl,fun k _ hk e=>?_⟩;have:=hV k hk;rw [e,Int.toNat_natCast,Z4 (fun z=>z.2 h1)] at this;show c3k s (YD p σ) k=0;rw [Zmp (σ:=σ) (τ:=YD p σ) rfl];omega
    | succ m ihm=>
      intro hm;obtain⟨b1,b2,b3,b4,b5⟩:=ihm (by omega)
      have hstep:fk s (YC s d) p (m + 1) (YD p σ)=if inn s (m:Int)= (p:Int) then KW s (YC s d) p (fk s (YC s d) p m (YD p σ)) m else fk s (YC s d) p m (YD p σ):=by
       unfold fk;rw [KD,List.foldl_append];split <;> rfl
      rw [hstep];generalize fk s (YC s d) p m (YD p σ)=τ at b1 b2 b3 b4 b5 ⊢;by_cases e:inn s (m:Int)= (p:Int)
      ·rw [if_pos e];have hmn:m < nn s:=by omega
       have Zqn:Wx s τ:=b1.keep (P:=Wx s) (fun _ _ h ac=>h.act hS ac) hI
       have fin:∀ (υ:TS),Qa s τ υ ->V3 s υ ->(∀ q k,q < nn s ->k < nn s ->inn s (k:Int)= (q:Int) ->τ.st q ≠ 1 ->k ≠ m ->c3k s υ k=c3k s τ k) ->Qa s σ υ∧V3 s υ∧υ.st p ≠ 1∧Fr3 s σ υ∧∀ k,m + 1 <=k ->k < nn s ->inn s (k:Int)= (p:Int) ->c3k s υ k=0:=fun υ c1 c2 c3=>
        ⟨b1.trans c1,c2,U4 c1 b3,fun q k hq hk ek z=>by
          have hkm:k ≠ m:=fun w=>by
           subst w;have:q=p:=by omega
           subst this;exact z h1
          rw [c3 q k hq hk ek (U4 b1 z) hkm];exact b4 q k hq hk ek z,fun k hmk hk ek=>by
          rw [c3 p k hp hk ek b3 (by omega)];exact b5 k (by omega) hk ek⟩
       unfold KW;by_cases el:pl s m=pl s p
       ·rw [if_pos el];by_cases e1:τ.st m=1
        ·rw [if_pos e1];obtain⟨k1,k2⟩:=ih m τ hmn (hs.kid e) Zqn e1 b2;exact fin _ (Zdk hS _ _ _ hmn (hs.kid e) e1) k1 fun q k hq hk ek z _=>k2 q k hq hk ek z
        ·rw [if_neg e1];exact fin τ .refl b2 fun _ _ _ _ _ _ _=>rfl
       ·rw [if_neg el];by_cases e1:(m:Int) ∈ τ.kn p
        ·rw [if_pos e1];exact fin τ .refl b2 fun _ _ _ _ _ _ _=>rfl
        ·rw [if_neg e1];refine fin _ (.one (.J7 hp hmn e b3 el e1)) (fun k hk=>?_) fun q k hq hk ek z hkm=>?_
         ·rw [ZcR (hS.pl hp).2 (hS.pl hmn).2];by_cases z:m=k
          ·subst z;rw [b5 m (Nat.le_refl _) hk e,Xa (⟨rfl,rfl⟩:(3:Int)=3∧((m:Nat):Int)= ((m:Nat):Int))];rw [Xa]
           ·exact Nat.le_refl _
           ·rw [e,Int.toNat_natCast];exact⟨by omega,b3⟩
          ·rw [Z4 (fun w=>z (by have:((m:Nat):Int)= (k:Int):=w.2;omega))];exact b2 k hk
         ·rw [ZcR (hS.pl hp).2 (hS.pl hmn).2,Z4 (fun w=>hkm (by have:((m:Nat):Int)= (k:Int):=w.2;omega))];rfl
      ·rw [if_neg e];exact⟨b1,b2,b3,b4,fun k hk=>b5 k (by omega)⟩
   obtain⟨b1,b2,b3,b4,b5⟩:=kids (nn s) (Nat.le_refl _);show V3 s (ZaF s p _)∧Fr3 s σ (ZaF s p _);unfold ZaF;by_cases c:(fk s (YC s d) p (nn s) (YD p σ)).st p=2∧Alo s (fk s (YC s d) p (nn s) (YD p σ)) p
   ·rw [ZH c];have Zqn:Wx s (fk s (YC s d) p (nn s) (YD p σ)):=b1.keep (P:=Wx s) (fun _ _ h ac=>h.act hS ac) hI;have hd:∀ k,c3k s (Kc s (nn s) p (fk s (YC s d) p (nn s) (YD p σ))) k=c3k s (fk s (YC s d) p (nn s) (YD p σ)) k:=fun k=>ZoE hS _ _ _ hp Zqn.p1 c.1 c.2
    exact⟨b2.keep (fun k _=>hd k) fun q z=>U4 (Za9 hS _ _ _ hp (U3 hS hp) c.1 c.2) z,fun q k hq hk e z=>(hd k).trans (b4 q k hq hk e z)⟩
   ·rw [ZG c];exact⟨b2,b4⟩
theorem V3.Kc (hS:Y8 s) (h:V3 s σ) (h1:P1 s σ) (hp:p < nn s) (h2:σ.st p=2) (hA:Alo s σ p):V3 s (Kc s (nn s) p σ):=
 h.keep (fun k _=>ZoE hS _ _ _ hp h1 h2 hA) fun q z=>U4 (Za9 hS _ _ _ hp (U3 hS hp) h2 hA) z
theorem Zxr (hS:Y8 s) (hI:Wx s σ) (h:V3 s σ) (ha:a < mm s) (hb:b < mm s) (hl:σ.ld (li s a b) < (σ.sn (li s a b)).length) (hx:Zrx s b (Proofs.YtcnahmgekicbdaaGreat.hd σ (li s a b))) (hD:Zpa s (Proofs.YtcnahmgekicbdaaGreat.hd σ (li s a b)) σ):V3 s (Zao s a b σ):=by
 obtain⟨p,hp,hpn,c⟩:=hx;have hd:V3 s (drop1 (li s a b) σ):=h.same rfl rfl;unfold Zao Zd3;rcases c with⟨k,q,hq,JL⟩ | ⟨k,q,hq,JL⟩ | k | ⟨k,h0,hm⟩ | ⟨k,e,hm,q,hq,JL⟩
 ·rw [if_pos k];have z:=XT (Proofs.YtcnahmgekicbdaaGreat.hd σ (li s a b)).kX.toNat (Proofs.YtcnahmgekicbdaaGreat.hd σ (li s a b)).kV.toNat (Proofs.YtcnahmgekicbdaaGreat.hd σ (li s a b)).n (drop1 (li s a b) σ);exact hd.same z.2.2.2.2.1 z.1
 ·rw [if_neg (by omega),if_pos k,hp,hq,Int.toNat_natCast,Int.toNat_natCast];exact hd.note hS hpn JL
 ·rw [if_neg (by omega),if_neg (by omega),if_pos k,hp,Int.toNat_natCast];by_cases e:(drop1 (li s a b) σ).st p=1
  ·rw [if_pos e];have hId:Wx s (drop1 (li s a b) σ):=hI.act hS (.Zab ha hb hl k hp hpn);exact(Zoe hS (nn s) p _ hpn (Ww.all hS.inn) hId e hd).1
  ·rw [if_neg e];exact hd
 ·rw [if_neg (by omega),if_neg (by omega),if_neg (by omega),if_pos k,hp,Int.toNat_natCast];obtain⟨eq,hq⟩:=Xm hS hpn (by omega);obtain⟨h3,hn⟩:=ZeY hp hD k;have hId:Wx s (Z8 s p (Proofs.YtcnahmgekicbdaaGreat.hd σ (li s a b)).qX (drop1 (li s a b) σ)):=hI.act hS (.KV ha hb hl k hp hpn h0 hm h3 hn);have hL:V3 s (Z8 s p (Proofs.YtcnahmgekicbdaaGreat.hd σ (li s a b)).qX (drop1 (li s a b) σ)):=hd.same rfl rfl;unfold ZaC JC;by_cases c:(Z8 s p (Proofs.YtcnahmgekicbdaaGreat.hd σ (li s a b)).qX (drop1 (li s a b) σ)).st (inn s (p:Int)).toNat=2∧Alo s (Z8 s p (Proofs.YtcnahmgekicbdaaGreat.hd σ (li s a b)).qX (drop1 (li s a b) σ)) (inn s (p:Int)).toNat
  ·rw [ZH c];exact hL.Kc hS hId.p1 hq c.1 c.2
  ·rw [ZG c];exact hL
 ·rw [if_neg (by omega),if_neg (by omega),if_neg (by omega),if_neg (by omega)];exact hd.same rfl rfl
theorem Znk:∀ k,(rings s k σ).sn=σ.sn∧(rings s k σ).st=σ.st:=by
 have ring:∀ (w n:Nat) (τ:TS),(Wh s w n τ).sn=τ.sn∧(Wh s w n τ).st=τ.st:=fun w n=>by
  induction n with
  | zero=>intro τ;exact⟨rfl,rfl⟩
  | succ n ih=>
    intro τ;rw [Wh];split
    ·exact⟨rfl,rfl⟩
    ·rename_i i _;have z:=Qq s w i τ;exact⟨(ih _).1.trans z.2.2.2.2.2.1,(ih _).2.trans z.2.2.1⟩
 intro k
 induction k with
 | zero=>exact⟨rfl,rfl⟩
 | succ k ih=>rw [rings];exact⟨(ring _ _ _).1.trans ih.1,(ring _ _ _).2.trans ih.2⟩
theorem ZrE (hS:Y8 s) (hI:Wx s σ) (h:V3 s σ) (hA:ZaI s y σ) (ok:Ok s B σ):V3 s (stepW s y σ):=by
 unfold stepW;refine V3.same ?_ (Znk _).1 (Znk _).2;rcases hA with⟨k,p,q,hp,hq,hpn,JL,hst⟩ | ⟨k,p,q,hp,hq,hpn,JL,hst⟩ | ⟨k,p,hp,hpn,hst⟩ | ⟨k,a,b,ha,hb,han,hbn,hl⟩
 ·unfold UG;rw [if_pos k,hp,hq,Int.toNat_natCast,Int.toNat_natCast];split
  ·have z:=XT q p σ.sd (kK p q σ);exact h.same z.2.2.2.2.1 z.1
  ·exact V3.send (σ:=kK p q σ) (h.same rfl rfl) (hS.pl hpn).2 (hS.pl JL).2 (by show ¬ (1:Int)=3;decide)
 ·unfold UG;rw [if_neg (by omega),if_pos k,hp,hq,Int.toNat_natCast,Int.toNat_natCast];split
  ·exact V3.note (σ:=tell 3 p q 0 σ) hS (h.same rfl rfl) hpn JL
  ·exact V3.send (σ:=tell 3 p q 0 σ) (h.same rfl rfl) (hS.pl hpn).2 (hS.pl JL).2 (by show ¬ (2:Int)=3;decide)
 ·unfold UG;rw [if_neg (by omega),if_neg (by omega),if_pos k,hp,Int.toNat_natCast];exact(Zoe hS (nn s) p σ hpn (Ww.all hS.inn) hI hst h).1
 ·unfold UG;rw [if_neg (by omega),if_neg (by omega),if_neg (by omega),ha,hb,Int.toNat_natCast,Int.toNat_natCast];obtain⟨hf,hD⟩:=ok.head han hbn hl;exact Zxr hS hI h han hbn hl hf.s hD
theorem ZBg (hS:Y8 s):∀ k,V3 s (Yg s l k).1:=by
 intro k
 induction k with
 | zero=>
   intro q _
   have:c3k s ts0 q=0:=by
    show Y7 (mm s * mm s) (fun _=>0)=0;rw [JO,Nat.mul_zero]
   show c3k s ts0 q <=_;rw [this];omega
 | succ k ih=>
   obtain⟨ok,_,ac⟩:=Wy (l:=l) hS k;rw [Yg];by_cases hA:ZaI s (l.getD k default) (Yg s l k).1
   ·rw [ZH hA];exact ZrE hS (Uk hS ac) ih hA ok
   ·rw [ZG hA];exact ih
theorem ZI2 (hS:Y8 s) (hac:Qa s ts0 σ) (ok:Ok s B σ) (h:V3 s σ):∀ r,V3 s (drK s picks σ r):=by
 intro r
 induction r with
 | zero=>exact h
 | succ r ih=>
   obtain⟨o,a⟩:=Zet (picks:=picks) hS ok r;rw [drK];by_cases e:opens s (drK s picks σ r)= []
   ·rw [if_pos e];exact ih
   ·rw [if_neg e];exact ZrE hS (Uk hS (hac.trans a)) ih (ZbB (σ:=drK s picks σ r) hS (ZaW (picks:=picks) (r:=r) e)) o
theorem ZIT (hS:Y8 s):V3 s (Jt s l picks n):=by
 obtain⟨ok,_,ac⟩:=Wy (l:=l) hS l.length;exact ZI2 hS ac ok (ZBg hS l.length) n
end
end
section
def f13 (l:List Zg):List Zg:=l.filter fun e=>(e.kZ==1) || (e.kZ==3)
def Cs (σ τ:TS):Prop:=f13 τ.ev=f13 σ.ev
section
variable {s:Zb} {σ τ υ:TS} {F B a b p q w i j n d r v m:Nat} {x:Zd} {k:Nat} {y:ZE} {l:List ZE} {picks:List Int} {e:Zg}
theorem Zmb {l:List Zg} (h1:e.kZ ≠ 1) (h3:e.kZ ≠ 3):f13 (l ++ [e])=f13 l:=by
 unfold f13;rw [List.filter_append,List.filter_cons,List.filter_nil,if_neg,List.append_nil];simp only [Bool.or_eq_true,beq_iff_eq];exact fun z=>z.elim h1 h3
theorem ZsI {l:List Zg} (h:e.kZ=1∨e.kZ=3):f13 (l ++ [e])=f13 l ++ [e]:=by
 unfold f13;rw [List.filter_append,List.filter_cons,List.filter_nil,if_pos];simp only [Bool.or_eq_true,beq_iff_eq];exact h
theorem Cs.refl' (h:τ.ev=σ.ev):Cs σ τ:=by unfold Cs;rw [h]
theorem Cs.trans (h:Cs σ τ) (h':Cs τ υ):Cs σ υ:=Eq.trans h' h
theorem Cs.tell (d p q n:Int) (h1:d ≠ 1) (h3:d ≠ 3):Cs σ (Proofs.YtcnahmgekicbdaaGreat.tell d p q n σ):=Zmb h1 h3
theorem Cs.see (p q:Nat) (n:Int):Cs σ (Proofs.YtcnahmgekicbdaaGreat.see p q n σ):=by
 unfold Proofs.YtcnahmgekicbdaaGreat.see;split
 ·exact .tell _ _ _ _ (by decide) (by decide)
 ·exact .refl' rfl
theorem Cs.note (p q:Nat):Cs σ (Proofs.YtcnahmgekicbdaaGreat.note s p q σ):= .refl' (Xc p q σ).2.2.2.2.2
theorem Cs.ZF (p:Nat):Cs σ (Proofs.YtcnahmgekicbdaaGreat.ZF s p σ):=by
 unfold Cs;rw [(X7 (s:=s) p σ).2.2.2.2.1];exact Zmb (by show ¬ (6:Int)=1;decide) (by show ¬ (6:Int)=3;decide)
theorem Zs0:∀ (d p:Nat) (σ:TS),Cs σ (Kc s d p σ):=by
 intro d
 induction d with
 | zero=>intro p σ;exact .refl' rfl
 | succ d ih=>
   intro p σ;have hA:Cs σ (ZF s p σ):= .ZF p;show Cs σ (ZbG s (Kc s d) p (ZF s p σ));unfold ZbG;by_cases h0:inn s (p:Int) < 0
   ·rw [if_pos h0];exact hA
   ·rw [if_neg h0];split
    ·unfold JC;have hL:Cs σ (Z8 s p (Us s (ZF s p σ) p) (ZF s p σ)):=hA.trans (.refl' rfl);by_cases c:(Z8 s p (Us s (ZF s p σ) p) (ZF s p σ)).st (inn s (p:Int)).toNat=2∧Alo s (Z8 s p (Us s (ZF s p σ) p) (ZF s p σ)) (inn s (p:Int)).toNat
     ·rw [ZH c];exact hL.trans (ih _ _)
     ·rw [ZG c];exact hL
    ·exact hA.trans (.refl' rfl)
theorem Zod:∀ (d p:Nat) (σ:TS),Cs σ (YC s d p σ):=by
 intro d
 induction d with
 | zero=>intro p σ;exact .refl' rfl
 | succ d ih=>
   intro p σ;have h0:Cs σ (YD p σ):=Zmb (by show ¬ (5:Int)=1;decide) (by show ¬ (5:Int)=3;decide)
   have hk:Cs σ (fk s (YC s d) p (nn s) (YD p σ)):=by
    refine QA _ (Cs σ) _ _ h0 fun τ k hk hτ=>?_
    unfold KW;split
    ·split
     ·exact hτ.trans (ih k τ)
     ·exact hτ
    ·split
     ·exact hτ
     ·exact hτ.trans (.refl' rfl)
   show Cs σ (ZaF s p _);unfold ZaF;by_cases c:(fk s (YC s d) p (nn s) (YD p σ)).st p=2∧Alo s (fk s (YC s d) p (nn s) (YD p σ)) p
   ·rw [ZH c];exact hk.trans (Zs0 _ _ _)
   ·rw [ZG c];exact hk
theorem Zxq (b:Nat) (x:Zd):Cs σ (Zd3 s b x σ):=by
 unfold Zd3;split
 ·exact .see _ _ _
 ·split
  ·exact .note _ _
  ·split
   ·split
    ·exact Zod _ _ _
    ·exact .refl' rfl
   ·split
    ·unfold ZaC JC;have hL:Cs σ (Z8 s x.kV.toNat x.qX σ):= .refl' rfl;by_cases c:(Z8 s x.kV.toNat x.qX σ).st (inn s ((x.kV.toNat:Nat):Int)).toNat=2∧Alo s (Z8 s x.kV.toNat x.qX σ) (inn s ((x.kV.toNat:Nat):Int)).toNat
     ·rw [ZH c];exact hL.trans (Zs0 _ _ _)
     ·rw [ZG c];exact hL
    ·exact .refl' rfl
theorem Zxt:Cs σ (Zao s a b σ):=by
 unfold Zao;exact(Cs.refl' (σ:=σ) (τ:=drop1 (li s a b) σ) rfl).trans (Zxq _ _)
theorem Zwe:∀ k,Cs σ (rings s k σ):=by
 have one:∀ (w i:Nat) (τ:TS),Cs τ (rung s w i τ):=fun w i τ=>by
  unfold rung;split
  ·exact Zmb (by show ¬ (4:Int)=1;decide) (by show ¬ (4:Int)=3;decide)
  ·exact .refl' rfl
 have ring:∀ (w n:Nat) (τ:TS),Cs τ (Wh s w n τ):=fun w n=>by
  induction n with
  | zero=>intro τ;exact .refl' rfl
  | succ n ih=>
    intro τ;rw [Wh];split
    ·exact .refl' rfl
    ·exact(one _ _ _).trans (ih _)
 intro k
 induction k with
 | zero=>exact .refl' rfl
 | succ k ih=>rw [rings];exact ih.trans (ring _ _ _)
theorem Zm9:f13 (stepW s y σ).ev=if y.act=1 then f13 σ.ev ++ [⟨1,((y.a.toNat:Nat):Int),((y.b.toNat:Nat):Int),σ.sd⟩] else if y.act=2 then f13 σ.ev ++ [⟨3,y.a,y.b,0⟩] else f13 σ.ev:=by
 have hr:f13 (stepW s y σ).ev=f13 (UG s y σ).ev:=Zwe _;rw [hr];unfold UG;by_cases k1:y.act=1
 ·rw [if_pos k1,if_pos k1];have h0:f13 (kK y.a.toNat y.b.toNat σ).ev=f13 σ.ev ++ [⟨1,((y.a.toNat:Nat):Int),((y.b.toNat:Nat):Int),σ.sd⟩]:=ZsI (l:=σ.ev) (e:= ⟨1,((y.a.toNat:Nat):Int),((y.b.toNat:Nat):Int),σ.sd⟩) (.inl rfl);split
  ·exact Eq.trans (Cs.see (σ:=kK y.a.toNat y.b.toNat σ) _ _ _) h0
  ·exact h0
 ·rw [if_neg k1,if_neg k1];by_cases k2:y.act=2
  ·rw [if_pos k2,if_pos k2];have h0:f13 (tell 3 y.a y.b 0 σ).ev=f13 σ.ev ++ [⟨3,y.a,y.b,0⟩]:=ZsI (l:=σ.ev) (e:= ⟨3,y.a,y.b,0⟩) (.inr rfl);split
   ·exact Eq.trans (Cs.note (s:=s) (σ:=tell 3 y.a y.b 0 σ) _ _) h0
   ·exact h0
  ·rw [if_neg k2,if_neg k2];split
   ·exact Zod _ _ _
   ·exact Zxt
theorem Zar {l:List Zg} {d:Int} (hd:d=1∨d=3):U6 d (f13 l)=U6 d l:=by
 induction l with
 | nil=>rfl
 | cons x l ih=>
   unfold f13 U6 at *;rw [List.filter_cons];by_cases c:((x.kZ==1) || (x.kZ==3))=true
   ·rw [if_pos c,List.countP_cons,List.countP_cons,ih]
   ·rw [if_neg c,List.countP_cons,ih,if_neg]
    ·rfl
    ·intro z;simp only [Bool.or_eq_true,beq_iff_eq] at c z;exact c (by rcases hd with rfl | rfl;exact .inl z;exact .inr z)
theorem ZvR:U6 1 (stepW s y σ).ev=U6 1 σ.ev + one (y.act=1)∧U6 3 (stepW s y σ).ev=U6 3 σ.ev + one (y.act=2):=by
 have h:=Zm9 (s:=s) (σ:=σ) (y:=y);rw [← Zar (d:=1) (.inl rfl),← Zar (d:=3) (.inr rfl),← Zar (l:=σ.ev) (d:=1) (.inl rfl),← Zar (l:=σ.ev) (d:=3) (.inr rfl),h];by_cases k1:y.act=1
 ·rw [if_pos k1,Zas,Zas,Xa k1,Xa (show((1:Int))=1 from rfl),Z4 (show ¬ ((1:Int))=3 by decide),Z4 (show ¬ y.act=2 by omega)];exact⟨rfl,rfl⟩
 ·rw [if_neg k1,Z4 k1];by_cases k2:y.act=2
  ·rw [if_pos k2,Zas,Zas,Xa k2,Z4 (show ¬ ((3:Int))=1 by decide),Xa (show((3:Int))=3 from rfl)];exact⟨rfl,rfl⟩
  ·rw [if_neg k2,Z4 k2];exact⟨rfl,rfl⟩
theorem ZI3:∀ r,Cs σ (drK s picks σ r):=by
 intro r
 induction r with
 | zero=>exact .refl' rfl
 | succ r ih=>
   rw [drK];split
   ·exact ih
   ·refine ih.trans ?_;unfold Cs;rw [Zm9,if_neg (show ¬ (ZeZ s _).act=1 by show ¬ (4:Int)=1;decide),if_neg (show ¬ (ZeZ s _).act=2 by show ¬ (4:Int)=2;decide)]
end
end
section
section
variable {s:Zb} {σ τ υ:TS} {F B a b p q w i j n d r v m:Nat} {x:Zd} {k:Nat} {y:ZE} {l:List ZE} {picks:List Int} {e:Zg}
theorem Zcm (n:Nat) (f g:Nat ->Nat):Y7 n (fun k=>f k + g k)=Y7 n f + Y7 n g:=by
 induction n with
 | zero=>rfl
 | succ n ih=>rw [Q8,Q8,Q8,ih];omega
theorem Ztp (n m:Nat) (f:Nat ->Nat ->Nat):Y7 n (fun i=>Y7 m (f i))=Y7 m fun j=>Y7 n fun i=>f i j:=by
 induction n with
 | zero=>rw [ZaP (f:=fun j=>Y7 0 fun i=>f i j) fun _ _=>rfl];rfl
 | succ n ih=>
   rw [Q8,ih,← Zcm];exact Jr fun j _=>Q8.symm
def kindOk (x:Zd):Prop:=x.kW=1∨x.kW=2∨x.kW=3∨x.kW=4∨x.kW=5
theorem Zdr (L:List Zd) (k:Int):ck k (x::L)=ck k L + one (x.kW=k):=by
 unfold ck;rw [List.countP_cons];congr 1;by_cases c:x.kW=k
 ·rw [Xa c,c];simp
 ·rw [Z4 c,if_neg];simpa using c
theorem ZtO:∀ (L:List Zd),(∀ x ∈ L,kindOk x) ->L.length=ck 1 L + ck 2 L + ck 3 L + ck 4 L + ck 5 L:=by
 intro L
 induction L with
 | nil=>intro _;rfl
 | cons x L ih=>
   intro h;have:=ih fun y hy=>h y (by simp [hy])
   rw [List.length_cons,Zdr,Zdr,Zdr,Zdr,Zdr];have hx:=h x (by simp);have o:∀ k:Int,one (x.kW=k)=if x.kW=k then 1 else 0:=fun _=>rfl
   simp only [o];rcases hx with e | e | e | e | e <;> rw [e] <;> simp <;> omega
theorem ZqT:∀ (L:List Zd),(∀ x ∈ L,x.kW=3 ->∃ k:Nat,x.kV= (k:Int)∧k < n) ->ck 3 L=Y7 n fun k=>L.countP fun x=>(x.kW==3) && (x.kV== (k:Int)):=by
 intro L
 induction L with
 | nil=>
   intro _;have:(Y7 n fun k=>([]:List Zd).countP fun x=>(x.kW==3) && (x.kV== (k:Int)))=0:=ZaP fun _ _=>rfl
   rw [this];rfl
 | cons x L ih=>
   intro h;rw [Zdr,ih fun y hy=>h y (by simp [hy])];by_cases c:x.kW=3
   ·rw [Xa c];obtain⟨k,e,hk⟩:=h x (by simp) c
    have:=Q9 (f:=fun k=>L.countP fun x=>(x.kW==3) && (x.kV== (k:Int))) (g:=fun k=>(x::L).countP fun x=>(x.kW==3) && (x.kV== (k:Int))) hk fun j _ hj=>by
     show(x::L).countP _=L.countP _;rw [List.countP_cons,if_neg,Nat.add_zero];rw [e];simp only [Ba0,beq_iff_eq];intro z;exact hj (by have:=z.2;omega)
    have e2:(x::L).countP (fun x=>(x.kW==3) && (x.kV== (k:Int)))=L.countP (fun x=>(x.kW==3) && (x.kV== (k:Int))) + 1:=by
     rw [List.countP_cons,if_pos];rw [c,e];simp
    rw [e2] at this;omega
   ·rw [Z4 c,Nat.add_zero];refine Jr fun k _=>?_
    rw [List.countP_cons,if_neg,Nat.add_zero];simp only [Ba0,beq_iff_eq];exact fun z=>c z.1
theorem ZL6 (h1:1 <=mm s) (hi:i < mm s * mm s):∃ a b,a < mm s∧b < mm s∧li s a b=i:=by
 refine⟨i / mm s,i % mm s,Nat.div_lt_of_lt_mul hi,Nat.mod_lt _ (by omega),?_⟩;unfold li;rw [Nat.mul_comm];exact Nat.div_add_mod _ _
theorem P1.kinds (hS:Y8 s) (h:P1 s σ) (hi:i < mm s * mm s):∀ x ∈ σ.sn i,kindOk x∧∃ p:Nat,x.kV= (p:Int)∧p < nn s:=by
 obtain⟨a,b,ha,hb,rfl⟩:=ZL6 hS.mm.2.1 hi;intro x hx;obtain⟨p,hp,hpn,_,c⟩:=h.lets a b ha hb x hx;refine⟨?_,p,hp,hpn⟩;unfold kindOk;rcases c with⟨k,_⟩ | ⟨k,_⟩ | ⟨k,_⟩ | ⟨k,_⟩ | ⟨k,_⟩ <;> omega
theorem Zxn (hS:Y8 s) (h1:P1 s σ) (h2:P2 s σ) (h3:V3 s σ) (hs:Snt s σ) (he:EvS s σ):lds s σ <=U6 1 σ.ev + 2 * U6 3 σ.ev + 2 * nn s:=by
 have a1:lds s σ <=Y7 (mm s * mm s) fun i=>(σ.sn i).length:=Zhn fun i _=>h2.ld i
 have a2:(Y7 (mm s * mm s) fun i=>(σ.sn i).length)=sk s 1 σ + sk s 2 σ + sk s 3 σ + sk s 4 σ + sk s 5 σ:=by
  unfold sk;rw [← Zcm,← Zcm,← Zcm,← Zcm];exact Jr fun i hi=>ZtO _ fun x hx=>(h1.kinds hS hi x hx).1
 have a3:sk s 3 σ=Y7 (nn s) (c3k s σ):=by
  unfold sk;rw [Jr fun i hi=>ZqT (n:=nn s) (σ.sn i) fun x hx _=>(h1.kinds hS hi x hx).2];exact Ztp _ _ _
 have a4:sk s 3 σ <=nn s:=by
  rw [a3];have:Y7 (nn s) (c3k s σ) <=Y7 (nn s) fun _=>1:=Zhn fun k hk=>Nat.le_trans (h3 k hk) (by unfold one;split <;> omega)
  rw [JO,Nat.mul_one] at this;exact this
 have a5:dcT s σ <=nn s:=by
  have:dcT s σ <=Y7 (nn s) fun _=>1:=Zhn fun k hk=>by unfold one;split <;> omega
  rw [JO,Nat.mul_one] at this;exact this
 have:=hs.k1;have:=hs.k2;have:=hs.k5;have:=hs.k4;omega
theorem ZvY (hS:Y8 s) (h:Qa s ts0 σ):Snt s σ:=by
 refine(h.keep (P:=fun σ=>Wx s σ∧Snt s σ) (fun _ _ ⟨a,b⟩ ac=>⟨a.act hS ac,b.act hS a.p1 a.p2 ac⟩) ⟨Uk hS .refl,?_⟩).2
 have z:∀ k,sk s k ts0=0:=fun k=>by
  show Y7 (mm s * mm s) (fun _=>0)=0;rw [JO,Nat.mul_zero]
 have z2:ska s ts0=0:=by
  show Y7 (mm s * mm s) (fun _=>0)=0;rw [JO,Nat.mul_zero]
 have z3:waT s ts0=0:=by
  show Y7 (nn s) (fun _=>0)=0;rw [JO,Nat.mul_zero]
 exact⟨by rw [z];omega,by rw [z];omega,by rw [z,z2,z3];omega,by rw [z];omega⟩
def maW (s:Zb) (l:List ZE) (L:List Int):Nat:=2 * nn s + (L.map fun i=>one ((l.getD i.toNat default).act=1) + 2 * one ((l.getD i.toNat default).act=2)).sum
theorem Zsd {L:List Int} {z:Int}:maW s l (L ++ [z])=maW s l L + (one ((l.getD z.toNat default).act=1) + 2 * one ((l.getD z.toNat default).act=2)):=by
 unfold maW;rw [List.map_append,List.sum_append];simp;omega
structure Dn (s:Zb) (l:List ZE) (k:Nat):Prop where
 srt:(Yg s l k).2.Pairwise (· < ·)
 rg:∀ x ∈ (Yg s l k).2,∃ j:Nat,x= (j:Int)∧j < k∧ZaI s (l.getD j default) (Yg s l j).1
 all:∀ j,j < k ->ZaI s (l.getD j default) (Yg s l j).1 ->(j:Int) ∈ (Yg s l k).2
 ma:maW s l (Yg s l k).2=U6 1 (Yg s l k).1.ev + 2 * U6 3 (Yg s l k).1.ev + 2 * nn s
theorem Zld:∀ k,Dn s l k:=by
 intro k
 induction k with
 | zero=>exact⟨.nil,fun x hx=>(by cases hx),fun j hj=>(by omega),(by show maW s l []=_;unfold maW;simp [Yg,ts0,U6])⟩
 | succ k ih=>
   rcases Classical.em (ZaI s (l.getD k default) (Yg s l k).1) with hA | hA
   ·have e:Yg s l (k + 1)= (stepW s (l.getD k default) (Yg s l k).1,(Yg s l k).2 ++ [(k:Int)]):=by rw [Yg,ZH hA]
    have e1:(Yg s l (k + 1)).1=stepW s (l.getD k default) (Yg s l k).1:=by rw [e]
    have e2:(Yg s l (k + 1)).2= (Yg s l k).2 ++ [(k:Int)]:=by rw [e]
    refine⟨?_,fun x hx=>?_,fun j hj hAj=>?_,?_⟩
    ·rw [e2,List.pairwise_append];refine⟨ih.srt,List.pairwise_singleton _ _,fun x hx y hy=>?_⟩;obtain⟨j,rfl,hj,_⟩:=ih.rg x hx;rw [List.mem_singleton.1 hy];omega
    ·rw [e2] at hx;rcases List.mem_append.1 hx with hx | hx
     ·obtain⟨j,a,b,c⟩:=ih.rg x hx;exact⟨j,a,by omega,c⟩
     ·rw [List.mem_singleton.1 hx];exact⟨k,rfl,by omega,hA⟩
    ·rw [e2];by_cases z:j=k
     ·subst z;simp
     ·exact List.mem_append_left _ (ih.all j (by omega) hAj)
    ·obtain⟨c1,c2⟩:=ZvR (s:=s) (σ:= (Yg s l k).1) (y:=l.getD k default);rw [e2,Zsd,e1,c1,c2,ih.ma,Int.toNat_natCast];omega
   ·have e:Yg s l (k + 1)=Yg s l k:=by rw [Yg,ZG hA]
    have e1:(Yg s l (k + 1)).1= (Yg s l k).1:=by rw [e]
    have e2:(Yg s l (k + 1)).2= (Yg s l k).2:=by rw [e]
    refine⟨by rw [e2];exact ih.srt,fun x hx=>?_,fun j hj hAj=>?_,by rw [e1,e2];exact ih.ma⟩
    ·rw [e2] at hx;obtain⟨j,a,b,c⟩:=ih.rg x hx;exact⟨j,a,by omega,c⟩
    ·rw [e2];by_cases z:j=k
     ·subst z;exact absurd hAj hA
     ·exact ih.all j (by omega) hAj
theorem ZOK (hS:Y8 s) (hac:Qa s ts0 (Jt s l picks n)) (hl:lds s (Jt s l picks n)=lds s (Yg s l l.length).1 + n):n <=maW s l (Yg s l l.length).2:=by
 have hI:=Uk hS hac;have h:=Zxn hS hI.p1 hI.p2 (ZIT hS) (ZvY hS hac) hI.es;have hc:Cs (Yg s l l.length).1 (Jt s l picks n):=ZI3 n;have h1:U6 1 (Jt s l picks n).ev=U6 1 (Yg s l l.length).1.ev:=by rw [← Zar (.inl rfl),hc,Zar (.inl rfl)]
 have h3:U6 3 (Jt s l picks n).ev=U6 3 (Yg s l l.length).1.ev:=by rw [← Zar (.inr rfl),hc,Zar (.inr rfl)]
 have hd:= (Zld (s:=s) (l:=l) l.length).ma;rw [h1,h3] at h;omega
theorem ZG0 (hF:1000000 <=F) (hS:Y8 s) (hl:l.length <=100):Zzd F s l=some (vw s (Yg s l l.length).1,(Yg s l l.length).1.ev,(Yg s l l.length).2,0):=by
 unfold Zzd;rw [Zev (by omega),ZH hS];simp only [Bq0,Zam,Bool.false_or];rw [decide_eq_false (show ¬ (l.length:Int) > 100 by omega)];simp only [Cq0];rw [Zjf (by omega) hS];simp only [Bq0];rw [Zkj hF hS (by omega)]
 rfl
def stp (l:List ZE) (L:List Int) (q:Nat):Bool:=L.any fun i=>((l.getD i.toNat default).act==3) && ((l.getD i.toNat default).a== (q:Int))
theorem ZA3 {L:List Int} {z:Int}:stp l (L ++ [z]) q= (stp l L q || (((l.getD z.toNat default).act==3) && ((l.getD z.toNat default).a== (q:Int)))):=by
 unfold stp;rw [List.any_append];simp
theorem ZrD:stp l (Yg s l l.length).2 q=true↔FS s l q:=by
 have D:=Zld (s:=s) (l:=l) l.length;unfold stp FS;rw [List.any_eq_true]
 constructor
 ·rintro⟨x,hx,h⟩;obtain⟨j,rfl,hj,hA⟩:=D.rg x hx;simp only [Ba0,beq_iff_eq,Int.toNat_natCast] at h;exact⟨j,hj,hA,h.1,h.2⟩
 ·rintro⟨j,hj,hA,h1,h2⟩;exact⟨(j:Int),D.all j hj hA,by simp only [Int.toNat_natCast,h1,h2];simp⟩
theorem ZG6 (L:List Int):maW s l L <=2 * nn s + 3 * L.length:=by
 unfold maW
 have:(L.map fun i=>one ((l.getD i.toNat default).act=1) + 2 * one ((l.getD i.toNat default).act=2)).sum <=3 * L.length:=by
  induction L with
  | nil=>simp
  | cons x L ih=>
    rw [List.map_cons,List.sum_cons,List.length_cons];have h1:one ((l.getD x.toNat default).act=1) <=1:=by unfold one;split <;> omega
    have h2:one ((l.getD x.toNat default).act=2) <=1:=by unfold one;split <;> omega
    omega
 omega
theorem Zm5 {α:Type} {L:List α} {k:Nat} (h:k < L.length) (d:α):L.take (k + 1)=L.take k ++ [L.getD k d]:=by
 rw [List.take_succ_eq_append_getElem h,WT h]
def gon (L:List Zg):List Int:= (L.filter fun x=>x.kZ==6).map Zg.kV
theorem ZBZ {L:List Zg}:gon (L ++ [e])=gon L ++ (if e.kZ=6 then [e.kV] else []):=by
 unfold gon;rw [List.filter_append,List.map_append];congr 1;rw [List.filter_cons,List.filter_nil];by_cases c:e.kZ=6
 ·rw [if_pos c,if_pos (by rw [c];rfl)];rfl
 ·rw [if_neg c,if_neg (by simpa using c)];rfl
theorem ZtK (hS:Y8 s) (h:Qa s ts0 σ):OrD s σ.ev:=
 (h.keep (P:=fun σ=>Wx s σ∧OrD s σ.ev) (fun _ _ ⟨a,b⟩ ac=>⟨a.act hS ac,Zw0 hS a b ac⟩) ⟨Uk hS .refl,fun i j _ hj=>by cases hj⟩).2
theorem Zt1 (hF:1000000 <=F) (hS:Y8 s) (hev:σ.ev.length <=9000) (hr:EvR s σ) (ho:OrD s σ.ev) (W:Zh) (n many:Nat) (hn:n <=many):
 loop F (Zof F s (W,σ.ev,(n:Int),true) (many:Int)) ([],0)=some true:=by
 refine Xf (fun k=>(gon (σ.ev.take k),(k:Int))) rfl (n:=σ.ev.length) (by omega) (fun k hk next=>?_) (fun next=>?_)
 ·have fin:∀ (g:List Int),Zky (k:Int) next g=next (g,((k + 1:Nat):Int)):=fun g=>by unfold Zky;rw [Qw (by omega)]
  unfold Zof;dsimp only;rw [YQ hk,Cq1,Qf default hk];simp only [Bq0];rw [Zm5 hk default,ZBZ,ZbK];obtain⟨⟨p,ep,hp⟩,_⟩:=hr _ (Xd (d:=default) hk);by_cases c:(σ.ev.getD k default).kZ=6
  ·rw [decide_eq_false (fun z=>z c),Cq0,if_pos c]
   have hgl:(gon (σ.ev.take k)).length <=k:=by
    unfold gon;rw [List.length_map];have:=List.length_filter_le (fun x:Zg=>x.kZ==6) (σ.ev.take k);rw [List.length_take] at this;omega
   refine Xf (fun j=>(j:Int)) rfl (n:= (gon (σ.ev.take k)).length) (by omega) (fun j hj nx=>?_) (fun nx=>?_)
   ·unfold ZsE;rw [YQ hj,Cq1,Qf 0 hj];simp only [Bq0];have hm:(gon (σ.ev.take k)).getD j 0 ∈ gon (σ.ev.take k):=Xd hj;obtain⟨x,hx,hxe⟩:=List.mem_map.1 hm;obtain⟨hx1,hx2⟩:=List.mem_filter.1 hx;obtain⟨i,hi,hie⟩:=List.getElem_of_mem hx1;have hi':i < k:=by rw [List.length_take] at hi;omega
    have hxi:σ.ev.getD i default=x:=by rw [WT (by omega),← hie,List.getElem_take]
    obtain⟨⟨q,eq,hq⟩,_⟩:=hr _ (Xd (d:=default) (show i < σ.ev.length by omega));have hW:¬ Wth s q p:=ho i k hi' hk (by rw [hxi];simpa using hx2) c q p eq ep hq hp;have hb:ZeG s q p=false:=Bool.eq_false_iff.2 fun z=>hW ((ZaK hS.inn hp).1 z)
    rw [← hxe,← hxi,eq,ep,lies (by omega) hS hp q,hb]
    have:∀ c:Bool,(gd c (some false) default).bind (fun Zjx=>bif c && Zjx then some false else nx (YB ((j:Int) + 1)))=nx (((j + 1:Nat):Int)):=fun c=>by
     rw [Qw (by omega)];cases c <;> rfl
    exact this _
   ·unfold ZsE;rw [Y2,Cq0,Zrb (by simp;omega)];simp only [Bq0];exact fin _
  ·rw [decide_eq_true c,Cq1,if_neg c,List.append_nil];exact fin _
 ·unfold Zof;dsimp only;rw [Y2,Cq0,decide_eq_true (show(n:Int) <= (many:Int) by omega)]
  rfl
theorem Zpu (hF:1000000 <=F) (hS:Y8 s) (hev:σ.ev.length <=9000) (hr:EvR s σ) (ho:OrD s σ.ev) (hes:EvS s σ) (f:Nat ->Bool) (hZ:∀ p,p < nn s ->((∃ q,q < nn s∧f q=true∧Wth s q p) ->σ.st p=3)∧(¬ (∃ q,q < nn s∧f q=true∧Wth s q p) ->σ.st p=1)) (n many:Nat) (hn:n <=many):
 loop F (Zog F s (vw s σ,σ.ev,(n:Int),true) (many:Int) (tab (nn s) f)) 0=some true:=by
 have h8:nn s <=8:=hS.p2;refine Xf (fun k=>(k:Int)) rfl (n:=nn s) (by omega) (fun p hp next=>?_) (fun next=>?_)
 ·unfold Zog;rw [show((s.Zf.length:Nat):Int)= ((nn s:Nat):Int) from rfl,YQ hp,Cq1];refine Xf (fun q=>((List.range q).any fun q=>f q && ZeG s q p,(q:Int))) rfl (n:=nn s) (by omega) (fun q hq nx=>?_) (fun nx=>?_)
  ·unfold ZsF;dsimp only;rw [show((s.Zf.length:Nat):Int)= ((nn s:Nat):Int) from rfl,YQ hq,Cq1,Yw hq,lies (by omega) hS hp q,List.range_succ,List.any_append,Qw (by omega)];generalize (List.range q).any (fun q=>f q && ZeG s q p)=A;have e1:([q].any fun q=>f q && ZeG s q p)= (f q && ZeG s q p):=by simp
   rw [e1];cases A <;> cases f q <;> rfl
  ·unfold ZsF;dsimp only;rw [show((s.Zf.length:Nat):Int)= ((nn s:Nat):Int) from rfl,Y2,Cq0];have h5:=hes.e5 p hp;have h6:=hes.e6 p hp
   have fin:∀ (w t:Int),σ.st p=w ->((c3 σ.ev 6 p 0:Nat):Int)=t ->((c3 σ.ev 5 p 0:Nat):Int)=t ->Zkz F (vw s σ,σ.ev,(n:Int),true) (p:Int) next (w,t)=next (((p + 1:Nat):Int)):=fun w t c1 c2 c3=>by
    unfold Zkz;dsimp only;rw [show(vw s σ).qV=tab (nn s) σ.st from rfl,Yw hp];simp only [Bq0];rw [ZkT (by omega) hev,ZkT (by omega) hev,c1,c2,c3,Qw (by omega)];simp only [Zam,Bool.not_false,UY,Bq0,Bool.or_self,Cq0]
   by_cases c:∃ q,q < nn s∧f q=true∧Wth s q p
   ·have e1:((List.range (nn s)).any fun q=>f q && ZeG s q p)=true:=by
     obtain⟨q,hq,h1,h2⟩:=c;rw [List.any_eq_true];exact⟨q,List.mem_range.2 hq,by rw [h1,(ZaK hS.inn hp).2 h2];rfl⟩
    have h3:= (hZ p hp).1 c;rw [e1,Cq1];rw [Xa h3] at h6;rw [Xa (by rw [h3];decide)] at h5;exact fin 3 1 h3 (by rw [h6];rfl) (by rw [h5];rfl)
   ·have e1:((List.range (nn s)).any fun q=>f q && ZeG s q p)=false:=by
     rw [Bool.eq_false_iff];intro z;rw [List.any_eq_true] at z;obtain⟨q,hq,z⟩:=z;rw [Ba0] at z;exact c ⟨q,List.mem_range.1 hq,z.1,(ZaK hS.inn hp).1 z.2⟩
    have h1:= (hZ p hp).2 c;rw [e1,Cq0];rw [Z4 (by rw [h1];decide)] at h6;rw [Z4 (fun z=>z h1)] at h5;exact fin 1 0 h1 (by rw [h6];rfl) (by rw [h5];rfl)
 ·unfold Zog;rw [show((s.Zf.length:Nat):Int)= ((nn s:Nat):Int) from rfl,Y2,Cq0];exact Zt1 hF hS hev hr ho _ n many hn
end
theorem ZmM (s:Zb) (l:List ZE) (picks:List Int) (hpl:picks.length <=9223372036854775807):f9L (1000000 + picks.length) s l picks=some true:=by
 obtain⟨F,eF⟩:∃ F,F=1000000 + picks.length:= ⟨_,rfl⟩
 have hF:1000000 <=F:=by omega
 rw [← eF];unfold f9L;obtain⟨g,hg,hgt⟩:=ZyB (s:=s) (l:=l) hF (pp:= [picks]) (by simp) (fun x hx=>by rw [List.mem_singleton.1 hx];exact⟨by omega,hpl⟩);rw [hg];simp only [Bq0];cases g with
 | false=>rfl
 | true=>
 have hG:=hgt rfl picks (by simp);have hS:=hG.1;have hl:=hG.2.1;have h8:nn s <=8:=hS.p2;obtain⟨n,hn,he,ok,ac,ac2,e2,hdr⟩:=ZqK hF hG;rw [hdr,ZG0 hF hS hl];simp only [Bool.not_true,Cq0,Bq0,Bool.or_false,Zam]
 have hZ:∀ p,p < nn s ->((∃ q,q < nn s∧stp l (Yg s l l.length).2 q=true∧Wth s q p) ->(Jt s l picks n).st p=3)∧(¬ (∃ q,q < nn s∧stp l (Yg s l l.length).2 q=true∧Wth s q p) ->(Jt s l picks n).st p=1):=fun p hp=>by
  have h:=ZIU hS ac he hp
  have e:(∃ q,q < nn s∧stp l (Yg s l l.length).2 q=true∧Wth s q p)↔FZ s l p:=by
   constructor
   ·rintro⟨q,_,h1,h2⟩;exact⟨q,ZrD.1 h1,h2⟩
   ·rintro⟨q,h1,h2⟩;exact⟨q,(Zsz hS h1).2,ZrD.2 h1,h2⟩
  exact⟨fun z=>h.1 (e.1 z),fun z=>h.2 fun w=>z (e.2 w)⟩
 have hnm:=ZOK hS ac e2;have hI:=Uk hS ac;have hO:=ZtK hS ac;have D:=Zld (s:=s) (l:=l) l.length;have hdl:= (Wy (l:=l) hS l.length).2.1;obtain⟨σ,hσ⟩:∃ σ,σ=Jt s l picks n:= ⟨_,rfl⟩
 rw [← hσ] at he ok ac ac2 e2 hZ hI hO ⊢;have hev:σ.ev.length <=9000:=by have:=ok.gd.wf.pot;unfold Pot at this;omega
 rw [show mkL false 1 ((s.Zf.length:Nat):Int) ((s.Zf.length:Nat):Int)=some (tab (nn s) fun _=>false) from Zll (n:=nn s) false (by omega)];simp only [Bq0]
 rw [show YB (2 * ((s.Zf.length:Nat):Int))= ((2 * nn s:Nat):Int) from by
  rw [show((s.Zf.length:Nat):Int)= ((nn s:Nat):Int) from rfl,Wm (by omega) (by omega)];omega]
 generalize hD:(Yg s l l.length).2=L at *;have DS:=D.srt;have DR:=D.rg;rw [hD] at DS DR;have hml:=fun k=>ZG6 (s:=s) (l:=l) (L.take k)
 refine Xf (fun k=>(((maW s l (L.take k):Nat):Int),(if k=0 then -1 else L.getD (k - 1) 0),(k:Int),tab (nn s) (stp l (L.take k)))) (by
  show(((maW s l []:Nat):Int),(-1:Int),(0:Int),tab (nn s) (stp l []))=_;unfold maW stp;simp) (n:=L.length) (by omega) (fun k hk next=>?_) (fun next=>?_)
 ·have hLk:(L.take k).length <=100:=by rw [List.length_take];omega
  have hmk:=hml k;have fin:∀ (a b:Int) (c:List Bool),ZgW (k:Int) next (a,b,c)=next (a,b,((k + 1:Nat):Int),c):=fun a b c=>by unfold ZgW;rw [Qw (by omega)]
  unfold ZsG;dsimp only;rw [YQ hk,Cq1,Qf 0 hk];simp only [Bq0];obtain⟨j,ej,hj,hA⟩:=DR _ (Xd (d:=0) hk)
  have hlast:(if k=0 then -1 else L.getD (k - 1) 0) < (j:Int):=by
   by_cases z:k=0
   ·rw [if_pos z];omega
   ·rw [if_neg z,← ej,WT (by omega),WT hk];exact List.pairwise_iff_getElem.1 DS (k - 1) k (by omega) hk (by omega)
  rw [Zm5 hk 0,ej,if_neg (show ¬ (k + 1=0) by omega),show k + 1 - 1=k by omega,ej];rw [decide_eq_false (by omega),decide_eq_false (by omega)];simp only [Bool.or_self,Cq0];rw [Qf default hj];simp only [Bq0];have hma:=Zsd (s:=s) (l:=l) (L:=L.take k) (z:= (j:Int))
  have hstp:∀ q,stp l (L.take k ++ [(j:Int)]) q= (stp l (L.take k) q || (((l.getD j default).act==3) && ((l.getD j default).a== (q:Int)))):=fun q=>by
   rw [ZA3,Int.toNat_natCast]
  rw [Int.toNat_natCast] at hma
  have ZM6:(l.getD j default).act ≠ 3 ->tab (nn s) (stp l (L.take k ++ [(j:Int)]))=tab (nn s) (stp l (L.take k)):=fun h3=>JY fun q _=>by
   rw [hstp q,beq_eq_false_iff_ne.2 h3];simp
  by_cases c3:(l.getD j default).act=3
  ·rw [c3,show((3:Int)==3)=true from rfl,Cq1]
   have hq:∃ q:Nat,(l.getD j default).a= (q:Int)∧q < nn s:=by
    rcases hA with⟨k',_⟩ | ⟨k',_⟩ | ⟨_,p,hp,hpn,hst⟩ | ⟨k',_⟩
    ·omega
    ·omega
    ·exact⟨p,hp,hpn⟩
    ·omega
   obtain⟨q,eq,JL⟩:=hq;rw [eq,Zid JL];simp only [Bq0,Bool.not_true,Cq0];rw [Yw JL];simp only [Bq0];rw [fin,Qy,hma,Z4 (by rw [c3];decide),Z4 (by rw [c3];decide)];congr 4;refine JY fun q' _=>?_
   rw [hstp q',c3,eq,Zdo];by_cases z:q'=q
   ·subst z;rw [Zq,decide_eq_true rfl];simp
   ·rw [ZA z,decide_eq_false (fun w=>z w.symm)];simp
  ·rw [beq_eq_false_iff_ne.2 c3,Cq0,ZM6 c3];by_cases c1:(l.getD j default).act=1
   ·rw [c1,show((1:Int)==1)=true from rfl,Cq1,fin,hma,Xa c1,Z4 (by rw [c1];decide),Wm (by omega) (by omega)];congr 2
   ·rw [beq_eq_false_iff_ne.2 c1,Cq0];by_cases c2:(l.getD j default).act=2
    ·rw [c2,show((2:Int)==2)=true from rfl,Cq1,fin,hma,Z4 c1,Xa c2,Wm (by omega) (by omega)];congr 2
    ·rw [beq_eq_false_iff_ne.2 c2,Cq0,fin,hma,Z4 c1,Z4 c2];rfl
 ·unfold ZsG;dsimp only;rw [Y2,Cq0,List.take_length];exact Zpu hF hS hev hI.er hO hI.es _ hZ n _ hnm
end
end Go.Proofs.YtcnahmgekicbdaaGreat
end
