/- Part 15. -/
import Derived.Test.YtcnahmgekicbdaaGreatRa14
set_option linter.all false
set_option maxHeartbeats 2000000
section
namespace Go.Proofs.YtcnahmgekicbdaaGreat
open Go.Lf
section
structure MB (s:Zc) (σ:TS):Prop where
 ma:∀ p i,i < mm s * mm s ->σ.ma p i <= ((σ.sn i).length:Int)
 le:∀ j,∀ x ∈ σ.sn j,∀ i,i < mm s * mm s ->x.qX.getD i 0 <= ((σ.sn i).length:Int)
 be:∀ m,∀ x ∈ σ.be m,∀ i,i < mm s * mm s ->x.qX.getD i 0 <= ((σ.sn i).length:Int)
section
variable {s:Zc} {σ τ υ:TS} {F B a b p q w i j n d r p0 q0:Nat} {x:Ze} {k:Int} {l:List Yc} {picks:List Int}
def MX (s:Zc) (σ:TS) (x:Ze):Prop:=∀ i,i < mm s * mm s ->x.qX.getD i 0 <= ((σ.sn i).length:Int)
theorem MB.congr (h:MB s σ) (h1:τ.sn=σ.sn) (h2:τ.be=σ.be) (h3:τ.ma=σ.ma):MB s τ:= ⟨by rw [h1,h3];exact h.ma,by rw [h1];exact h.le,by rw [h1,h2];exact h.be⟩
theorem MB.send (h:MB s σ) (hx:MX s σ x):MB s (Proofs.YtcnahmgekicbdaaGreat.send s a b x σ):=by
 have up:∀ i,(σ.sn i).length <= ((Proofs.YtcnahmgekicbdaaGreat.send s a b x σ).sn i).length:=SnM.send x;refine⟨fun p i hi=>Int.le_trans (h.ma p i hi) (by have:=up i;omega),fun j y hy i hi=>?_,fun m y hy i hi=>Int.le_trans (h.be m y hy i hi) (by have:=up i;omega)⟩;refine Int.le_trans ?_ (Int.ofNat_le.2 (up i));by_cases e:j=li s a b
 ·subst e;rw [ZcL] at hy;rcases List.mem_append.1 hy with hy | hy
  ·exact h.le _ y hy i hi
  ·rw [List.mem_singleton.1 hy];exact hx i hi
 ·rw [Ul e] at hy;exact h.le _ y hy i hi
theorem MB.wait (h:MB s σ) (hx:MX s σ x):MB s (Proofs.YtcnahmgekicbdaaGreat.wait a x σ):=by
 refine⟨h.ma,h.le,fun m y hy i hi=>?_⟩;have hy:y ∈ Z9 σ.be a (σ.be a ++ [x]) m:=hy;by_cases e:m=a
 ·subst e;rw [Zv] at hy;rcases List.mem_append.1 hy with hy | hy
  ·exact h.be _ y hy i hi
  ·rw [List.mem_singleton.1 hy];exact hx i hi
 ·rw [ZF e] at hy;exact h.be _ y hy i hi
theorem ZcT (hi:i < mm s * mm s):(W9 s σ p).getD i 0=σ.ma p i:=by
 unfold W9;have:=Yz (f:=σ.ma p) hi;rw [Xe 0 (by rw [Qt];exact hi)] at this;exact Oi0 this
theorem MB.W9 (h:MB s σ) (d p q n:Int) (p':Nat):MX s σ ⟨d,p,q,n,Proofs.YtcnahmgekicbdaaGreat.W9 s σ p'⟩:=fun i hi=>by
 show(Proofs.YtcnahmgekicbdaaGreat.W9 s σ p').getD i 0 <=_;rw [ZcT hi];exact h.ma p' i hi
theorem MX.nil (d p q n:Int):MX s σ ⟨d,p,q,n,[]⟩:=fun i hi=>by show(0:Int) <=_;omega
theorem MB.Xk (h:MB s σ) (p q:Nat):MB s (Proofs.YtcnahmgekicbdaaGreat.Xk s p q σ):=by
 unfold Proofs.YtcnahmgekicbdaaGreat.Xk;split
 ·exact h.wait (h.W9 _ _ _ _ _)
 ·exact h.send (h.W9 _ _ _ _ _)
theorem MB.note (h:MB s σ) (p q:Nat):MB s (Proofs.YtcnahmgekicbdaaGreat.note s p q σ):=by
 unfold Proofs.YtcnahmgekicbdaaGreat.note;split
 ·exact h.Xk _ _
 ·exact h.congr rfl rfl rfl
theorem MB.see (h:MB s σ) (p q:Nat) (n:Int):MB s (Proofs.YtcnahmgekicbdaaGreat.see p q n σ):=by
 have e:=QB p q n σ;exact h.congr e.2.2.2.2.1 e.2.2.2.2.2.1 e.2.2.1
theorem MB.Yn (h:MB s σ) (p:Nat):MB s (Proofs.YtcnahmgekicbdaaGreat.Yn s p σ):=by
 have h1:MB s (Zw s p (σ.wa p) (JW p σ)):=WK _ (MB s) (σ.wa p) (JW p σ) (h.congr rfl rfl rfl) fun τ x _ hτ=>hτ.Xk _ _
 refine⟨fun p' i hi=>?_,h1.le,h1.be⟩;show Z9 (Zw s p (σ.wa p) (JW p σ)).ma p (Zdm s (Zw s p (σ.wa p) (JW p σ)) p (mm s)) p' i <=_;by_cases e:p'=p
 ·subst e;rw [Zv];unfold Zdm;split
  ·exact Int.le_refl _
  ·exact h1.ma _ i hi
 ·rw [ZF e];exact h1.ma _ i hi
theorem MB.learn (h:MB s σ) {l:List Int} (hl:∀ i,i < mm s * mm s ->l.getD i 0 <= ((σ.sn i).length:Int)) (p:Nat):MB s (YN s p l σ):=by
 refine⟨fun p' i hi=>?_,h.le,h.be⟩;show Z9 σ.ma (inn s (p:Int)).toNat (mx (σ.ma (inn s (p:Int)).toNat) l) p' i <= ((σ.sn i).length:Int);by_cases e:p'= (inn s (p:Int)).toNat
 ·rw [e,Zv];have h1:=h.ma (inn s (p:Int)).toNat i hi;have h2:=hl i hi;unfold mx;split <;> omega
 ·rw [ZF e];exact h.ma _ i hi
theorem MB.act (h:MB s σ) (ac:Act s σ τ):MB s τ:=by
 cases ac with
 | fall=>exact h.congr rfl rfl rfl
 | WZ=>exact h.send (MX.nil _ _ _ _)
 | @die p hp h2 hA=>
   have hA:=h.Yn p;unfold UH;split
   ·exact hA
   ·split
    ·exact hA.learn (fun i hi=>by rw [ZcT hi];exact hA.ma p i hi) p
    ·exact hA.send (hA.W9 _ _ _ _ _)
 | @Zdj p q=>exact(h.congr (τ:=kK p q σ) rfl rfl rfl).see _ _ _
 | @Zdi p q=>exact(h.congr (τ:=kK p q σ) rfl rfl rfl).send (MX.nil _ _ _ _)
 | @Zdf p q hp=>exact(h.congr (τ:=tell 3 p q 0 σ) rfl rfl rfl).note _ _
 | @Zde p q=>exact(h.congr (τ:=tell 3 p q 0 σ) rfl rfl rfl).send (MX.nil _ _ _ _)
 | @Zdo a b p q=>exact(h.congr (τ:=drop1 (li s a b) σ) rfl rfl rfl).see _ _ _
 | @Zdr a b p q=>exact(h.congr (τ:=drop1 (li s a b) σ) rfl rfl rfl).note _ _
 | Zdp=>exact h.congr rfl rfl rfl
 | @ZbH a b p ha hb hl=>exact(h.congr (τ:=drop1 (li s a b) σ) rfl rfl rfl).learn (fun i hi=>h.le _ _ (Zcf hl) i hi) p
 | @Zdq a b ha hb hl=>exact(h.congr (τ:=drop1 (li s a b) σ) rfl rfl rfl).wait (fun i hi=>h.le _ _ (Zcf hl) i hi)
 | @ring w i hw hpk=>
   have e:=Jt s w i σ;refine⟨by rw [e.2.2.2.2.1,e.2.2.2.2.2.1];exact h.ma,by rw [e.2.2.2.2.2.1];exact h.le,fun m y hy j hj=>?_⟩;rw [e.2.2.2.2.2.1];rw [e.1] at hy;by_cases z:m=w
   ·subst z;rw [Zv] at hy;exact h.be _ y (Zcu hy) j hj
   ·rw [ZF z] at hy;exact h.be _ y hy j hj
end
end
section
structure EvS (s:Zc) (σ:TS):Prop where
 rg:∀ p,p < nn s ->σ.st p=1∨σ.st p=2∨σ.st p=3
 e5:∀ p,p < nn s ->c3 σ.ev 5 p 0=one (σ.st p ≠ 1)
 e6:∀ p,p < nn s ->c3 σ.ev 6 p 0=one (σ.st p=3)
 z5:∀ e ∈ σ.ev,e.kZ=5∨e.kZ=6 ->e.kX=0
section
variable {s:Zc} {σ τ υ:TS} {F B a b p q w i j n d r p0 q0:Nat} {x:Ze} {k:Int} {l:List Yc} {picks:List Int} {e:Zd}
theorem EvS.congr (h:EvS s σ) (h1:τ.st=σ.st) (h2:τ.ev=σ.ev):EvS s τ:= ⟨by rw [h1];exact h.rg,by rw [h1,h2];exact h.e5,by rw [h1,h2];exact h.e6,by rw [h2];exact h.z5⟩
theorem EvS.add (h:EvS s σ) (h1:τ.st=σ.st) (h2:τ.ev=σ.ev ++ [e]) (d5:e.kZ ≠ 5) (d6:e.kZ ≠ 6):EvS s τ:=by
 refine⟨by rw [h1];exact h.rg,fun p hp=>?_,fun p hp=>?_,fun y hy z=>?_⟩
 ·rw [h1,h2,Zbf,Xc (fun z=>d5 z.1)];exact h.e5 p hp
 ·rw [h1,h2,Zbf,Xc (fun z=>d6 z.1)];exact h.e6 p hp
 ·rw [h2] at hy;rcases List.mem_append.1 hy with hy | hy
  ·exact h.z5 y hy z
  ·rw [List.mem_singleton.1 hy] at z;rcases z with z | z
   ·exact absurd z d5
   ·exact absurd z d6
theorem EvS.see (h:EvS s σ) (p q:Nat) (n:Int):EvS s (Proofs.YtcnahmgekicbdaaGreat.see p q n σ):=by
 unfold Proofs.YtcnahmgekicbdaaGreat.see;split
 ·exact h.add (e:= ⟨2,p,q,n⟩) rfl rfl (by show(2:Int) ≠ 5;decide) (by show(2:Int) ≠ 6;decide)
 ·exact h
theorem EvS.act (h:EvS s σ) (ac:Act s σ τ):EvS s τ:=by
 cases ac with
 | @fall p0 hp0 hst=>
   have ev:(Uf p0 σ).ev=σ.ev ++ [⟨5,(p0:Int),0,0⟩]:=rfl;have st:(Uf p0 σ).st=Z9 σ.st p0 2:=rfl;refine⟨fun p hp=>?_,fun p hp=>?_,fun p hp=>?_,fun y hy z=>?_⟩
   ·rw [st];by_cases c:p=p0
    ·subst c;rw [Zv];exact .inr (.inl rfl)
    ·rw [ZF c];exact h.rg p hp
   ·rw [ev,st,Zbf,h.e5 p hp];by_cases c:p=p0
    ·subst c;rw [Zv,Xc (fun z=>z hst),JZ ⟨rfl,rfl,rfl⟩,JZ (by decide)]
    ·rw [ZF c,Xc (c:= (5:Int)=5∧(p0:Int)=p∧(0:Int)=0) (fun z=>c (by have:=z.2.1;omega))];rfl
   ·rw [ev,st,Zbf,h.e6 p hp,Xc (c:= (5:Int)=6∧(p0:Int)=p∧(0:Int)=0) (fun z=>by have:=z.1;omega)];by_cases c:p=p0
    ·subst c;rw [Zv,Xc (by rw [hst];decide),Xc (by decide)]
    ·rw [ZF c];rfl
   ·rw [ev] at hy;rcases List.mem_append.1 hy with hy | hy
    ·exact h.z5 y hy z
    ·rw [List.mem_singleton.1 hy]
 | WZ=>exact h.congr rfl rfl
 | @die p0 hp0 hst hA=>
   have sA:=QV (s:=s) p0 σ
   have hA:EvS s (Yn s p0 σ):=by
    refine⟨fun p hp=>?_,fun p hp=>?_,fun p hp=>?_,fun y hy z=>?_⟩
    ·rw [sA.1];by_cases c:p=p0
     ·subst c;rw [Zv];exact .inr (.inr rfl)
     ·rw [ZF c];exact h.rg p hp
    ·rw [sA.2.2.2.2.1,sA.1,Zbf,h.e5 p hp,Xc (c:= (6:Int)=5∧(p0:Int)=p∧(0:Int)=0) (fun z=>by have:=z.1;omega)];by_cases c:p=p0
     ·subst c;rw [Zv,JZ (by rw [hst];decide),JZ (by decide)]
     ·rw [ZF c];rfl
    ·rw [sA.2.2.2.2.1,sA.1,Zbf,h.e6 p hp];by_cases c:p=p0
     ·subst c;rw [Zv,Xc (by rw [hst];decide),JZ ⟨rfl,rfl,rfl⟩,JZ rfl]
     ·rw [ZF c,Xc (c:= (6:Int)=6∧(p0:Int)=p∧(0:Int)=0) (fun z=>c (by have:=z.2.1;omega))];rfl
    ·rw [sA.2.2.2.2.1] at hy;rcases List.mem_append.1 hy with hy | hy
     ·exact h.z5 y hy z
     ·rw [List.mem_singleton.1 hy]
   unfold UH;split
   ·exact hA
   ·split
    ·exact hA.congr rfl rfl
    ·exact hA.congr rfl rfl
 | @Zdj p q=>exact(h.add (τ:=kK p q σ) (e:= ⟨1,p,q,σ.sd⟩) rfl rfl (by show(1:Int) ≠ 5;decide) (by show(1:Int) ≠ 6;decide)).see _ _ _
 | @Zdi p q=>exact h.add (e:= ⟨1,p,q,σ.sd⟩) rfl rfl (by show(1:Int) ≠ 5;decide) (by show(1:Int) ≠ 6;decide)
 | @Zdf p q=>have z:=X6 (s:=s) p q (tell 3 p q 0 σ);exact(h.add (τ:=tell 3 p q 0 σ) (e:= ⟨3,p,q,0⟩) rfl rfl (by show(3:Int) ≠ 5;decide) (by show(3:Int) ≠ 6;decide)).congr z.1 z.2.2.2.2.2
 | @Zde p q=>exact h.add (e:= ⟨3,p,q,0⟩) rfl rfl (by show(3:Int) ≠ 5;decide) (by show(3:Int) ≠ 6;decide)
 | Zdo=>exact EvS.see (σ:=drop1 _ σ) (h.congr rfl rfl) _ _ _
 | @Zdr a b p q=>have z:=X6 (s:=s) p q (drop1 (li s a b) σ);exact h.congr z.1 z.2.2.2.2.2
 | Zdp=>exact h.congr rfl rfl
 | ZbH=>exact h.congr rfl rfl
 | Zdq=>exact h.congr rfl rfl
 | @ring w i=>
   unfold rung;split
   ·exact h.add (e:= ⟨4,_,_,0⟩) rfl rfl (by show(4:Int) ≠ 5;decide) (by show(4:Int) ≠ 6;decide)
   ·exact h.congr rfl rfl
theorem Zhp (hS:X7 s) (kn:Kn s σ) (ki:KI s σ) (hq:q < nn s) (h3:σ.st q=3):∀ (j p:Nat),p < nn s ->up s j (p:Int)= (q:Int) ->σ.st p=3:=by
 intro j
 induction j with
 | zero=>intro p hp e;have:p=q:=by have:(p:Int)=q:=e;omega
         rw [this];exact h3
 | succ j ih=>
   intro p hp e;have e':(if(p:Int) < 0 then(p:Int) else up s j (inn s (p:Int)))= (q:Int):=e;rw [if_neg (by omega)] at e';by_cases h0:inn s (p:Int) < 0
   ·rw [ZhC h0] at e';omega
   ·obtain⟨eq,hq'⟩:=QS hS hp h0;rw [eq] at e';have h3':=ih _ hq' e';have hk:=ki.k4 _ hq' h3' p hp eq;obtain⟨k,ek,_,_,hd⟩:=kn.rng _ hq' _ hk;have:p=k:=by omega
    rw [this];exact hd
end
end
section
def S1 (σ τ:TS):Prop:=∀ (i j:Nat) (x:Ze),x.kW=1 ->((τ.sn i)[j]? =some x↔(σ.sn i)[j]? =some x)
structure Num (σ:TS):Prop where
 n0:0 <=σ.sd
 n1:∀ e ∈ σ.ev,e.kZ=1∨e.kZ=2 ->0 <=e.n∧e.n < σ.sd
 n5:∀ (i j:Nat) (x:Ze),(σ.sn i)[j]? =some x ->x.kW=1 ->0 <=x.n∧x.n < σ.sd∧∃ e ∈ σ.ev,e.kZ=1∧e.kV=x.kV∧e.kX=x.kX∧e.n=x.n
 n6:∀ (i j:Nat) (x:Ze) (i' j':Nat) (x':Ze),(σ.sn i)[j]? =some x ->(σ.sn i')[j']? =some x' ->x.kW=1 ->x'.kW=1 ->x.n=x'.n ->i=i'∧j=j'
 n3:∀ e ∈ σ.ev,e.kZ=2 ->∀ (i j:Nat) (x:Ze),(σ.sn i)[j]? =some x ->x.kW=1 ->x.n=e.n ->j < σ.ld i
section
variable {s:Zc} {σ τ υ:TS} {F B a b p q w i j n d r p0 q0:Nat} {x:Ze} {k:Int} {e:Zd}
theorem S1.refl' (h:τ.sn=σ.sn):S1 σ τ:=fun i j x _=>by rw [h]
theorem S1.trans (h:S1 σ τ) (h':S1 τ υ):S1 σ υ:=fun i j x hx=>(h' i j x hx).trans (h i j x hx)
theorem S1.send (hx:x.kW ≠ 1):S1 σ (Proofs.YtcnahmgekicbdaaGreat.send s a b x σ):=fun i j y hy=>by
 rw [X9];exact⟨fun z=>z.elim id fun w=>absurd (w.2.2 ▸ hy) hx,.inl⟩
theorem S1.Xk (p q:Nat):S1 σ (Proofs.YtcnahmgekicbdaaGreat.Xk s p q σ):=by
 unfold Proofs.YtcnahmgekicbdaaGreat.Xk;split
 ·exact .refl' rfl
 ·exact .send (by show(5:Int) ≠ 1;decide)
theorem S1.Zw (p:Nat) (l:List Int):S1 σ (Proofs.YtcnahmgekicbdaaGreat.Zw s p l σ):=WK _ (S1 σ) l σ (.refl' rfl) fun τ x _ h=>h.trans (.Xk _ _)
theorem S1.note (p q:Nat):S1 σ (Proofs.YtcnahmgekicbdaaGreat.note s p q σ):=by
 unfold Proofs.YtcnahmgekicbdaaGreat.note;split
 ·exact .Xk _ _
 ·exact .refl' rfl
theorem S1.Yn (p:Nat):S1 σ (Proofs.YtcnahmgekicbdaaGreat.Yn s p σ):= (S1.Zw (σ:=Proofs.YtcnahmgekicbdaaGreat.JW p σ) p (σ.wa p)).trans (.refl' rfl)
theorem S1.UH (p:Nat):S1 σ (Proofs.YtcnahmgekicbdaaGreat.UH s p σ):=by
 unfold Proofs.YtcnahmgekicbdaaGreat.UH;split
 ·exact S1.Yn p
 ·split
  ·exact(S1.Yn p).trans (.refl' rfl)
  ·exact(S1.Yn p).trans (.send (by show(4:Int) ≠ 1;decide))
theorem Num.same (h:Num σ) (h1:S1 σ τ) (h2:τ.sd=σ.sd) (h3:∀ i,σ.ld i <=τ.ld i) (h4:∀ e ∈ σ.ev,e ∈ τ.ev) (h5:∀ e ∈ τ.ev,e.kZ=1∨e.kZ=2 ->e ∈ σ.ev):Num τ:=
 ⟨by rw [h2];exact h.n0,fun e he z=>by rw [h2];exact h.n1 e (h5 e he z) z,fun i j x hx hk=>by
   obtain⟨a,b,e,he,c⟩:=h.n5 i j x ((h1 i j x hk).1 hx) hk;exact⟨a,by rw [h2];exact b,e,h4 e he,c⟩,fun i j x i' j' x' hx hx' hk hk'=>h.n6 i j x i' j' x' ((h1 i j x hk).1 hx) ((h1 i' j' x' hk').1 hx') hk hk',fun e he z i j x hx hk hn=>Nat.lt_of_lt_of_le (h.n3 e (h5 e he (.inr z)) z i j x ((h1 i j x hk).1 hx) hk hn) (h3 i)⟩
theorem Num.ev (h:Num σ) (h1:S1 σ τ) (h2:τ.sd=σ.sd) (h3:∀ i,σ.ld i <=τ.ld i) (h4:τ.ev=σ.ev ++ [e]) (d1:e.kZ ≠ 1) (d2:e.kZ ≠ 2):Num τ:=
 h.same h1 h2 h3 (fun y hy=>by rw [h4];exact List.mem_append.2 (.inl hy)) fun y hy z=>by
   rw [h4] at hy;rcases List.mem_append.1 hy with hy | hy
   ·exact hy
   ·rw [List.mem_singleton.1 hy] at z;exact z.elim (fun z=>absurd z d1) fun z=>absurd z d2
theorem Num.eq (h:Num σ) (h1:S1 σ τ) (h2:τ.sd=σ.sd) (h3:∀ i,σ.ld i <=τ.ld i) (h4:τ.ev=σ.ev):Num τ:=
 h.same h1 h2 h3 (fun y hy=>by rw [h4];exact hy) fun y hy _=>by rw [h4] at hy;exact hy
theorem Num.see (h:Num σ) (hn:0 <=k∧k < σ.sd) (hl:∀ (i j:Nat) (x:Ze),(σ.sn i)[j]? =some x ->x.kW=1 ->x.n=k ->j < σ.ld i) (p q:Nat):Num (Proofs.YtcnahmgekicbdaaGreat.see p q k σ):=by
 unfold Proofs.YtcnahmgekicbdaaGreat.see;split
 ·refine⟨h.n0,fun e he z=>?_,fun i j x hx hk=>?_,h.n6,fun e he z i j x hx hk hn'=>?_⟩
  ·have he:e ∈ σ.ev ++ [⟨2,p,q,k⟩]:=he;rcases List.mem_append.1 he with he | he
   ·exact h.n1 e he z
   ·rw [List.mem_singleton.1 he];exact hn
  ·obtain⟨a,b,e,he,c⟩:=h.n5 i j x hx hk;exact⟨a,b,e,List.mem_append.2 (.inl he),c⟩
  ·have he:e ∈ σ.ev ++ [⟨2,p,q,k⟩]:=he;rcases List.mem_append.1 he with he | he
   ·exact h.n3 e he z i j x hx hk hn'
   ·rw [List.mem_singleton.1 he] at hn';exact hl i j x hx hk hn'
 ·exact h
theorem Num.kK (h:Num σ) (p q:Nat):Num (Proofs.YtcnahmgekicbdaaGreat.kK p q σ)∧∀ (i j:Nat) (x:Ze),(σ.sn i)[j]? =some x ->x.kW=1 ->x.n ≠ σ.sd:=by
 have h0:=h.n0;have key:∀ (i j:Nat) (x:Ze),(σ.sn i)[j]? =some x ->x.kW=1 ->x.n ≠ σ.sd:=fun i j x hx hk e=>by have:= (h.n5 i j x hx hk).2.1;omega
 have ev:(Proofs.YtcnahmgekicbdaaGreat.kK p q σ).ev=σ.ev ++ [⟨1,p,q,σ.sd⟩]:=rfl;have sd:(Proofs.YtcnahmgekicbdaaGreat.kK p q σ).sd=σ.sd + 1:=rfl;refine⟨⟨by rw [sd];omega,fun e he z=>?_,fun i j x hx hk=>?_,h.n6,fun e he z i j x hx hk hn=>?_⟩,key⟩
 ·rw [ev] at he;rw [sd];rcases List.mem_append.1 he with he | he
  ·have:=h.n1 e he z;omega
  ·rw [List.mem_singleton.1 he];show 0 <=σ.sd∧σ.sd < σ.sd + 1;omega
 ·obtain⟨a,b,e,he,c⟩:=h.n5 i j x hx hk;exact⟨a,by rw [sd];omega,e,by rw [ev];exact List.mem_append.2 (.inl he),c⟩
 ·rw [ev] at he;rcases List.mem_append.1 he with he | he
  ·exact h.n3 e he z i j x hx hk hn
  ·rw [List.mem_singleton.1 he] at z;exact absurd z (by show ¬ (1:Int)=2;decide)
theorem Wq (i:Nat):∀ j,σ.ld j <= (drop1 i σ).ld j:=fun j=>by
 show _ <=Z9 σ.ld i (σ.ld i + 1) j;by_cases e:j=i
 ·subst e;rw [Zv];omega
 ·rw [ZF e];exact Nat.le_refl _
theorem Zl1 (hl:σ.ld i < (σ.sn i).length):(σ.sn i)[σ.ld i]? =some (hd σ i):=by
 unfold hd;rw [List.getD_eq_getElem?_getD,List.getElem?_eq_getElem hl];rfl
theorem Num.act (h:Num σ) (ac:Act s σ τ):Num τ:=by
 have r0:∀ i,σ.ld i <=σ.ld i:=fun _=>Nat.le_refl _
 cases ac with
 | @fall p=>exact h.ev (e:= ⟨5,p,0,0⟩) (.refl' rfl) rfl r0 rfl (by show(5:Int) ≠ 1;decide) (by show(5:Int) ≠ 2;decide)
 | WZ=>exact h.eq (.send (by show(3:Int) ≠ 1;decide)) rfl r0 rfl
 | @die p hp h2 hA=>
   have sA:=QV (s:=s) p σ
   have e1:(Proofs.YtcnahmgekicbdaaGreat.UH s p σ).sd=σ.sd∧(Proofs.YtcnahmgekicbdaaGreat.UH s p σ).ld=σ.ld∧(Proofs.YtcnahmgekicbdaaGreat.UH s p σ).ev=σ.ev ++ [⟨6,(p:Int),0,0⟩]:=by
    unfold Proofs.YtcnahmgekicbdaaGreat.UH;split
    ·exact⟨sA.2.2.2.1,sA.2.2.1,sA.2.2.2.2.1⟩
    ·split
     ·exact⟨sA.2.2.2.1,sA.2.2.1,sA.2.2.2.2.1⟩
     ·exact⟨sA.2.2.2.1,sA.2.2.1,sA.2.2.2.2.1⟩
   exact h.ev (.UH p) e1.1 (by rw [e1.2.1];exact r0) e1.2.2 (by show(6:Int) ≠ 1;decide) (by show(6:Int) ≠ 2;decide)
 | @Zdj p q=>
   obtain⟨h1,h2⟩:=h.kK p q;exact h1.see ⟨h.n0,by show σ.sd < σ.sd + 1;omega⟩ (fun i j x hx hk hn=>absurd hn (h2 i j x hx hk)) _ _
 | @Zdi p q hp hq hst e0=>
   obtain⟨h1,h2⟩:=h.kK p q;have h0:=h.n0;refine⟨h1.n0,h1.n1,fun i j x hx hk=>?_,fun i j x i' j' x' hx hx' hk hk' hn=>?_,fun e he z i j x hx hk hn=>?_⟩
   ·rcases X9.1 hx with hx | ⟨_,_,rfl⟩
    ·exact h1.n5 i j x hx hk
    ·exact⟨h0,by show σ.sd < σ.sd + 1;omega,⟨1,p,q,σ.sd⟩,List.mem_append.2 (.inr (by simp)),rfl,rfl,rfl,rfl⟩
   ·rcases X9.1 hx with hx | ⟨a1,a2,rfl⟩
    ·rcases X9.1 hx' with hx' | ⟨b1,b2,rfl⟩
     ·exact h1.n6 i j x i' j' x' hx hx' hk hk' hn
     ·exact absurd hn (h2 i j x hx hk)
    ·rcases X9.1 hx' with hx' | ⟨b1,b2,rfl⟩
     ·exact absurd hn.symm (h2 i' j' x' hx' hk')
     ·subst a1;subst b1;exact⟨rfl,by omega⟩
   ·rcases X9.1 hx with hx | ⟨_,_,rfl⟩
    ·exact h1.n3 e he z i j x hx hk hn
    ·exfalso;have he:e ∈ σ.ev ++ [⟨1,p,q,σ.sd⟩]:=he;rcases List.mem_append.1 he with he | he
     ·have:= (h.n1 e he (.inr z)).2;have hn:σ.sd=e.n:=hn;omega
     ·rw [List.mem_singleton.1 he] at z;exact absurd z (by show ¬ (1:Int)=2;decide)
 | @Zdf p q=>
   have z:=X6 (s:=s) p q (tell 3 p q 0 σ);exact h.ev (e:= ⟨3,p,q,0⟩) ((S1.refl' (σ:=σ) (τ:=tell 3 p q 0 σ) rfl).trans (.note p q)) z.2.2.2.2.1 (by rw [z.2.2.2.1];exact r0) z.2.2.2.2.2 (by show(3:Int) ≠ 1;decide) (by show(3:Int) ≠ 2;decide)
 | @Zde p q=>exact h.ev (e:= ⟨3,p,q,0⟩) ((S1.refl' (σ:=σ) (τ:=tell 3 p q 0 σ) rfl).trans (.send (by show(2:Int) ≠ 1;decide))) rfl r0 rfl (by show(3:Int) ≠ 1;decide) (by show(3:Int) ≠ 2;decide)
 | @Zdo a b p q ha hb hl hk=>
   have h1:Num (drop1 (li s a b) σ):=h.eq (.refl' rfl) rfl (Wq _) rfl;have hg:=Zl1 hl;obtain⟨n1,n2,_⟩:=h.n5 _ _ _ hg hk;refine h1.see ⟨n1,n2⟩ (fun i j x hx hk' hn=>?_) _ _;obtain⟨rfl,rfl⟩:=h.n6 _ _ _ _ _ _ hx hg hk' hk hn;show _ < Z9 σ.ld (li s a b) (σ.ld (li s a b) + 1) (li s a b);rw [Zv];omega
 | @Zdr a b p q=>
   have z:=X6 (s:=s) p q (drop1 (li s a b) σ);exact h.eq ((S1.refl' (σ:=σ) (τ:=drop1 (li s a b) σ) rfl).trans (.note p q)) z.2.2.2.2.1 (by rw [z.2.2.2.1];exact Wq _) z.2.2.2.2.2
 | Zdp=>exact h.eq (.refl' rfl) rfl (Wq _) rfl
 | ZbH=>exact h.eq (.refl' rfl) rfl (Wq _) rfl
 | Zdq=>exact h.eq (.refl' rfl) rfl (Wq _) rfl
 | @ring w i=>
   have z:=Jt s w i σ;have hs:S1 σ (rung s w i σ):= .refl' z.2.2.2.2.2.1;unfold rung at hs ⊢;split at hs
   ·rename_i hst;rw [if_pos hst];exact h.ev (e:= ⟨4,_,_,0⟩) hs rfl r0 rfl (by show(4:Int) ≠ 1;decide) (by show(4:Int) ≠ 2;decide)
   ·rename_i hst;rw [if_neg hst];exact h.eq hs rfl r0 rfl
end
end
section
section
variable {s:Zc} {σ τ υ:TS} {F B a b p q w i j n d r p0 q0:Nat} {x:Ze} {k:Int} {e:Zd}
theorem ZHs (hS:X7 s) (hp:p < nn s):inn s (p:Int) ≠ (p:Int):=fun e=>by
 have:∀ k,up s k (p:Int)= (p:Int):=fun k=>by
  induction k with
  | zero=>rfl
  | succ k ih=>rw [Jr,ih,if_neg (by omega),e]
 have h:=ZcH hS hp;rw [this] at h;omega
theorem ZO8 (hS:X7 s) (kn:Kn s σ) (ki:KI s σ) (hk:q < nn s) (h3:σ.st q=3) (ac:Act s σ τ):τ.ma q=σ.ma q:=by
 have alive:∀ p,p < nn s ->0 <=inn s (p:Int) ->(σ.st p ≠ 3∨(p:Int) ∉ σ.kn (inn s (p:Int)).toNat) ->q ≠ (inn s (p:Int)).toNat:=fun p hp h0 c e=>by
  obtain⟨eq,hq⟩:=QS hS hp (by omega);have hk4:=ki.k4 q hk h3 p hp (by rw [e];exact eq);rw [e] at hk4;rcases c with c | c
  ·obtain⟨k,ek,_,_,hd⟩:=kn.rng _ hq _ hk4;have:p=k:=by omega
   subst this;exact c hd
  ·exact c hk4
 cases ac with
 | fall=>rfl
 | WZ=>rfl
 | @die p hp h2 hA=>
   have hqp:q ≠ p:=fun e=>by subst e;rw [h2] at h3;cases h3
   have hA:(Yn s p σ).ma q=σ.ma q:=by
    show Z9 (Zw s p (σ.wa p) (JW p σ)).ma p _ q=_;rw [ZF hqp,(Zcx (s:=s) p (σ.wa p) (JW p σ)).2.2.1];rfl
   unfold UH;by_cases h0:inn s (p:Int) < 0
   ·rw [if_pos h0];exact hA
   ·rw [if_neg h0];split
    ·show Z9 (Yn s p σ).ma (inn s (p:Int)).toNat _ q=_;rw [ZF (alive p hp (by omega) (.inl (by rw [h2];decide)))];exact hA
    ·exact hA
 | Zdj=>rw [(QB _ _ _ _).2.2.1];rfl
 | Zdi=>rfl
 | Zdf=>rw [(X6 _ _ _).2.2.1];rfl
 | Zde=>rfl
 | Zdo=>rw [(QB _ _ _ _).2.2.1];rfl
 | Zdr=>rw [(X6 _ _ _).2.2.1];rfl
 | Zdp=>rfl
 | @ZbH a b p ha hb hl hk' hp hpn h0 hm h3' hn=>
   show Z9 σ.ma (inn s (p:Int)).toNat _ q=_;rw [ZF (alive p hpn h0 (.inr hn))]
 | Zdq=>rfl
 | ring=>rw [(Jt _ _ _ _).2.2.2.2.1]
def Msg (s:Zc) (σ:TS) (q b w j:Nat):Prop:=∃ x:Ze,(σ.sn (li s b w))[j]? =some x∧x.kW=1∧x.kV= (q:Int)
theorem Msg.s1 (h:S1 σ τ):Msg s τ q b w j↔Msg s σ q b w j:=
 ⟨fun⟨x,h1,h2,h3⟩=>⟨x,(h _ _ _ h2).1 h1,h2,h3⟩,fun⟨x,h1,h2,h3⟩=>⟨x,(h _ _ _ h2).2 h1,h2,h3⟩⟩
theorem Msg.lt (h:Msg s σ q b w j):j < (σ.sn (li s b w)).length:=by
 obtain⟨x,h1,_⟩:=h;exact(Li0 h1).1
structure Mk (s:Zc) (σ:TS):Prop where
 m1:∀ q b w j,q < nn s ->b < mm s ->w < mm s ->b ≠ w ->σ.st q=3 ->Msg s σ q b w j ->(j:Int) < σ.ma q (li s b w)
 m2:∀ p k:Nat,p < nn s ->k < nn s ->(k:Int) ∈ σ.kn p ->∀ i,i < mm s * mm s ->σ.ma k i <=σ.ma p i
 l4:∀ (i j:Nat) (x:Ze),(σ.sn i)[j]? =some x ->x.kW=4 ->∀ k:Nat,x.kV= (k:Int) ->∀ i',i' < mm s * mm s ->x.qX.getD i' 0=σ.ma k i'
theorem ZAW {hS:X7 s} (hp:p < nn s) (h:Wth s r p) (hne:p ≠ r):∃ c:Nat,c < nn s∧inn s (c:Int)= (r:Int)∧Wth s c p:=by
 obtain⟨j,e⟩:=h
 induction j generalizing r with
 | zero=>exact absurd (by have:(p:Int)=r:=e;omega) hne
 | succ j ih=>
   rw [Jr] at e;by_cases h0:up s j (p:Int) < 0
   ·rw [if_pos h0] at e;omega
   ·rw [if_neg h0] at e;obtain⟨c,hc⟩:∃ c:Nat,up s j (p:Int)= (c:Int):= ⟨(up s j (p:Int)).toNat,by omega⟩
    refine⟨c,?_,by rw [← hc];exact e,j,hc⟩;have hok:=ZlJ hS.inn.rng hp (k:=j);rw [hc] at hok;have:=hok.2;show c < s.Zf.length;omega
theorem Mk.chain (hS:X7 s) (ki:KI s σ) (kn:Kn s σ) (h:Mk s σ) (hi:i < mm s * mm s):∀ (m q r:Nat),q < nn s ->r < nn s ->σ.st r=3 ->up s m (q:Int)= (r:Int) ->σ.ma q i <=σ.ma r i:=by
 intro m
 induction m with
 | zero=>intro q r hq hr _ e;have:q=r:=by have:(q:Int)=r:=e;omega
         rw [this];exact Int.le_refl _
 | succ m ih=>
   intro q r hq hr h3 e;have e':(if(q:Int) < 0 then(q:Int) else up s m (inn s (q:Int)))= (r:Int):=e;rw [if_neg (by omega)] at e';by_cases h0:inn s (q:Int) < 0
   ·rw [ZhC h0] at e';omega
   ·obtain⟨eq,hq'⟩:=QS hS hq h0;rw [eq] at e';have h3':=Zhp hS kn ki hr h3 m _ hq' e';have h1:=ih _ r hq' hr h3 e';have h2:=h.m2 _ q hq' hq (ki.k4 _ hq' h3' q hq eq) i hi;omega
theorem ZHd (hb:b < mm s):li s a b / mm s=a∧li s a b % mm s=b:=by
 have:= (WI hb).1 (show li s a b=a * mm s + b from rfl);exact⟨this.1,this.2⟩
theorem Mk.act (hS:X7 s) (h1:P1 s σ) (h2:P2 s σ) (ki:KI s σ) (hM:MB s σ) (h:Mk s σ) (ac:Act s σ τ):Mk s τ:=by
 have kn:=h2.kn;have fz:=fun q hq h3=>ZO8 (q:=q) hS kn ki hq h3 ac
 have same:S1 σ τ ->S4 σ τ ->(∀ q,q < nn s ->τ.st q=3 ->σ.st q=3) ->τ.kn=σ.kn ->τ.ma=σ.ma ->Mk s τ:=fun c1 c4 c3 ck cm=>
  ⟨fun q b w j hq hb hw hne h3 hm=>by rw [cm];exact h.m1 q b w j hq hb hw hne (c3 q hq h3) ((Msg.s1 c1).1 hm),by rw [ck,cm];exact h.m2,fun i j x hx hk k hkp=>by rw [cm];exact h.l4 i j x ((c4 i j x hk).1 hx) hk k hkp⟩
 cases ac with
 | @fall p hp hst=>
   refine same (.refl' rfl) (.refl' rfl) (fun q _ h3=>?_) rfl rfl;have h3:Z9 σ.st p 2 q=3:=h3;by_cases e:q=p
   ·subst e;rw [Zv] at h3;cases h3
   ·rwa [ZF e] at h3
 | WZ=>exact same (.send (by show(3:Int) ≠ 1;decide)) (.send (by show(3:Int) ≠ 4;decide)) (fun _ _ z=>z) rfl rfl
 | @die p hp hst hA=>
   have sA:=QV (s:=s) p σ;have c1:S1 σ (Yn s p σ):=S1.Yn p;have c4:S4 σ (Yn s p σ):=S4.Yn p;have up:=SnM.Yn (s:=s) (σ:=σ) p
   have maP:∀ i,i < mm s * mm s ->(Yn s p σ).ma p i=if i / mm s=pl s p∧i % mm s < mm s∧i % mm s ≠ pl s p then(((Yn s p σ).sn i).length:Int) else σ.ma p i:=fun i _=>by
    show Z9 (Zw s p (σ.wa p) (JW p σ)).ma p (Zdm s (Zw s p (σ.wa p) (JW p σ)) p (mm s)) p i=_;rw [Zv];unfold Zdm;rw [(Zcx (s:=s) p (σ.wa p) (JW p σ)).2.2.1];rfl
   have maQ:∀ q,q ≠ p ->(Yn s p σ).ma q=σ.ma q:=fun q e=>by
    show Z9 (Zw s p (σ.wa p) (JW p σ)).ma p _ q=_;rw [ZF e,(Zcx (s:=s) p (σ.wa p) (JW p σ)).2.2.1];rfl
   have ZRH:∀ i,i < mm s * mm s ->σ.ma p i <= (Yn s p σ).ma p i:=fun i hi=>by
    rw [maP i hi];split
    ·exact Int.le_trans (hM.ma p i hi) (Int.ofNat_le.2 (up i))
    ·exact Int.le_refl _
   have hA':Mk s (Yn s p σ):=by
    refine⟨fun q b w j hq hb hw hne h3 hm=>?_,fun q k hq hk hkn i hi=>?_,fun i j x hx hk k hkp i' hi'=>?_⟩
    ·by_cases e:q=p
     ·subst e;obtain⟨x,hx,hxk,hxp⟩:= (Msg.s1 c1).1 hm;have hlet:=h1.lets b w hb hw x (List.mem_of_getElem? hx)
      have hpb:pl s q=b:=by
       obtain⟨p',e1,_,_,c⟩:=hlet;have:p'=q:=by omega
       subst this;rcases c with⟨_,c,_⟩ | ⟨k,_⟩ | ⟨k,_⟩ | ⟨k,_⟩ | ⟨k,_⟩
       ·exact c
       all_goals omega
      obtain⟨d1,d2⟩:=ZHd (s:=s) (a:=b) hw;rw [maP _ (Ka hb hw),if_pos ⟨by rw [d1,hpb],by rw [d2];exact hw,by rw [d2,hpb];exact fun z=>hne z.symm⟩];exact Int.ofNat_lt.2 hm.lt
     ·rw [maQ q e];rw [sA.1,ZF e] at h3;exact h.m1 q b w j hq hb hw hne h3 ((Msg.s1 c1).1 hm)
    ·rw [sA.2.1] at hkn
     have hkd:σ.st k=3:=by
      obtain⟨k',ek,_,_,hd⟩:=kn.rng q hq _ hkn;have:k=k':=by omega
      rw [this];exact hd
     have hkp:k ≠ p:=fun e=>by subst e;rw [hst] at hkd;cases hkd
     rw [maQ k hkp];have:=h.m2 q k hq hk hkn i hi;by_cases e:q=p
     ·subst e;exact Int.le_trans this (ZRH i hi)
     ·rw [maQ q e];exact this
    ·have hx':= (c4 i j x hk).1 hx;obtain⟨k',e1,e2,e3,_⟩:=ki.k1 i j x hx' hk;have hkk:k=k':=by omega
     have hne:k ≠ p:=fun e=>by rw [← hkk,e,hst] at e3;cases e3
     rw [maQ k hne];exact h.l4 i j x hx' hk k hkp i' hi'
   have fz':=fz;unfold UH at fz' ⊢;by_cases h0:inn s (p:Int) < 0
   ·rw [if_pos h0];exact hA'
   ·rw [if_neg h0] at fz' ⊢;obtain⟨eq,KS⟩:=QS hS hp h0
    have hal:σ.st (inn s (p:Int)).toNat ≠ 3:=fun z=>by
     have:=ki.k4 _ KS z p hp eq;obtain⟨k,ek,_,_,hd⟩:=kn.rng _ KS _ this;have:p=k:=by omega
     subst this;rw [hst] at hd;cases hd
    have hpq:(inn s (p:Int)).toNat ≠ p:=fun z=>by
     have:=ZcH hS hp;exact absurd (by rw [eq,z]:inn s (p:Int)= (p:Int)) (ZHs hS hp)
    by_cases c:pl s (inn s (p:Int)).toNat=pl s p
    ·rw [if_pos c] at fz' ⊢;have mq:∀ q,q ≠ (inn s (p:Int)).toNat ->(YN s p (W9 s (Yn s p σ) p) (Yn s p σ)).ma q= (Yn s p σ).ma q:=fun q e=>ZF e
     have mi:∀ i,i < mm s * mm s ->(YN s p (W9 s (Yn s p σ) p) (Yn s p σ)).ma (inn s (p:Int)).toNat i=if(Yn s p σ).ma p i > (Yn s p σ).ma (inn s (p:Int)).toNat i then(Yn s p σ).ma p i else(Yn s p σ).ma (inn s (p:Int)).toNat i:=fun i hi=>by
      show Z9 (Yn s p σ).ma (inn s (p:Int)).toNat (mx _ _) (inn s (p:Int)).toNat i=_;rw [Zv];unfold mx;rw [ZcT hi]
     refine⟨fun q b w j hq hb hw hne h3 hm=>?_,fun q k hq hk hkn i hi=>?_,fun i j x hx hk k hkp i' hi'=>?_⟩
     ·have e:q ≠ (inn s (p:Int)).toNat:=fun z=>by
       have h3:(Yn s p σ).st q=3:=h3;rw [sA.1,z,ZF hpq] at h3;exact hal h3
      rw [mq q e];exact hA'.m1 q b w j hq hb hw hne h3 hm
     ·have hkn':(k:Int) ∈ Z9 (Yn s p σ).kn (inn s (p:Int)).toNat (ins (p:Int) ((Yn s p σ).kn (inn s (p:Int)).toNat)) q:=hkn;have hki:k ≠ (inn s (p:Int)).toNat ->(YN s p (W9 s (Yn s p σ) p) (Yn s p σ)).ma k i= (Yn s p σ).ma k i:=fun e=>by rw [mq k e]
      by_cases e:q= (inn s (p:Int)).toNat
      ·subst e;rw [Zv] at hkn';rcases Ws.1 hkn' with z | z
       ·have:k=p:=by omega
        subst this;rw [mi i hi,hki (fun z=>hpq z.symm)];split <;> omega
       ·have hke:k ≠ (inn s (p:Int)).toNat:=fun zz=>by
         rw [sA.2.1] at z;obtain⟨k',ek,_,_,hd⟩:=kn.rng _ KS _ z;have:k=k':=by omega
         rw [← this,zz] at hd;exact hal hd
        have:=hA'.m2 _ k hq hk z i hi;rw [mi i hi,hki hke];split <;> omega
      ·rw [ZF e] at hkn'
       have hke:k ≠ (inn s (p:Int)).toNat:=fun zz=>by
        rw [sA.2.1] at hkn';obtain⟨k',ek,_,_,hd⟩:=kn.rng q hq _ hkn';have:k=k':=by omega
        rw [← this,zz] at hd;exact hal hd
       rw [mq q e,hki hke];exact hA'.m2 q k hq hk hkn' i hi
     ·have hx':= (c4 i j x hk).1 hx;obtain⟨k',e1,e2,e3,_⟩:=ki.k1 i j x hx' hk;have hkk:k=k':=by omega
      have hne:k ≠ (inn s (p:Int)).toNat:=fun e=>by rw [← hkk,e] at e3;exact hal e3
      rw [mq k hne];exact hA'.l4 i j x hx hk k hkp i' hi'
    ·rw [if_neg c] at fz' ⊢;refine⟨fun q b w j hq hb hw hne h3 hm=>hA'.m1 q b w j hq hb hw hne h3 ((Msg.s1 (S1.send (by show(4:Int) ≠ 1;decide))).1 hm),hA'.m2,fun i j x hx hk k hkp i' hi'=>?_⟩;rcases X9.1 hx with hx | ⟨_,_,rfl⟩
     ·exact hA'.l4 i j x hx hk k hkp i' hi'
     ·have:p=k:=by have:(p:Int)=k:=hkp;omega
      subst this;exact ZcT hi'
 | @Zdj p q hp hq hst e0=>
   have z:=QB q p σ.sd (kK p q σ);exact same (.refl' z.2.2.2.2.1) (.refl' z.2.2.2.2.1) (fun q _ h3=>by rw [z.1] at h3;exact h3) z.2.1 z.2.2.1
 | @Zdi p q hp hq hst e0=>
   refine⟨fun q' b w j hq' hb hw hne h3 hm=>?_,h.m2,fun i j x hx hk k hkp=>?_⟩
   ·obtain⟨x,hx,hxk,hxp⟩:=hm;rcases X9.1 hx with hx | ⟨_,_,rfl⟩
    ·exact h.m1 q' b w j hq' hb hw hne h3 ⟨x,hx,hxk,hxp⟩
    ·have:p=q':=by have:(p:Int)=q':=hxp;omega
     subst this;have h3:σ.st p=3:=h3;rw [hst] at h3;cases h3
   ·rcases X9.1 hx with hx | ⟨_,_,rfl⟩
    ·exact h.l4 i j x hx hk k hkp
    ·exact absurd hk (by show ¬ (1:Int)=4;decide)
 | @Zdf p q=>
   have z:=X6 (s:=s) p q (tell 3 p q 0 σ);exact same ((S1.refl' (σ:=σ) (τ:=tell 3 p q 0 σ) rfl).trans (.note p q)) ((S4.refl' (σ:=σ) (τ:=tell 3 p q 0 σ) rfl).trans (.note p q)) (fun q _ h3=>by rw [z.1] at h3;exact h3) z.2.1 z.2.2.1
 | @Zde p q=>exact same ((S1.refl' (σ:=σ) (τ:=tell 3 p q 0 σ) rfl).trans (.send (by show(2:Int) ≠ 1;decide))) ((S4.refl' (σ:=σ) (τ:=tell 3 p q 0 σ) rfl).trans (.send (by show(2:Int) ≠ 4;decide))) (fun _ _ z=>z) rfl rfl
 | @Zdo a b p q=>
   have z:=QB q p (hd σ (li s a b)).n (drop1 (li s a b) σ);exact same (.refl' z.2.2.2.2.1) (.refl' z.2.2.2.2.1) (fun q _ h3=>by rw [z.1] at h3;exact h3) z.2.1 z.2.2.1
 | @Zdr a b p q=>
   have z:=X6 (s:=s) p q (drop1 (li s a b) σ);exact same ((S1.refl' (σ:=σ) (τ:=drop1 (li s a b) σ) rfl).trans (.note p q)) ((S4.refl' (σ:=σ) (τ:=drop1 (li s a b) σ) rfl).trans (.note p q)) (fun q _ h3=>by rw [z.1] at h3;exact h3) z.2.1 z.2.2.1
 | Zdp=>exact same (.refl' rfl) (.refl' rfl) (fun _ _ z=>z) rfl rfl
 | @ZbH a b p ha hb hl hk hp hpn h0 hm h3 hn=>
   obtain⟨eq,KS⟩:=QS hS hpn (by omega);have hal:σ.st (inn s (p:Int)).toNat ≠ 3:=fun z=>hn (ki.k4 _ KS z p hpn eq)
   have hl4:=h.l4 _ _ _ (Zl1 hl) hk p hp;have mq:∀ q,q ≠ (inn s (p:Int)).toNat ->(YN s p (hd σ (li s a b)).qX (drop1 (li s a b) σ)).ma q=σ.ma q:=fun q e=>ZF e
   have mi:∀ i,i < mm s * mm s ->(YN s p (hd σ (li s a b)).qX (drop1 (li s a b) σ)).ma (inn s (p:Int)).toNat i=if σ.ma p i > σ.ma (inn s (p:Int)).toNat i then σ.ma p i else σ.ma (inn s (p:Int)).toNat i:=fun i hi=>by
    show Z9 σ.ma (inn s (p:Int)).toNat (mx _ _) (inn s (p:Int)).toNat i=_;rw [Zv];unfold mx;rw [hl4 i hi];rfl
   have hpq:p ≠ (inn s (p:Int)).toNat:=fun z=>by rw [← z] at hal;exact hal h3
   refine⟨fun q b w j hq hb hw hne h3 hm=>?_,fun q k hq hk hkn i hi=>?_,fun i j x hx hk k hkp i' hi'=>?_⟩
   ·have e:q ≠ (inn s (p:Int)).toNat:=fun z=>by
     have h3:σ.st q=3:=h3;rw [z] at h3;exact hal h3
    rw [mq q e];exact h.m1 q b w j hq hb hw hne h3 hm
   ·have hkn':(k:Int) ∈ Z9 σ.kn (inn s (p:Int)).toNat (ins (p:Int) (σ.kn (inn s (p:Int)).toNat)) q:=hkn;by_cases e:q= (inn s (p:Int)).toNat
    ·subst e;rw [Zv] at hkn';rcases Ws.1 hkn' with z | z
     ·have:k=p:=by omega
      subst this;rw [mi i hi,mq k hpq];split <;> omega
     ·have hke:k ≠ (inn s (p:Int)).toNat:=fun zz=>by
       obtain⟨k',ek,_,_,hd⟩:=kn.rng _ KS _ z;have:k=k':=by omega
       rw [← this,zz] at hd;exact hal hd
      have:=h.m2 _ k hq hk z i hi;rw [mi i hi,mq k hke];split <;> omega
    ·rw [ZF e] at hkn'
     have hke:k ≠ (inn s (p:Int)).toNat:=fun zz=>by
      obtain⟨k',ek,_,_,hd⟩:=kn.rng q hq _ hkn';have:k=k':=by omega
      rw [← this,zz] at hd;exact hal hd
     rw [mq q e,mq k hke];exact h.m2 q k hq hk hkn' i hi
   ·obtain⟨k',e1,e2,e3,_⟩:=ki.k1 i j x hx hk;have hkk:k=k':=by omega
    have hne:k ≠ (inn s (p:Int)).toNat:=fun e=>by rw [← hkk,e] at e3;exact hal e3
    rw [mq k hne];exact h.l4 i j x hx hk k hkp i' hi'
 | Zdq=>exact same (.refl' rfl) (.refl' rfl) (fun _ _ z=>z) rfl rfl
 | @ring w i=>
   have z:=Jt s w i σ;exact same (.refl' z.2.2.2.2.2.1) (.refl' z.2.2.2.2.2.1) (fun q _ h3=>by rw [z.2.2.1] at h3;exact h3) z.2.2.2.1 z.2.2.2.2.1
end
end
section
structure Bel (s:Zc) (σ:TS):Prop where
 bl:∀ (a w jb:Nat) (x:Ze),a < mm s ->w < mm s ->(σ.sn (li s a w))[jb]? =some x ->x.kW=5 ->∀ r:Nat,x.kX= (r:Int) ->r < nn s ->σ.st r=3∧∀ q b j,q < nn s ->Wth s r q ->b < mm s ->b ≠ w ->Msg s σ q b w j ->(j:Int) < x.qX.getD (li s b w) 0∨(b=a∧j < jb)
 bw:∀ m,m < mm s ->∀ x ∈ σ.be m,∀ r:Nat,x.kX= (r:Int) ->r < nn s ->σ.st r=3∧∀ q b j,q < nn s ->Wth s r q ->b < mm s ->b ≠ m ->Msg s σ q b m j ->(j:Int) < x.qX.getD (li s b m) 0∨j < σ.ld (li s b m)
 hh:∀ e ∈ σ.ev,e.kZ=4 ->∀ y r:Nat,e.kV= (y:Int) ->e.kX= (r:Int) ->y < nn s ->r < nn s ->∀ q,q < nn s ->Wth s r q ->σ.st q=3∧∀ b j,b < mm s ->b ≠ pl s y ->Msg s σ q b (pl s y) j ->j < σ.ld (li s b (pl s y))
section
variable {s:Zc} {σ τ υ:TS} {F B a b p q w i j n d r p0 q0 y:Nat} {x:Ze} {k:Int} {e:Zd}
def S5 (σ τ:TS):Prop:=∀ (i j:Nat) (x:Ze),x.kW=5 ->((τ.sn i)[j]? =some x↔(σ.sn i)[j]? =some x)
theorem S5.refl' (h:τ.sn=σ.sn):S5 σ τ:=fun i j x _=>by rw [h]
theorem S5.send (hx:x.kW ≠ 5):S5 σ (Proofs.YtcnahmgekicbdaaGreat.send s a b x σ):=fun i j y hy=>by
 rw [X9];exact⟨fun z=>z.elim id fun w=>absurd (w.2.2 ▸ hy) hx,.inl⟩
theorem Bel.same (h:Bel s σ) (hm:∀ q b w j,q < nn s ->σ.st q=3 ->Msg s τ q b w j ->Msg s σ q b w j) (h5:S5 σ τ) (h3:∀ q,q < nn s ->σ.st q=3 ->τ.st q=3) (hl:∀ i,σ.ld i <=τ.ld i) (hb:∀ m,∀ x ∈ τ.be m,x ∈ σ.be m) (he:∀ e ∈ τ.ev,e.kZ=4 ->e ∈ σ.ev)
 (hd:∀ r q,r < nn s ->q < nn s ->σ.st r=3 ->Wth s r q ->σ.st q=3):Bel s τ:=by
 refine⟨fun a w jb x ha hw hx hk r hr hrn=>?_,fun m hm' x hx r hr hrn=>?_,fun e he' z y r hy hr hyn hrn q hq hW=>?_⟩
 ·obtain⟨c1,c2⟩:=h.bl a w jb x ha hw ((h5 _ _ _ hk).1 hx) hk r hr hrn;exact⟨h3 r hrn c1,fun q b j hq hW hb' hne hM=>c2 q b j hq hW hb' hne (hm q b w j hq (hd r q hrn hq c1 hW) hM)⟩
 ·obtain⟨c1,c2⟩:=h.bw m hm' x (hb m x hx) r hr hrn;exact⟨h3 r hrn c1,fun q b j hq hW hb' hne hM=>(c2 q b j hq hW hb' hne (hm q b m j hq (hd r q hrn hq c1 hW) hM)).imp id fun z=>Nat.lt_of_lt_of_le z (hl _)⟩
 ·obtain⟨c1,c2⟩:=h.hh e (he e he' z) z y r hy hr hyn hrn q hq hW;exact⟨h3 q hq c1,fun b j hb' hne hM=>Nat.lt_of_lt_of_le (c2 b j hb' hne (hm q b _ j hq c1 hM)) (hl _)⟩
def HB (s:Zc) (σ:TS) (r:Nat):Prop:=∀ q b w j,q < nn s ->Wth s r q ->b < mm s ->w < mm s ->b ≠ w ->Msg s σ q b w j ->(j:Int) < σ.ma r (li s b w)∨b=pl s r
theorem Bel.Xk (hS:X7 s) (h:Bel s σ) (hy:y < nn s) (hr:r < nn s) (h3:σ.st r=3) (hB:HB s σ r):Bel s (Proofs.YtcnahmgekicbdaaGreat.Xk s y r σ):=by
 unfold Proofs.YtcnahmgekicbdaaGreat.Xk;by_cases e:pl s y=pl s r
 ·rw [if_pos e];refine⟨h.bl,fun m hm x hx r' hr' hrn=>?_,h.hh⟩;have hx:x ∈ Z9 σ.be (pl s y) (σ.be (pl s y) ++ [⟨5,y,r,0,W9 s σ r⟩]) m:=hx;by_cases c:m=pl s y
  ·subst c;rw [Zv] at hx;rcases List.mem_append.1 hx with hx | hx
   ·exact h.bw _ hm x hx r' hr' hrn
   ·rw [List.mem_singleton.1 hx] at hr' ⊢;have:r=r':=by have:(r:Int)=r':=hr';omega
    subst this;refine⟨h3,fun q b j hq hW hb hne hM=>?_⟩;rcases hB q b _ j hq hW hb hm hne hM with z | z
    ·left;show(j:Int) < (W9 s σ r).getD (li s b (pl s y)) 0;rw [ZcT (Ka hb hm)];exact z
    ·exact absurd z (by rw [← e];exact hne)
  ·rw [ZF c] at hx;exact h.bw m hm x hx r' hr' hrn
 ·rw [if_neg e];have mb:∀ q b w j,Msg s (Proofs.YtcnahmgekicbdaaGreat.send s (pl s r) (pl s y) ⟨5,y,r,0,W9 s σ r⟩ σ) q b w j ->Msg s σ q b w j:=fun q b w j hM=>(Msg.s1 (S1.send (by show(5:Int) ≠ 1;decide))).1 hM
  refine⟨fun a w jb x ha hw hx hk r' hr' hrn=>?_,fun m hm x hx r' hr' hrn=>?_,fun e he z y' r' hy' hr' hyn hrn q hq hW=>?_⟩
  ·rcases X9.1 hx with hx | ⟨e1,e2,rfl⟩
   ·obtain⟨c1,c2⟩:=h.bl a w jb x ha hw hx hk r' hr' hrn;exact⟨c1,fun q b j hq hW hb hne hM=>c2 q b j hq hW hb hne (mb q b w j hM)⟩
   ·have:r=r':=by have:(r:Int)=r':=hr';omega
    subst this;obtain⟨e3,e4⟩:=Zqj hw (hS.pl hy).2 e1;refine⟨h3,fun q b j hq hW hb hne hM=>?_⟩;have hM':=mb q b w j hM;rcases hB q b w j hq hW hb hw hne hM' with z | z
    ·left;show(j:Int) < (W9 s σ r).getD (li s b w) 0;rw [ZcT (Ka hb hw)];exact z
    ·right;refine⟨by rw [z,e3],?_⟩;have:=hM'.lt;rw [e2,e3,← z];exact this
  ·obtain⟨c1,c2⟩:=h.bw m hm x hx r' hr' hrn;exact⟨c1,fun q b j hq hW hb hne hM=>c2 q b j hq hW hb hne (mb q b m j hM)⟩
  ·obtain⟨c1,c2⟩:=h.hh e he z y' r' hy' hr' hyn hrn q hq hW;exact⟨c1,fun b j hb hne hM=>c2 b j hb hne (mb q b _ j hM)⟩
theorem Zw9 {ld:Nat ->Nat} {l:List Ze}:∀ k j,UM s ld w l k=some j ->rdy s ld w (l.getD j default):=by
 intro k
 induction k with
 | zero=>intro j h;cases h
 | succ k ih=>
   intro j h;rw [UM] at h;by_cases c:rdy s ld w (l.getD k default)∧∀ j,UM s ld w l k=some j ->ZdN s (l.getD j default) < ZdN s (l.getD k default)
   ·rw [ZR c] at h;cases h;exact c.1
   ·rw [ZG c] at h;exact ih j h
theorem HB.dead (hS:X7 s) (ki:KI s σ) (kn:Kn s σ) (h:Mk s σ) (hr:r < nn s) (h3:σ.st r=3):HB s σ r:=fun q b w j hq ⟨m,e⟩ hb hw hne hM=>by
 have hq3:=Zhp hS kn ki hr h3 m q hq e;have h1:=h.m1 q b w j hq hb hw hne hq3 hM;have h2:=h.chain hS ki kn (Ka hb hw) m q r hq hr h3 e;left;omega
theorem ZHe (h1:P1 s σ) (hb:b < mm s) (hw:w < mm s) (hM:Msg s σ q b w j):pl s q=b:=by
 obtain⟨x,hx,hxk,hxp⟩:=hM;obtain⟨p',e1,_,_,c⟩:=h1.lets b w hb hw x (List.mem_of_getElem? hx);have:p'=q:=by omega
 subst this;rcases c with⟨_,c,_⟩ | ⟨k,_⟩ | ⟨k,_⟩ | ⟨k,_⟩ | ⟨k,_⟩
 ·exact c
 all_goals omega
theorem HB.dying (hS:X7 s) (h1:P1 s σ) (ki:KI s σ) (kn:Kn s σ) (h:Mk s σ) (hp:p < nn s) (hA:Alo s σ p):HB s σ p:=fun q b w j hq hW hb hw hne hM=>by
 by_cases e:q=p
 ·subst e;exact .inr (ZHe h1 hb hw hM).symm
 ·left;obtain⟨c,hc,hci,m,hm⟩:=ZAW (hS:=hS) hq hW e;have hkc:=hA c hc hci;obtain⟨c',ec,_,_,hd⟩:=kn.rng p hp _ hkc;have:c=c':=by omega
  subst this;have hq3:=Zhp hS kn ki hc hd m q hq hm;have h1':=h.m1 q b w j hq hb hw hne hq3 hM;have h2:=h.chain hS ki kn (Ka hb hw) m q c hq hc hd hm;have h3:=h.m2 p c hp hc hkc _ (Ka hb hw);omega
theorem HB.congr (h:HB s σ r) (h1:S1 σ τ) (h2:τ.ma=σ.ma):HB s τ r:=fun q b w j hq hW hb hw hne hM=>by rw [h2];exact h q b w j hq hW hb hw hne ((Msg.s1 h1).1 hM)
theorem Bel.Zw (hS:X7 s) (hr:r < nn s):∀ (l:List Int) (σ:TS),(∀ x ∈ l,∃ k:Nat,x= (k:Int)∧k < nn s) ->Bel s σ ->σ.st r=3 ->HB s σ r ->Bel s (Proofs.YtcnahmgekicbdaaGreat.Zw s r l σ):=by
 intro l
 induction l with
 | nil=>intro σ _ h _ _;exact h
 | cons x l ih=>
   intro σ hx h h3 hB;obtain⟨k,rfl,hk⟩:=hx x (by simp);have z:=Zc8 (s:=s) k r σ;show Bel s (Proofs.YtcnahmgekicbdaaGreat.Zw s r l (Proofs.YtcnahmgekicbdaaGreat.Xk s ((k:Int)).toNat r σ));rw [Int.toNat_natCast];exact ih _ (fun y hy=>hx y (by simp [hy])) (h.Xk hS hk hr h3 hB) (by rw [z.1];exact h3) (hB.congr (.Xk k r) z.2.2.1)
theorem Bel.note (hS:X7 s) (h:Bel s σ) (hy:y < nn s) (hr:r < nn s) (hB:σ.st r=3 ->HB s σ r):Bel s (Proofs.YtcnahmgekicbdaaGreat.note s y r σ):=by
 unfold Proofs.YtcnahmgekicbdaaGreat.note;by_cases e:σ.st r=3
 ·rw [if_pos e];exact h.Xk hS hy hr e (hB e)
 ·rw [if_neg e];exact⟨h.bl,h.bw,h.hh⟩
theorem Bel.act (hS:X7 s) (h1:P1 s σ) (h2:P2 s σ) (h3:P3 s σ) (ki:KI s σ) (hMk:Mk s σ) (h:Bel s σ) (ac:Act s σ τ):Bel s τ:=by
 have kn:=h2.kn;have hd:∀ r q,r < nn s ->q < nn s ->σ.st r=3 ->Wth s r q ->σ.st q=3:=fun r q hr hq z ⟨m,e⟩=>Zhp hS kn ki hr z m q hq e
 have r0:∀ i,σ.ld i <=σ.ld i:=fun _=>Nat.le_refl _
 have b0:∀ m,∀ x ∈ σ.be m,x ∈ σ.be m:=fun _ _ z=>z
 have ev1:∀ (l:List Zd) (e:Zd),e.kZ ≠ 4 ->∀ y ∈ l ++ [e],y.kZ=4 ->y ∈ l:=fun l e he y hy z=>by
  rcases List.mem_append.1 hy with hy | hy
  ·exact hy
  ·rw [List.mem_singleton.1 hy] at z;exact absurd z he
 have ZLw:∀ (ρ:TS) (p q:Nat) (n:Int),∀ y ∈ (see p q n ρ).ev,y.kZ=4 ->y ∈ ρ.ev:=fun ρ p q n y hy z=>by
  unfold see at hy;split at hy
  ·exact ev1 _ _ (by show(2:Int) ≠ 4;decide) y hy z
  ·exact hy
 cases ac with
 | @fall p hp hst=>
   refine h.same (fun q b w j _ _ hM=>hM) (.refl' rfl) (fun q _ z=>?_) r0 b0 (ev1 _ _ (by show(5:Int) ≠ 4;decide)) hd;show Z9 σ.st p 2 q=3;rw [ZF (fun e=>by subst e;rw [hst] at z;cases z)];exact z
 | WZ=>exact h.same (fun q b w j _ _ hM=>(Msg.s1 (S1.send (by show(3:Int) ≠ 1;decide))).1 hM) (.send (by show(3:Int) ≠ 5;decide)) (fun _ _ z=>z) r0 b0 (fun _ z _=>z) hd
 | @die p hp hst hA=>
   have sA:=QV (s:=s) p σ
   have st3:∀ q,q < nn s ->σ.st q=3 ->Z9 σ.st p 3 q=3:=fun q _ z=>by
    by_cases e:q=p
    ·subst e;exact Zv _ _ _
    ·rw [ZF e];exact z
   have c0:Bel s (JW p σ):=h.same (fun q b w j _ _ hM=>hM) (.refl' rfl) st3 r0 b0 (ev1 _ _ (by show(6:Int) ≠ 4;decide)) hd
   have cA:Bel s (Yn s p σ):=by
    have:=Bel.Zw hS hp (σ.wa p) (JW p σ) (h1.ws p hp) c0 (Zv _ _ _) ((HB.dying hS h1 ki kn hMk hp hA).congr (.refl' rfl) rfl);exact⟨this.bl,this.bw,this.hh⟩
   unfold UH;split
   ·exact cA
   ·split
    ·exact⟨cA.bl,cA.bw,cA.hh⟩
    ·have mb:∀ q b w j,Msg s (send s (pl s p) (pl s (inn s (p:Int)).toNat) ⟨4,(p:Int),0,0,W9 s (Yn s p σ) p⟩ (Yn s p σ)) q b w j ->Msg s (Yn s p σ) q b w j:=fun q b w j hM=>(Msg.s1 (S1.send (by show(4:Int) ≠ 1;decide))).1 hM
     refine⟨fun a w jb x ha hw hx hk r hr hrn=>?_,fun m hm x hx r hr hrn=>?_,fun e he z y r hy hr hyn hrn q hq hW=>?_⟩
     ·obtain⟨c1,c2⟩:=cA.bl a w jb x ha hw ((S5.send (by show(4:Int) ≠ 5;decide) _ _ _ hk).1 hx) hk r hr hrn;exact⟨c1,fun q b j hq hW hb hne hM=>c2 q b j hq hW hb hne (mb q b w j hM)⟩
     ·obtain⟨c1,c2⟩:=cA.bw m hm x hx r hr hrn;exact⟨c1,fun q b j hq hW hb hne hM=>c2 q b j hq hW hb hne (mb q b m j hM)⟩
     ·obtain⟨c1,c2⟩:=cA.hh e he z y r hy hr hyn hrn q hq hW;exact⟨c1,fun b j hb hne hM=>c2 b j hb hne (mb q b _ j hM)⟩
 | @Zdj p q hp hq hst e0=>
   have z:=QB q p σ.sd (kK p q σ);refine h.same (fun q b w j _ _ hM=>(Msg.s1 (S1.refl' z.2.2.2.2.1)).1 hM) (.refl' z.2.2.2.2.1) (fun q _ hq3=>by rw [z.1];exact hq3) (by rw [z.2.2.2.1];exact r0) (by rw [z.2.2.2.2.2.1];exact b0) (fun y hy h4=>?_) hd;exact ev1 σ.ev _ (by show(1:Int) ≠ 4;decide) y (ZLw (kK p q σ) q p σ.sd y hy h4) h4
 | @Zdi p q hp hq hst e0=>
   refine h.same (fun q' b w j _ h3' hM=>?_) (.send (by show(1:Int) ≠ 5;decide)) (fun _ _ z=>z) r0 b0 (ev1 _ _ (by show(1:Int) ≠ 4;decide)) hd;obtain⟨x,hx,hk,hxp⟩:=hM;rcases X9.1 hx with hx | ⟨_,_,rfl⟩
   ·exact⟨x,hx,hk,hxp⟩
   ·have:p=q':=by have:(p:Int)=q':=hxp;omega
    subst this;rw [hst] at h3';cases h3'
 | @Zdf p q hp hq hst e0=>
   have c:Bel s (tell 3 p q 0 σ):=h.same (fun q b w j _ _ hM=>hM) (.refl' rfl) (fun _ _ z=>z) r0 b0 (ev1 _ _ (by show(3:Int) ≠ 4;decide)) hd;exact c.note hS hp hq fun z=>(HB.dead hS ki kn hMk hq z).congr (.refl' rfl) rfl
 | @Zde p q hp hq hst e0=>exact h.same (fun q b w j _ _ hM=>(Msg.s1 ((S1.refl' (σ:=σ) (τ:=tell 3 p q 0 σ) rfl).trans (S1.send (by show(2:Int) ≠ 1;decide)))).1 hM) (.send (by show(2:Int) ≠ 5;decide)) (fun _ _ z=>z) r0 b0 (ev1 _ _ (by show(3:Int) ≠ 4;decide)) hd
 | @Zdo a b p q=>
   have z:=QB q p (Proofs.YtcnahmgekicbdaaGreat.hd σ (li s a b)).n (drop1 (li s a b) σ);refine h.same (fun q b w j _ _ hM=>(Msg.s1 (S1.refl' z.2.2.2.2.1)).1 hM) (.refl' z.2.2.2.2.1) (fun q _ hq3=>by rw [z.1];exact hq3) (by rw [z.2.2.2.1];exact Wq _) (by rw [z.2.2.2.2.2.1];exact b0) (fun y hy h4=>ZLw (drop1 (li s a b) σ) _ _ _ y hy h4) hd
 | @Zdr a b p q ha hb hl hk hp hq hpn KS=>
   have c:Bel s (drop1 (li s a b) σ):=h.same (fun q b w j _ _ hM=>hM) (.refl' rfl) (fun _ _ z=>z) (Wq _) b0 (fun _ z _=>z) hd;exact c.note hS hpn KS fun z=>(HB.dead hS ki kn hMk KS z).congr (.refl' rfl) rfl
 | Zdp=>exact h.same (fun q b w j _ _ hM=>hM) (.refl' rfl) (fun _ _ z=>z) (Wq _) b0 (fun _ z _=>z) hd
 | ZbH=>exact h.same (fun q b w j _ _ hM=>hM) (.refl' rfl) (fun _ _ z=>z) (Wq _) b0 (fun _ z _=>z) hd
 | @Zdq a b ha hb hl hk=>
   have c:Bel s (drop1 (li s a b) σ):=h.same (fun q b w j _ _ hM=>hM) (.refl' rfl) (fun _ _ z=>z) (Wq _) b0 (fun _ z _=>z) hd;refine⟨c.bl,fun m hm x hx r hr hrn=>?_,c.hh⟩;have hx:x ∈ Z9 σ.be b (σ.be b ++ [Proofs.YtcnahmgekicbdaaGreat.hd σ (li s a b)]) m:=hx;by_cases e:m=b
   ·subst e;rw [Zv] at hx;rcases List.mem_append.1 hx with hx | hx
    ·exact c.bw m hm x hx r hr hrn
    ·rw [List.mem_singleton.1 hx] at hr ⊢;obtain⟨c1,c2⟩:=h.bl a m _ _ ha hb (Zl1 hl) hk r hr hrn;refine⟨c1,fun q b' j hq hW hb' hne hM=>(c2 q b' j hq hW hb' hne hM).imp id fun⟨e1,e2⟩=>?_⟩;show j < Z9 σ.ld (li s a m) (σ.ld (li s a m) + 1) (li s b' m);rw [e1,Zv];omega
   ·rw [ZF e] at hx;exact c.bw m hm x hx r hr hrn
 | @ring w i hw hpk=>
   have z:=Jt s w i σ;have hi:i < (σ.be w).length:=ZcP _ _ hpk;have mb:∀ q b w' j,Msg s (rung s w i σ) q b w' j ->Msg s σ q b w' j:=fun q b w' j hM=>(Msg.s1 (S1.refl' z.2.2.2.2.2.1)).1 hM
   have c:Bel s {σ with be:=Z9 σ.be w (ZbK (σ.be w) i)}:=h.same (fun q b w j _ _ hM=>hM) (.refl' rfl) (fun _ _ z=>z) r0 (fun m x hx=>by
    have hx:x ∈ Z9 σ.be w (ZbK (σ.be w) i) m:=hx;by_cases e:m=w
    ·subst e;rw [Zv] at hx;exact Zcu hx
    ·rwa [ZF e] at hx) (fun _ z _=>z) hd
   unfold rung;split
   ·refine⟨c.bl,c.bw,fun e he h4 y r hy hr hyn hrn q hq hW=>?_⟩;have he:e ∈ σ.ev ++ [⟨4,((σ.be w).getD i default).kV,((σ.be w).getD i default).kX,0⟩]:=he;rcases List.mem_append.1 he with he | he
    ·exact c.hh e he h4 y r hy hr hyn hrn q hq hW
    ·rw [List.mem_singleton.1 he] at hy hr;have hy:((σ.be w).getD i default).kV= (y:Int):=hy;have hr:((σ.be w).getD i default).kX= (r:Int):=hr;have hmem:=XT (d:=default) hi;obtain⟨p',e1,_,e2⟩:=h3 w hw _ hmem;have:p'=y:=by omega
     subst this;obtain⟨c1,c2⟩:=h.bw w hw _ hmem r hr hrn;refine⟨hd r q hrn hq c1 hW,fun b j hb hne hM=>?_⟩;rw [e2] at hne hM ⊢;rcases c2 q b j hq hW hb hne hM with z1 | z1
     ·have hrd:rdy s σ.ld w ((σ.be w).getD i default):=Zw9 _ _ hpk;have:=hrd b hb hne;show j < σ.ld (li s b w);omega
     ·exact z1
   ·exact c
end
end
section
structure RuO (s:Zc) (σ:TS):Prop where
 told:∀ e ∈ σ.ev,Told s e
 ok:∀ k,k < σ.ev.length ->QC s (σ.ev.take k) (σ.ev.getD k default)=0
section
variable {s:Zc} {σ τ υ:TS} {F B a b p q w i j n d r p0 q0 y:Nat} {x:Ze} {k:Int} {e:Zd} {l:List Yc} {picks:List Int} {L:List Zd}
theorem RuO.congr (h:RuO s σ) (he:τ.ev=σ.ev):RuO s τ:= ⟨by rw [he];exact h.told,by rw [he];exact h.ok⟩
theorem RuO.add (h:RuO s σ) (he:τ.ev=σ.ev ++ [e]) (ht:Told s e) (hr:QC s σ.ev e=0):RuO s τ:=by
 refine⟨fun y hy=>?_,fun k hk=>?_⟩
 ·rw [he] at hy;rcases List.mem_append.1 hy with hy | hy
  ·exact h.told y hy
  ·rw [List.mem_singleton.1 hy];exact ht
 ·rw [he] at hk ⊢;rw [List.length_append,List.length_singleton] at hk;by_cases c:k < σ.ev.length
  ·rw [List.take_append_of_le_length (by omega)]
   have:(σ.ev ++ [e]).getD k default=σ.ev.getD k default:=by
    rw [List.getD_eq_getElem?_getD,List.getElem?_append_left c,← List.getD_eq_getElem?_getD]
   rw [this];exact h.ok k c
  ·have:k=σ.ev.length:=by omega
   subst this;rw [List.take_append_of_le_length (Nat.le_refl _),List.take_length]
   have:(σ.ev ++ [e]).getD σ.ev.length default=e:=by
    rw [List.getD_eq_getElem?_getD,List.getElem?_append_right (Nat.le_refl _),Nat.sub_self];rfl
   rw [this];exact hr
theorem Zab (hp:p < nn s):Pl s (p:Int):= ⟨p,rfl,hp⟩
theorem Zad (h:EvS s σ) (hp:p < nn s) (h1:σ.st p=1):c3 σ.ev 5 (p:Int) 0=0:=by rw [h.e5 p hp,Xc (fun z=>z h1)]
theorem ZDM (n:Int) (h5:c3 L 5 (p:Int) 0=0) (hk:k1 L ⟨1,p,q,n⟩=0):QC s L ⟨1,p,q,n⟩=0:=by
 unfold QC;rw [hk];show(bif((1:Int) !=6) && decide (c3 L 5 (p:Int) 0 > 0) then _ else _)=_;rw [h5];rfl
theorem ZDL (n:Int) (h5:c3 L 5 (p:Int) 0=0) (hk:0 < k1 L ⟨2,p,q,n⟩) (hk2:k2 L ⟨2,p,q,n⟩=0) (hs:ZgR s L ⟨2,p,q,n⟩=false):QC s L ⟨2,p,q,n⟩=0:=by
 unfold QC;rw [hk2,hs,decide_eq_false (show ¬ k1 L ⟨2,p,q,n⟩=0 by omega)];show(bif((2:Int) !=6) && decide (c3 L 5 (p:Int) 0 > 0) then _ else _)=_;rw [h5];rfl
theorem ZDK (h5:c3 L 5 (p:Int) 0=0) (o:Int):QC s L ⟨3,p,o,0⟩=0:=by
 unfold QC;show(bif((3:Int) !=6) && decide (c3 L 5 (p:Int) 0 > 0) then _ else _)=_;rw [h5];rfl
theorem ZLH (h5:c3 L 5 (p:Int) 0=0):QC s L ⟨5,p,0,0⟩=0:=by
 unfold QC;show(bif((5:Int) !=6) && decide (c3 L 5 (p:Int) 0 > 0) then _ else _)=_;rw [h5];rfl
theorem ZLI (h5:c3 L 5 (p:Int) 0=0) (h6:c3 L 6 (q:Int) 0 ≠ 0) (hc:c3 L 4 (p:Int) (q:Int) < c3 L 3 (p:Int) (q:Int)):QC s L ⟨4,p,q,0⟩=0:=by
 unfold QC;show(bif((4:Int) !=6) && decide (c3 L 5 (p:Int) 0 > 0) then(1:Int) else bif false then _ else bif false then _ else bif false then _ else bif true then(bif decide (c3 L 6 (q:Int) 0=0) || decide (c3 L 4 (p:Int) (q:Int) >=c3 L 3 (p:Int) (q:Int)) then 4 else 0) else 0)=_;rw [h5,decide_eq_false h6,decide_eq_false (show ¬ c3 L 4 (p:Int) (q:Int) >=c3 L 3 (p:Int) (q:Int) by omega)];rfl
theorem ZLG (h5:c3 L 5 (p:Int) 0 ≠ 0) (h6:c3 L 6 (p:Int) 0=0) (hk:Zcc s L (p:Int)=false):QC s L ⟨6,p,0,0⟩=0:=by
 unfold QC;show(bif false && _ then(1:Int) else bif false then _ else bif false then _ else bif true then(bif(decide (c3 L 5 (p:Int) 0=0) || decide (c3 L 6 (p:Int) 0 > 0)) || Zcc s L (p:Int) then 3 else 0) else _)=_;rw [hk,h6,decide_eq_false h5];rfl
theorem ZmV {α:Type} {f:α ->Bool} {l:List α} (h:∀ x ∈ l,f x=false):l.countP f=0:=by
 rw [List.countP_eq_zero];intro x hx;rw [h x hx];decide
theorem Zz2 (y:Nat):(atW s (y:Int)).toNat=pl s y:=by unfold atW pl;rw [Int.toNat_natCast];rfl
theorem ZrZ (hS:X7 s) (hR:EvR s σ) (hB:Bel s σ) (hq:q < nn s) (hp:p < nn s) (hM:σ.st p ≠ 3∨∃ b j,b < mm s∧b ≠ pl s q∧Msg s σ p b (pl s q) j∧¬ j < σ.ld (li s b (pl s q))) (n:Int):ZgR s σ.ev ⟨2,q,p,n⟩=false:=by
 unfold ZgR;rw [List.any_eq_false];intro e he z;simp only [Ba0,beq_iff_eq] at z;obtain⟨⟨z1,z2⟩,z3⟩:=z;obtain⟨⟨y,ey,hy⟩,⟨r,er,hr⟩⟩:=hR e he;rw [ey] at z2;rw [er,Int.toNat_natCast,Int.toNat_natCast] at z3;have hW:= (Zay hS.inn (show p < s.Zf.length from hp)).1 z3;have hpl:pl s y=pl s q:=by rw [← Zz2,← Zz2,z2]
 obtain⟨c1,c2⟩:=hB.hh e he z1 y r ey er hy hr p hp hW;rcases hM with hM | ⟨b,j,hb,hne,hMs,hn⟩
 ·exact hM c1
 ·rw [hpl] at c2;exact hn (c2 b j hb hne hMs)
theorem RuO.act (hS:X7 s) (h1:P1 s σ) (h2:P2 s σ) (h3:P3 s σ) (ki:KI s σ) (hR:EvR s σ) (hE:EvS s σ) (hN:Num σ) (ZOK:Bal s σ) (hB:Bel s σ) (h:RuO s σ) (ac:Act s σ τ):RuO s τ:=by
 have kn:=h2.kn
 have ZLv:∀ (ρ:TS) (q p:Nat) (n:Int),RuO s ρ ->q < nn s ->p < nn s ->0 <=n ->(ρ.st q=1 ->QC s ρ.ev ⟨2,q,p,n⟩=0) ->RuO s (see q p n ρ):=fun ρ q p n hρ hq hp hn hr=>by
  unfold see;split
  ·rename_i hst;exact hρ.add (e:= ⟨2,q,p,n⟩) rfl ⟨Zab hq,hn,.inl ⟨.inr rfl,Zab hp⟩⟩ (hr hst)
  ·exact hρ
 cases ac with
 | @fall p hp hst=>exact h.add (e:= ⟨5,p,0,0⟩) rfl ⟨Zab hp,Int.le_refl _,.inr (.inr ⟨.inl rfl,rfl,rfl⟩)⟩ (ZLH (Zad hE hp hst))
 | WZ=>exact h.congr rfl
 | @die p hp hst hA=>
   have sA:=QV (s:=s) p σ
   have hA':RuO s (Yn s p σ):=by
    refine h.add (e:= ⟨6,p,0,0⟩) sA.2.2.2.2.1 ⟨Zab hp,Int.le_refl _,.inr (.inr ⟨.inr rfl,rfl,rfl⟩)⟩ (ZLG ?_ ?_ ?_)
    ·rw [hE.e5 p hp,JZ (by rw [hst];decide)];decide
    ·rw [hE.e6 p hp,Xc (by rw [hst];decide)]
    ·unfold Zcc;rw [List.any_eq_false];intro q hq z;simp only [Ba0,beq_iff_eq,decide_eq_true_eq] at z;have hq':q < nn s:=List.mem_range.1 hq;obtain⟨k',ek,_,_,hd⟩:=kn.rng p hp _ (hA q hq' z.1);have:q=k':=by omega
     subst this;have:=z.2;rw [hE.e6 q hq',JZ hd] at this;cases this
   unfold UH;split
   ·exact hA'
   ·split
    ·exact hA'.congr rfl
    ·exact hA'.congr rfl
 | @Zdj p q hp hq hst e0=>
   have k0:∀ (m:Int),k1 σ.ev ⟨1,p,q,σ.sd⟩=0:=fun _=>ZmV fun x hx=>by
    by_cases z:x.kZ=1
    ·have:= (hN.n1 x hx (.inl z)).2;rw [show(x.n== (⟨1,p,q,σ.sd⟩:Zd).n)=false from beq_eq_false_iff_ne.2 (by show x.n ≠ σ.sd;omega)];simp
    ·rw [show(x.kZ==1)=false from beq_eq_false_iff_ne.2 z];simp
   have c1:RuO s (kK p q σ):=h.add (e:= ⟨1,p,q,σ.sd⟩) rfl ⟨Zab hp,hN.n0,.inl ⟨.inl rfl,Zab hq⟩⟩ (ZDM _ (Zad hE hp hst) (k0 0));refine ZLv (kK p q σ) q p σ.sd c1 hq hp hN.n0 fun ZgT=>?_
   have ev:(kK p q σ).ev=σ.ev ++ [⟨1,p,q,σ.sd⟩]:=rfl;have ZgT:σ.st q=1:=ZgT;refine ZDL _ ?_ ?_ ?_ ?_
   ·rw [ev,Zbf,Zad hE hq ZgT,Xc (fun z=>by have:(1:Int)=5:=z.1;omega)]
   ·rw [ev];unfold k1;rw [List.countP_append];simp
   ·rw [ev]
    exact ZmV fun x hx=>by
     by_cases z:x.kZ=2
     ·rcases List.mem_append.1 hx with hx | hx
      ·have:= (hN.n1 x hx (.inr z)).2;rw [show(x.n== (⟨2,q,p,σ.sd⟩:Zd).n)=false from beq_eq_false_iff_ne.2 (by show x.n ≠ σ.sd;omega)];simp
      ·rw [List.mem_singleton.1 hx] at z;exact absurd z (by show ¬ (1:Int)=2;decide)
     ·rw [show(x.kZ==2)=false from beq_eq_false_iff_ne.2 z];rfl
   ·have:=ZrZ (n:=σ.sd) hS hR hB hq hp (.inl (by rw [hst];decide));rw [ev];unfold ZgR at this ⊢;rw [List.any_append,this];simp
 | @Zdi p q hp hq hst e0=>
   have k0:k1 σ.ev ⟨1,p,q,σ.sd⟩=0:=ZmV fun x hx=>by
    by_cases z:x.kZ=1
    ·have:= (hN.n1 x hx (.inl z)).2;rw [show(x.n== (⟨1,p,q,σ.sd⟩:Zd).n)=false from beq_eq_false_iff_ne.2 (by show x.n ≠ σ.sd;omega)];simp
    ·rw [show(x.kZ==1)=false from beq_eq_false_iff_ne.2 z];simp
   exact h.add (e:= ⟨1,p,q,σ.sd⟩) rfl ⟨Zab hp,hN.n0,.inl ⟨.inl rfl,Zab hq⟩⟩ (ZDM _ (Zad hE hp hst) k0)
 | @Zdf p q hp hq hst e0=>exact(h.add (τ:=tell 3 p q 0 σ) (e:= ⟨3,p,q,0⟩) rfl ⟨Zab hp,Int.le_refl _,.inr (.inl ⟨.inl rfl,Zab hq,rfl⟩)⟩ (ZDK (Zad hE hp hst) q)).congr (X6 (s:=s) p q (tell 3 p q 0 σ)).2.2.2.2.2
 | @Zde p q hp hq hst e0=>exact h.add (e:= ⟨3,p,q,0⟩) rfl ⟨Zab hp,Int.le_refl _,.inr (.inl ⟨.inl rfl,Zab hq,rfl⟩)⟩ (ZDK (Zad hE hp hst) q)
 | @Zdo a b p q ha hb hl hk hpe hqe hp hq=>
   have hg:=Zl1 hl;obtain⟨n1,n2,e,he,e1,e2,e3,e4⟩:=hN.n5 _ _ _ hg hk;refine ZLv (drop1 (li s a b) σ) q p _ (h.congr rfl) hq hp n1 fun hst=>?_
   have hst:σ.st q=1:=hst;have hlet:=h1.lets a b ha hb _ (Zcf hl)
   have hpq:pl s p=a∧pl s q=b:=by
    obtain⟨p',hp',_,_,c⟩:=hlet;have:p'=p:=by omega
    subst this;rcases c with⟨k,c1,q',hq',_,c2⟩ | ⟨k,_⟩ | ⟨k,_⟩ | ⟨k,_⟩ | ⟨k,_⟩
    ·have:q'=q:=by omega
     subst this;exact⟨c1,c2⟩
    all_goals omega
   have hab:a ≠ b:=fun z=>by
    subst z;have:=h1.self a ha;rw [this] at hl;simp at hl
   refine ZDL (L:=σ.ev) _ (Zad hE hq hst) ?_ ?_ ?_
   ·show 0 < σ.ev.countP _;rw [List.countP_pos_iff];refine⟨e,he,?_⟩;rw [e1,e4,e2,e3,hpe,hqe];simp
   ·exact ZmV fun x hx=>by
     by_cases z:x.kZ=2
     ·have hne:x.n ≠ (hd σ (li s a b)).n:=fun z'=>by
       have:=hN.n3 x hx z _ _ _ hg hk z'.symm;omega
      rw [show(x.n== (⟨2,q,p,(hd σ (li s a b)).n⟩:Zd).n)=false from beq_eq_false_iff_ne.2 hne];simp
     ·rw [show(x.kZ==2)=false from beq_eq_false_iff_ne.2 z];rfl
   ·refine ZrZ hS hR hB hq hp (.inr ⟨a,σ.ld (li s a b),ha,by rw [hpq.2];exact hab,?_,?_⟩) _
    ·rw [hpq.2];exact⟨_,hg,hk,hpe⟩
    ·rw [hpq.2];omega
 | @Zdr a b p q=>exact h.congr (X6 (s:=s) p q (drop1 (li s a b) σ)).2.2.2.2.2
 | Zdp=>exact h.congr rfl
 | ZbH=>exact h.congr rfl
 | Zdq=>exact h.congr rfl
 | @ring w i hw hpk=>
   have hi:i < (σ.be w).length:=ZcP _ _ hpk;have hmem:=XT (d:=default) hi;obtain⟨p,hpe,hp,hpw⟩:=h3 w hw _ hmem;obtain⟨⟨_,⟨q,hqe,hq⟩,_⟩,hk⟩:=h1.bea w hw _ hmem
   have hb1:0 < bb s σ p q:=by
    have hc:=ZxF (k:=5) (p:=p) (q:=q) hi;rw [JZ ⟨hk,hpe,hqe⟩] at hc;unfold bb;rw [hpw];omega
   have hd3:=ZOK.dead p q hp hq (by omega);have hle:=ZOK.le p q hp hq;unfold ec at hle;unfold rung;rw [hpe,hqe,Int.toNat_natCast];split
   ·rename_i hst;refine h.add (e:= ⟨4,p,q,0⟩) rfl ⟨Zab hp,Int.le_refl _,.inr (.inl ⟨.inr rfl,Zab hq,rfl⟩)⟩ (ZLI (Zad hE hp hst) ?_ (by omega));rw [hE.e6 q hq,JZ hd3];decide
   ·exact h.congr rfl
structure Zvg (s:Zc) (σ:TS):Prop where
 p1:P1 s σ
 p2:P2 s σ
 p3:P3 s σ
 ki:KI s σ
 er:EvR s σ
 es:EvS s σ
 nu:Num σ
 ba:Bal s σ
 mb:MB s σ
 W9:Mk s σ
 be:Bel s σ
 ru:RuO s σ
theorem Zvg.act (hS:X7 s) (h:Zvg s σ) (ac:Act s σ τ):Zvg s τ:=
 ⟨h.p1.act hS ac,h.p2.act hS ac,h.p3.act h.p1 ac,h.ki.act hS h.p2 ac,h.er.act hS h.p1 ac,h.es.act ac,h.nu.act ac,h.ba.act hS h.p1 h.p2 h.p3 ac,h.mb.act ac,h.W9.act hS h.p1 h.p2 h.ki h.mb ac,h.be.act hS h.p1 h.p2 h.p3 h.ki h.W9 ac,h.ru.act hS h.p1 h.p2 h.p3 h.ki h.er h.es h.nu h.ba h.be ac⟩
theorem inv0 (hS:X7 s):Zvg s ts0:=by
 have h0:=ok0 hS;have nil:∀ {α:Type} (x:α),¬ x ∈ ([]:List α):=fun x h=>by cases h
 have sn:∀ (i j:Nat) (x:Ze),¬ (ts0.sn i)[j]? =some x:=fun i j x h=>by simp [ts0] at h
 exact⟨h0.p1,h0.p2,fun w _ x hx=>absurd hx (nil x),h0.ki,fun e he=>absurd he (nil e),⟨fun p _=>.inl rfl,fun p _=>rfl,fun p _=>rfl,fun e he=>absurd he (nil e)⟩,
  ⟨Int.le_refl _,fun e he=>absurd he (nil e),fun i j x hx=>absurd hx (sn i j x),fun i j x i' j' x' hx=>absurd hx (sn i j x),fun e he=>absurd he (nil e)⟩,
  ⟨fun p q _ _=>Nat.le_refl 0,fun p q _ _ _=>rfl,fun p q _ _ z=>absurd z (Nat.lt_irrefl 0),fun p q _ _ _=>rfl⟩,
  ⟨fun p i _=>by show(0:Int) <=0;omega,fun j x hx=>absurd hx (nil x),fun m x hx=>absurd hx (nil x)⟩,
  ⟨fun q b w j _ _ _ _ _ hM=>absurd hM.choose_spec.1 (sn _ _ _),fun p k _ _ hk=>absurd hk (nil _),fun i j x hx=>absurd hx (sn i j x)⟩,
  ⟨fun a w jb x _ _ hx=>absurd hx (sn _ _ _),fun m _ x hx=>absurd hx (nil x),fun e he=>absurd he (nil e)⟩,
  ⟨fun e he=>absurd he (nil e),fun k hk=>absurd hk (Nat.not_lt_zero _)⟩⟩
theorem ZxH (hS:X7 s) (h:JC s ts0 σ):Zvg s σ:=h.keep (P:=Zvg s) (fun _ _ h ac=>h.act hS ac) (inv0 hS)
end
end
section
theorem Zwu {F:Nat} (hF:100000 <=F) {s:Zc} (hS:X7 s) {l:List Zd} (hl:l.length <=450) (ht:All s l) (hr:∀ k,k < l.length ->QC s (l.take k) (l.getD k default)=0):Zoz F s l=some (-1,0):=by
 unfold Zoz;refine YZ (fun k=>(k:Int)) rfl (n:=l.length) (by omega) (fun k hk next=>?_) (fun next=>?_)
 ·have hlt:(l.take k).length <=450:=by rw [List.length_take];omega
  unfold Zcp;rw [Yf hk,Cq1,Xe default hk,slT (by omega)];simp only [Bq0];rw [ZnI hF hS hlt (ht.take k) (ht k hk),hr k hk];simp only [Bq0];rw [Xp (by omega)];rfl
 ·unfold Zcp;rw [YB,Cq0]
theorem Zkj (s:Zc) (l:List Yc) (picks:List Int) (hpl:picks.length <=9223372036854775807):f7L (1000000 + picks.length) s l picks=some true:=by
 obtain⟨F,eF⟩:∃ F,F=1000000 + picks.length:= ⟨_,rfl⟩
 have hF:1000000 <=F:=by omega
 rw [← eF];unfold f7L;obtain⟨g,hg,hgt⟩:=ZyV (s:=s) (l:=l) hF (pp:= [picks]) (by simp) (fun x hx=>by rw [List.mem_singleton.1 hx];exact⟨by omega,hpl⟩);rw [hg];simp only [Bq0];cases g with
 | false=>rfl
 | true=>
 have hG:=hgt rfl picks (by simp);have hS:=hG.1;obtain⟨n,hn,he,ok,ac,ac2,e2,hdr⟩:=Zq7 hF hG;rw [hdr];simp only [Bool.not_true,Cq0,Bq0,Bool.false_or];obtain⟨σ,hσ⟩:∃ σ,σ=Km s l picks n:= ⟨_,rfl⟩
 rw [← hσ] at he ok ac ac2 e2 ⊢;have hI:=ZxH hS ac;by_cases h4:(σ.ev.length:Int) > 400
 ·rw [decide_eq_true h4];rfl
 ·have hl:σ.ev.length <=450:=by omega
  have ht:All s σ.ev:=fun k hk=>hI.ru.told _ (XT hk)
  rw [decide_eq_false h4];simp only [Bool.not_false,XV,Bool.false_or];rw [Zq3 (by omega) hl,ZR ht,decide_eq_true (show(σ.ev.length:Int) <=400 by omega)];simp only [Bq0,Bool.not_true,Cq0];obtain⟨i,r,e1,e3⟩:=Zqm (F:=F) (by omega) hS hl ht;have e28:=Zwu (F:=F) (by omega) hS hl ht hI.ru.ok;rw [e28] at e1;cases e1;unfold ZCu;rw [Zd5 (by omega),ZR hS];simp only [Bq0,Za7,Bool.false_or];rw [decide_eq_false h4,Cq0,Ztx (by omega) hl,ZR ht,e3];simp only [Bq0,Za7,Bool.or_self,Cq0];rw [e28];rfl
end
end Go.Proofs.YtcnahmgekicbdaaGreat
end
