/- Part 15. -/
import Derived.Test.YtcnahmgekicbdaaGreatEa14
set_option linter.all false
set_option maxHeartbeats 2000000
section
namespace Go.Proofs.YtcnahmgekicbdaaGreat
open Go.Lf
section
def S1 (σ τ:TS):Prop:=∀ (i j:Nat) (x:Zd),x.kW=1 ->((τ.sn i)[j]? =some x↔(σ.sn i)[j]? =some x)
structure Num (σ:TS):Prop where
 n0:0 <=σ.sd
 n1:∀ e ∈ σ.ev,e.kZ=1∨e.kZ=2 ->0 <=e.n∧e.n < σ.sd
 n5:∀ (i j:Nat) (x:Zd),(σ.sn i)[j]? =some x ->x.kW=1 ->0 <=x.n∧x.n < σ.sd∧∃ e ∈ σ.ev,e.kZ=1∧e.kV=x.kV∧e.kX=x.kX∧e.n=x.n
 n6:∀ (i j:Nat) (x:Zd) (i' j':Nat) (x':Zd),(σ.sn i)[j]? =some x ->(σ.sn i')[j']? =some x' ->x.kW=1 ->x'.kW=1 ->x.n=x'.n ->i=i'∧j=j'
 n3:∀ e ∈ σ.ev,e.kZ=2 ->∀ (i j:Nat) (x:Zd),(σ.sn i)[j]? =some x ->x.kW=1 ->x.n=e.n ->j < σ.ld i
section
variable {s:Zb} {σ τ υ:TS} {F B a b p q w i j n d r p0 q0:Nat} {x:Zd} {k:Int} {e:Zg}
theorem S1.refl' (h:τ.sn=σ.sn):S1 σ τ:=fun i j x _=>by rw [h]
theorem S1.trans (h:S1 σ τ) (h':S1 τ υ):S1 σ υ:=fun i j x hx=>(h' i j x hx).trans (h i j x hx)
theorem S1.send (hx:x.kW ≠ 1):S1 σ (Proofs.YtcnahmgekicbdaaGreat.send s a b x σ):=fun i j y hy=>by
 rw [Xl];exact⟨fun z=>z.elim id fun w=>absurd (w.2.2 ▸ hy) hx,.inl⟩
theorem S1.YP (p q:Nat):S1 σ (Proofs.YtcnahmgekicbdaaGreat.YP s p q σ):=by
 unfold Proofs.YtcnahmgekicbdaaGreat.YP;split
 ·exact .refl' rfl
 ·exact .send (by show(5:Int) ≠ 1;decide)
theorem S1.Zr (p:Nat) (l:List Int):S1 σ (Proofs.YtcnahmgekicbdaaGreat.Zr s p l σ):=QW _ (S1 σ) l σ (.refl' rfl) fun τ x _ h=>h.trans (.YP _ _)
theorem S1.note (p q:Nat):S1 σ (Proofs.YtcnahmgekicbdaaGreat.note s p q σ):=by
 unfold Proofs.YtcnahmgekicbdaaGreat.note;split
 ·exact .YP _ _
 ·exact .refl' rfl
theorem S1.ZM (p:Nat):S1 σ (Proofs.YtcnahmgekicbdaaGreat.ZM s p σ):= (S1.Zr (σ:=Proofs.YtcnahmgekicbdaaGreat.Jd p σ) p (σ.wa p)).trans (.refl' rfl)
theorem S1.JU (p:Nat):S1 σ (Proofs.YtcnahmgekicbdaaGreat.JU s p σ):=by
 unfold Proofs.YtcnahmgekicbdaaGreat.JU;split
 ·exact S1.ZM p
 ·split
  ·exact(S1.ZM p).trans (.refl' rfl)
  ·exact(S1.ZM p).trans (.send (by show(4:Int) ≠ 1;decide))
theorem Num.same (h:Num σ) (h1:S1 σ τ) (h2:τ.sd=σ.sd) (h3:∀ i,σ.ld i <=τ.ld i) (h4:∀ e ∈ σ.ev,e ∈ τ.ev) (h5:∀ e ∈ τ.ev,e.kZ=1∨e.kZ=2 ->e ∈ σ.ev):Num τ:=
 ⟨by rw [h2];exact h.n0,fun e he z=>by rw [h2];exact h.n1 e (h5 e he z) z,fun i j x hx hk=>by
   obtain⟨a,b,e,he,c⟩:=h.n5 i j x ((h1 i j x hk).1 hx) hk;exact⟨a,by rw [h2];exact b,e,h4 e he,c⟩,fun i j x i' j' x' hx hx' hk hk'=>h.n6 i j x i' j' x' ((h1 i j x hk).1 hx) ((h1 i' j' x' hk').1 hx') hk hk',fun e he z i j x hx hk hn=>Nat.lt_of_lt_of_le (h.n3 e (h5 e he (.inr z)) z i j x ((h1 i j x hk).1 hx) hk hn) (h3 i)⟩
theorem Num.ev (h:Num σ) (h1:S1 σ τ) (h2:τ.sd=σ.sd) (h3:∀ i,σ.ld i <=τ.ld i) (h4:τ.ev=σ.ev ++ [e]) (d1:e.kZ ≠ 1) (d2:e.kZ ≠ 2):Num τ:=
 h.same h1 h2 h3 (fun y hy=>by rw [h4];exact List.mem_append.2 (.inl hy)) fun y hy z=>by
   rw [h4] at hy;rcases List.mem_append.1 hy with hy | hy
   ·exact hy
   ·rw [List.mem_singleton.1 hy] at z;exact z.elim (fun z=>absurd z d1) fun z=>absurd z d2
theorem Num.eq (h:Num σ) (h1:S1 σ τ) (h2:τ.sd=σ.sd) (h3:∀ i,σ.ld i <=τ.ld i) (h4:τ.ev=σ.ev):Num τ:=
 h.same h1 h2 h3 (fun y hy=>by rw [h4];exact hy) fun y hy _=>by rw [h4] at hy;exact hy
theorem Num.see (h:Num σ) (hn:0 <=k∧k < σ.sd) (hl:∀ (i j:Nat) (x:Zd),(σ.sn i)[j]? =some x ->x.kW=1 ->x.n=k ->j < σ.ld i) (p q:Nat):Num (Proofs.YtcnahmgekicbdaaGreat.see p q k σ):=by
 unfold Proofs.YtcnahmgekicbdaaGreat.see;split
 ·refine⟨h.n0,fun e he z=>?_,fun i j x hx hk=>?_,h.n6,fun e he z i j x hx hk hn'=>?_⟩
  ·have he:e ∈ σ.ev ++ [⟨2,p,q,k⟩]:=he;rcases List.mem_append.1 he with he | he
   ·exact h.n1 e he z
   ·rw [List.mem_singleton.1 he];exact hn
  ·obtain⟨a,b,e,he,c⟩:=h.n5 i j x hx hk;exact⟨a,b,e,List.mem_append.2 (.inl he),c⟩
  ·have he:e ∈ σ.ev ++ [⟨2,p,q,k⟩]:=he;rcases List.mem_append.1 he with he | he
   ·exact h.n3 e he z i j x hx hk hn'
   ·rw [List.mem_singleton.1 he] at hn';exact hl i j x hx hk hn'
 ·exact h
theorem Num.kK (h:Num σ) (p q:Nat):Num (Proofs.YtcnahmgekicbdaaGreat.kK p q σ)∧∀ (i j:Nat) (x:Zd),(σ.sn i)[j]? =some x ->x.kW=1 ->x.n ≠ σ.sd:=by
 have h0:=h.n0;have key:∀ (i j:Nat) (x:Zd),(σ.sn i)[j]? =some x ->x.kW=1 ->x.n ≠ σ.sd:=fun i j x hx hk e=>by have:= (h.n5 i j x hx hk).2.1;omega
 have ev:(Proofs.YtcnahmgekicbdaaGreat.kK p q σ).ev=σ.ev ++ [⟨1,p,q,σ.sd⟩]:=rfl;have sd:(Proofs.YtcnahmgekicbdaaGreat.kK p q σ).sd=σ.sd + 1:=rfl;refine⟨⟨by rw [sd];omega,fun e he z=>?_,fun i j x hx hk=>?_,h.n6,fun e he z i j x hx hk hn=>?_⟩,key⟩
 ·rw [ev] at he;rw [sd];rcases List.mem_append.1 he with he | he
  ·have:=h.n1 e he z;omega
  ·rw [List.mem_singleton.1 he];show 0 <=σ.sd∧σ.sd < σ.sd + 1;omega
 ·obtain⟨a,b,e,he,c⟩:=h.n5 i j x hx hk;exact⟨a,by rw [sd];omega,e,by rw [ev];exact List.mem_append.2 (.inl he),c⟩
 ·rw [ev] at he;rcases List.mem_append.1 he with he | he
  ·exact h.n3 e he z i j x hx hk hn
  ·rw [List.mem_singleton.1 he] at z;exact absurd z (by show ¬ (1:Int)=2;decide)
theorem Wq (i:Nat):∀ j,σ.ld j <= (drop1 i σ).ld j:=fun j=>by
 show _ <=Z0 σ.ld i (σ.ld i + 1) j;by_cases e:j=i
 ·subst e;rw [Zq];omega
 ·rw [Zz e];exact Nat.le_refl _
theorem Zee (hl:σ.ld i < (σ.sn i).length):(σ.sn i)[σ.ld i]? =some (hd σ i):=by
 unfold hd;rw [List.getD_eq_getElem?_getD,List.getElem?_eq_getElem hl];rfl
theorem Num.act (h:Num σ) (ac:Act s σ τ):Num τ:=by
 have r0:∀ i,σ.ld i <=σ.ld i:=fun _=>Nat.le_refl _
 cases ac with
 | @fall p=>exact h.ev (e:= ⟨5,p,0,0⟩) (.refl' rfl) rfl r0 rfl (by show(5:Int) ≠ 1;decide) (by show(5:Int) ≠ 2;decide)
 | Ux=>exact h.eq (.send (by show(3:Int) ≠ 1;decide)) rfl r0 rfl
 | @die p hp h2 hA=>
   have sA:=Qj (s:=s) p σ
   have e1:(Proofs.YtcnahmgekicbdaaGreat.JU s p σ).sd=σ.sd∧(Proofs.YtcnahmgekicbdaaGreat.JU s p σ).ld=σ.ld∧(Proofs.YtcnahmgekicbdaaGreat.JU s p σ).ev=σ.ev ++ [⟨6,(p:Int),0,0⟩]:=by
    unfold Proofs.YtcnahmgekicbdaaGreat.JU;split
    ·exact⟨sA.2.2.2.1,sA.2.2.1,sA.2.2.2.2.1⟩
    ·split
     ·exact⟨sA.2.2.2.1,sA.2.2.1,sA.2.2.2.2.1⟩
     ·exact⟨sA.2.2.2.1,sA.2.2.1,sA.2.2.2.2.1⟩
   exact h.ev (.JU p) e1.1 (by rw [e1.2.1];exact r0) e1.2.2 (by show(6:Int) ≠ 1;decide) (by show(6:Int) ≠ 2;decide)
 | @Zbe p q=>
   obtain⟨h1,h2⟩:=h.kK p q;exact h1.see ⟨h.n0,by show σ.sd < σ.sd + 1;omega⟩ (fun i j x hx hk hn=>absurd hn (h2 i j x hx hk)) _ _
 | @Zbd p q hp hq hst e0=>
   obtain⟨h1,h2⟩:=h.kK p q;have h0:=h.n0;refine⟨h1.n0,h1.n1,fun i j x hx hk=>?_,fun i j x i' j' x' hx hx' hk hk' hn=>?_,fun e he z i j x hx hk hn=>?_⟩
   ·rcases Xl.1 hx with hx | ⟨_,_,rfl⟩
    ·exact h1.n5 i j x hx hk
    ·exact⟨h0,by show σ.sd < σ.sd + 1;omega,⟨1,p,q,σ.sd⟩,List.mem_append.2 (.inr (by simp)),rfl,rfl,rfl,rfl⟩
   ·rcases Xl.1 hx with hx | ⟨a1,a2,rfl⟩
    ·rcases Xl.1 hx' with hx' | ⟨b1,b2,rfl⟩
     ·exact h1.n6 i j x i' j' x' hx hx' hk hk' hn
     ·exact absurd hn (h2 i j x hx hk)
    ·rcases Xl.1 hx' with hx' | ⟨b1,b2,rfl⟩
     ·exact absurd hn.symm (h2 i' j' x' hx' hk')
     ·subst a1;subst b1;exact⟨rfl,by omega⟩
   ·rcases Xl.1 hx with hx | ⟨_,_,rfl⟩
    ·exact h1.n3 e he z i j x hx hk hn
    ·exfalso;have he:e ∈ σ.ev ++ [⟨1,p,q,σ.sd⟩]:=he;rcases List.mem_append.1 he with he | he
     ·have:= (h.n1 e he (.inr z)).2;have hn:σ.sd=e.n:=hn;omega
     ·rw [List.mem_singleton.1 he] at z;exact absurd z (by show ¬ (1:Int)=2;decide)
 | @Za9 p q=>
   have z:=Xf (s:=s) p q (tell 3 p q 0 σ);exact h.ev (e:= ⟨3,p,q,0⟩) ((S1.refl' (σ:=σ) (τ:=tell 3 p q 0 σ) rfl).trans (.note p q)) z.2.2.2.2.1 (by rw [z.2.2.2.1];exact r0) z.2.2.2.2.2 (by show(3:Int) ≠ 1;decide) (by show(3:Int) ≠ 2;decide)
 | @Za8 p q=>exact h.ev (e:= ⟨3,p,q,0⟩) ((S1.refl' (σ:=σ) (τ:=tell 3 p q 0 σ) rfl).trans (.send (by show(2:Int) ≠ 1;decide))) rfl r0 rfl (by show(3:Int) ≠ 1;decide) (by show(3:Int) ≠ 2;decide)
 | @Zbs a b p q ha hb hl hk=>
   have h1:Num (drop1 (li s a b) σ):=h.eq (.refl' rfl) rfl (Wq _) rfl;have hg:=Zee hl;obtain⟨n1,n2,_⟩:=h.n5 _ _ _ hg hk;refine h1.see ⟨n1,n2⟩ (fun i j x hx hk' hn=>?_) _ _;obtain⟨rfl,rfl⟩:=h.n6 _ _ _ _ _ _ hx hg hk' hk hn;show _ < Z0 σ.ld (li s a b) (σ.ld (li s a b) + 1) (li s a b);rw [Zq];omega
 | @Zbu a b p q=>
   have z:=Xf (s:=s) p q (drop1 (li s a b) σ);exact h.eq ((S1.refl' (σ:=σ) (τ:=drop1 (li s a b) σ) rfl).trans (.note p q)) z.2.2.2.2.1 (by rw [z.2.2.2.1];exact Wq _) z.2.2.2.2.2
 | ZaM=>exact h.eq (.refl' rfl) rfl (Wq _) rfl
 | Zau=>exact h.eq (.refl' rfl) rfl (Wq _) rfl
 | Zbt=>exact h.eq (.refl' rfl) rfl (Wq _) rfl
 | @ring w i=>
   have z:=Qi s w i σ;have hs:S1 σ (rung s w i σ):= .refl' z.2.2.2.2.2.1;unfold rung at hs ⊢;split at hs
   ·rename_i hst;rw [if_pos hst];exact h.ev (e:= ⟨4,_,_,0⟩) hs rfl r0 rfl (by show(4:Int) ≠ 1;decide) (by show(4:Int) ≠ 2;decide)
   ·rename_i hst;rw [if_neg hst];exact h.eq hs rfl r0 rfl
end
end
section
section
variable {s:Zb} {σ τ υ:TS} {F B a b p q w i j n d r p0 q0:Nat} {x:Zd} {k:Int} {e:Zg}
theorem ZHH (hS:Xk s) (hp:p < nn s):inn s (p:Int) ≠ (p:Int):=fun e=>by
 have:∀ k,up s k (p:Int)= (p:Int):=fun k=>by
  induction k with
  | zero=>rfl
  | succ k ih=>rw [Ui,ih,if_neg (by omega),e]
 have h:=WW hS hp;rw [this] at h;omega
theorem ZPd (hS:Xk s) (kn:Kn s σ) (ki:KI s σ) (hk:q < nn s) (h3:σ.st q=3) (ac:Act s σ τ):τ.ma q=σ.ma q:=by
 have alive:∀ p,p < nn s ->0 <=inn s (p:Int) ->(σ.st p ≠ 3∨(p:Int) ∉ σ.kn (inn s (p:Int)).toNat) ->q ≠ (inn s (p:Int)).toNat:=fun p hp h0 c e=>by
  obtain⟨eq,hq⟩:=X6 hS hp (by omega);have hk4:=ki.k4 q hk h3 p hp (by rw [e];exact eq);rw [e] at hk4;rcases c with c | c
  ·obtain⟨k,ek,_,_,hd⟩:=kn.rng _ hq _ hk4;have:p=k:=by omega
   subst this;exact c hd
  ·exact c hk4
 cases ac with
 | fall=>rfl
 | Ux=>rfl
 | @die p hp h2 hA=>
   have hqp:q ≠ p:=fun e=>by subst e;rw [h2] at h3;cases h3
   have hA:(ZM s p σ).ma q=σ.ma q:=by
    show Z0 (Zr s p (σ.wa p) (Jd p σ)).ma p _ q=_;rw [Zz hqp,(ZcS (s:=s) p (σ.wa p) (Jd p σ)).2.2.1];rfl
   unfold JU;by_cases h0:inn s (p:Int) < 0
   ·rw [if_pos h0];exact hA
   ·rw [if_neg h0];split
    ·show Z0 (ZM s p σ).ma (inn s (p:Int)).toNat _ q=_;rw [Zz (alive p hp (by omega) (.inl (by rw [h2];decide)))];exact hA
    ·exact hA
 | Zbe=>rw [(XT _ _ _ _).2.2.1];rfl
 | Zbd=>rfl
 | Za9=>rw [(Xf _ _ _).2.2.1];rfl
 | Za8=>rfl
 | Zbs=>rw [(XT _ _ _ _).2.2.1];rfl
 | Zbu=>rw [(Xf _ _ _).2.2.1];rfl
 | ZaM=>rfl
 | @Zau a b p ha hb hl hk' hp hpn h0 hm h3' hn=>
   show Z0 σ.ma (inn s (p:Int)).toNat _ q=_;rw [Zz (alive p hpn h0 (.inr hn))]
 | Zbt=>rfl
 | ring=>rw [(Qi _ _ _ _).2.2.2.2.1]
def Msg (s:Zb) (σ:TS) (q b w j:Nat):Prop:=∃ x:Zd,(σ.sn (li s b w))[j]? =some x∧x.kW=1∧x.kV= (q:Int)
theorem Msg.s1 (h:S1 σ τ):Msg s τ q b w j↔Msg s σ q b w j:=
 ⟨fun⟨x,h1,h2,h3⟩=>⟨x,(h _ _ _ h2).1 h1,h2,h3⟩,fun⟨x,h1,h2,h3⟩=>⟨x,(h _ _ _ h2).2 h1,h2,h3⟩⟩
theorem Msg.lt (h:Msg s σ q b w j):j < (σ.sn (li s b w)).length:=by
 obtain⟨x,h1,_⟩:=h;exact(Li0 h1).1
structure Mk (s:Zb) (σ:TS):Prop where
 m1:∀ q b w j,q < nn s ->b < mm s ->w < mm s ->b ≠ w ->σ.st q=3 ->Msg s σ q b w j ->(j:Int) < σ.ma q (li s b w)
 m2:∀ p k:Nat,p < nn s ->k < nn s ->(k:Int) ∈ σ.kn p ->∀ i,i < mm s * mm s ->σ.ma k i <=σ.ma p i
 l4:∀ (i j:Nat) (x:Zd),(σ.sn i)[j]? =some x ->x.kW=4 ->∀ k:Nat,x.kV= (k:Int) ->∀ i',i' < mm s * mm s ->x.qX.getD i' 0=σ.ma k i'
theorem ZAV {hS:Xk s} (hp:p < nn s) (h:Wth s r p) (hne:p ≠ r):∃ c:Nat,c < nn s∧inn s (c:Int)= (r:Int)∧Wth s c p:=by
 obtain⟨j,e⟩:=h
 induction j generalizing r with
 | zero=>exact absurd (by have:(p:Int)=r:=e;omega) hne
 | succ j ih=>
   rw [Ui] at e;by_cases h0:up s j (p:Int) < 0
   ·rw [if_pos h0] at e;omega
   ·rw [if_neg h0] at e;obtain⟨c,hc⟩:∃ c:Nat,up s j (p:Int)= (c:Int):= ⟨(up s j (p:Int)).toNat,by omega⟩
    refine⟨c,?_,by rw [← hc];exact e,j,hc⟩;have hok:=ZlO hS.inn.rng hp (k:=j);rw [hc] at hok;have:=hok.2;show c < s.Zf.length;omega
theorem Mk.chain (hS:Xk s) (ki:KI s σ) (kn:Kn s σ) (h:Mk s σ) (hi:i < mm s * mm s):∀ (m q r:Nat),q < nn s ->r < nn s ->σ.st r=3 ->up s m (q:Int)= (r:Int) ->σ.ma q i <=σ.ma r i:=by
 intro m
 induction m with
 | zero=>intro q r hq hr _ e;have:q=r:=by have:(q:Int)=r:=e;omega
         rw [this];exact Int.le_refl _
 | succ m ih=>
   intro q r hq hr h3 e;have e':(if(q:Int) < 0 then(q:Int) else up s m (inn s (q:Int)))= (r:Int):=e;rw [if_neg (by omega)] at e';by_cases h0:inn s (q:Int) < 0
   ·rw [ZfK h0] at e';omega
   ·obtain⟨eq,hq'⟩:=X6 hS hq h0;rw [eq] at e';have h3':=ZhD hS kn ki hr h3 m _ hq' e';have h1:=ih _ r hq' hr h3 e';have h2:=h.m2 _ q hq' hq (ki.k4 _ hq' h3' q hq eq) i hi;omega
theorem ZHq (hb:b < mm s):li s a b / mm s=a∧li s a b % mm s=b:=by
 have:= (WB hb).1 (show li s a b=a * mm s + b from rfl);exact⟨this.1,this.2⟩
theorem Mk.act (hS:Xk s) (h1:P1 s σ) (h2:P2 s σ) (ki:KI s σ) (hM:MB s σ) (h:Mk s σ) (ac:Act s σ τ):Mk s τ:=by
 have kn:=h2.kn;have fz:=fun q hq h3=>ZPd (q:=q) hS kn ki hq h3 ac
 have same:S1 σ τ ->S4 σ τ ->(∀ q,q < nn s ->τ.st q=3 ->σ.st q=3) ->τ.kn=σ.kn ->τ.ma=σ.ma ->Mk s τ:=fun c1 c4 c3 ck cm=>
  ⟨fun q b w j hq hb hw hne h3 hm=>by rw [cm];exact h.m1 q b w j hq hb hw hne (c3 q hq h3) ((Msg.s1 c1).1 hm),by rw [ck,cm];exact h.m2,fun i j x hx hk k hkp=>by rw [cm];exact h.l4 i j x ((c4 i j x hk).1 hx) hk k hkp⟩
 cases ac with
 | @fall p hp hst=>
   refine same (.refl' rfl) (.refl' rfl) (fun q _ h3=>?_) rfl rfl;have h3:Z0 σ.st p 2 q=3:=h3;by_cases e:q=p
   ·subst e;rw [Zq] at h3;cases h3
   ·rwa [Zz e] at h3
 | Ux=>exact same (.send (by show(3:Int) ≠ 1;decide)) (.send (by show(3:Int) ≠ 4;decide)) (fun _ _ z=>z) rfl rfl
 | @die p hp hst hA=>
   have sA:=Qj (s:=s) p σ;have c1:S1 σ (ZM s p σ):=S1.ZM p;have c4:S4 σ (ZM s p σ):=S4.ZM p;have up:=SnM.ZM (s:=s) (σ:=σ) p
   have maP:∀ i,i < mm s * mm s ->(ZM s p σ).ma p i=if i / mm s=pl s p∧i % mm s < mm s∧i % mm s ≠ pl s p then(((ZM s p σ).sn i).length:Int) else σ.ma p i:=fun i _=>by
    show Z0 (Zr s p (σ.wa p) (Jd p σ)).ma p (ZdJ s (Zr s p (σ.wa p) (Jd p σ)) p (mm s)) p i=_;rw [Zq];unfold ZdJ;rw [(ZcS (s:=s) p (σ.wa p) (Jd p σ)).2.2.1];rfl
   have maQ:∀ q,q ≠ p ->(ZM s p σ).ma q=σ.ma q:=fun q e=>by
    show Z0 (Zr s p (σ.wa p) (Jd p σ)).ma p _ q=_;rw [Zz e,(ZcS (s:=s) p (σ.wa p) (Jd p σ)).2.2.1];rfl
   have ZRF:∀ i,i < mm s * mm s ->σ.ma p i <= (ZM s p σ).ma p i:=fun i hi=>by
    rw [maP i hi];split
    ·exact Int.le_trans (hM.ma p i hi) (Int.ofNat_le.2 (up i))
    ·exact Int.le_refl _
   have hA':Mk s (ZM s p σ):=by
    refine⟨fun q b w j hq hb hw hne h3 hm=>?_,fun q k hq hk hkn i hi=>?_,fun i j x hx hk k hkp i' hi'=>?_⟩
    ·by_cases e:q=p
     ·subst e;obtain⟨x,hx,hxk,hxp⟩:= (Msg.s1 c1).1 hm;have hlet:=h1.lets b w hb hw x (List.mem_of_getElem? hx)
      have hpb:pl s q=b:=by
       obtain⟨p',e1,_,_,c⟩:=hlet;have:p'=q:=by omega
       subst this;rcases c with⟨_,c,_⟩ | ⟨k,_⟩ | ⟨k,_⟩ | ⟨k,_⟩ | ⟨k,_⟩
       ·exact c
       all_goals omega
      obtain⟨d1,d2⟩:=ZHq (s:=s) (a:=b) hw;rw [maP _ (J3 hb hw),if_pos ⟨by rw [d1,hpb],by rw [d2];exact hw,by rw [d2,hpb];exact fun z=>hne z.symm⟩];exact Int.ofNat_lt.2 hm.lt
     ·rw [maQ q e];rw [sA.1,Zz e] at h3;exact h.m1 q b w j hq hb hw hne h3 ((Msg.s1 c1).1 hm)
    ·rw [sA.2.1] at hkn
     have hkd:σ.st k=3:=by
      obtain⟨k',ek,_,_,hd⟩:=kn.rng q hq _ hkn;have:k=k':=by omega
      rw [this];exact hd
     have hkp:k ≠ p:=fun e=>by subst e;rw [hst] at hkd;cases hkd
     rw [maQ k hkp];have:=h.m2 q k hq hk hkn i hi;by_cases e:q=p
     ·subst e;exact Int.le_trans this (ZRF i hi)
     ·rw [maQ q e];exact this
    ·have hx':= (c4 i j x hk).1 hx;obtain⟨k',e1,e2,e3,_⟩:=ki.k1 i j x hx' hk;have hkk:k=k':=by omega
     have hne:k ≠ p:=fun e=>by rw [← hkk,e,hst] at e3;cases e3
     rw [maQ k hne];exact h.l4 i j x hx' hk k hkp i' hi'
   have fz':=fz;unfold JU at fz' ⊢;by_cases h0:inn s (p:Int) < 0
   ·rw [if_pos h0];exact hA'
   ·rw [if_neg h0] at fz' ⊢;obtain⟨eq,UI⟩:=X6 hS hp h0
    have hal:σ.st (inn s (p:Int)).toNat ≠ 3:=fun z=>by
     have:=ki.k4 _ UI z p hp eq;obtain⟨k,ek,_,_,hd⟩:=kn.rng _ UI _ this;have:p=k:=by omega
     subst this;rw [hst] at hd;cases hd
    have hpq:(inn s (p:Int)).toNat ≠ p:=fun z=>by
     have:=WW hS hp;exact absurd (by rw [eq,z]:inn s (p:Int)= (p:Int)) (ZHH hS hp)
    by_cases c:pl s (inn s (p:Int)).toNat=pl s p
    ·rw [if_pos c] at fz' ⊢;have mq:∀ q,q ≠ (inn s (p:Int)).toNat ->(Yb s p (UH s (ZM s p σ) p) (ZM s p σ)).ma q= (ZM s p σ).ma q:=fun q e=>Zz e
     have mi:∀ i,i < mm s * mm s ->(Yb s p (UH s (ZM s p σ) p) (ZM s p σ)).ma (inn s (p:Int)).toNat i=if(ZM s p σ).ma p i > (ZM s p σ).ma (inn s (p:Int)).toNat i then(ZM s p σ).ma p i else(ZM s p σ).ma (inn s (p:Int)).toNat i:=fun i hi=>by
      show Z0 (ZM s p σ).ma (inn s (p:Int)).toNat (mx _ _) (inn s (p:Int)).toNat i=_;rw [Zq];unfold mx;rw [Zdi hi]
     refine⟨fun q b w j hq hb hw hne h3 hm=>?_,fun q k hq hk hkn i hi=>?_,fun i j x hx hk k hkp i' hi'=>?_⟩
     ·have e:q ≠ (inn s (p:Int)).toNat:=fun z=>by
       have h3:(ZM s p σ).st q=3:=h3;rw [sA.1,z,Zz hpq] at h3;exact hal h3
      rw [mq q e];exact hA'.m1 q b w j hq hb hw hne h3 hm
     ·have hkn':(k:Int) ∈ Z0 (ZM s p σ).kn (inn s (p:Int)).toNat (ins (p:Int) ((ZM s p σ).kn (inn s (p:Int)).toNat)) q:=hkn;have hki:k ≠ (inn s (p:Int)).toNat ->(Yb s p (UH s (ZM s p σ) p) (ZM s p σ)).ma k i= (ZM s p σ).ma k i:=fun e=>by rw [mq k e]
      by_cases e:q= (inn s (p:Int)).toNat
      ·subst e;rw [Zq] at hkn';rcases Ws.1 hkn' with z | z
       ·have:k=p:=by omega
        subst this;rw [mi i hi,hki (fun z=>hpq z.symm)];split <;> omega
       ·have hke:k ≠ (inn s (p:Int)).toNat:=fun zz=>by
         rw [sA.2.1] at z;obtain⟨k',ek,_,_,hd⟩:=kn.rng _ UI _ z;have:k=k':=by omega
         rw [← this,zz] at hd;exact hal hd
        have:=hA'.m2 _ k hq hk z i hi;rw [mi i hi,hki hke];split <;> omega
      ·rw [Zz e] at hkn'
       have hke:k ≠ (inn s (p:Int)).toNat:=fun zz=>by
        rw [sA.2.1] at hkn';obtain⟨k',ek,_,_,hd⟩:=kn.rng q hq _ hkn';have:k=k':=by omega
        rw [← this,zz] at hd;exact hal hd
       rw [mq q e,hki hke];exact hA'.m2 q k hq hk hkn' i hi
     ·have hx':= (c4 i j x hk).1 hx;obtain⟨k',e1,e2,e3,_⟩:=ki.k1 i j x hx' hk;have hkk:k=k':=by omega
      have hne:k ≠ (inn s (p:Int)).toNat:=fun e=>by rw [← hkk,e] at e3;exact hal e3
      rw [mq k hne];exact hA'.l4 i j x hx hk k hkp i' hi'
    ·rw [if_neg c] at fz' ⊢;refine⟨fun q b w j hq hb hw hne h3 hm=>hA'.m1 q b w j hq hb hw hne h3 ((Msg.s1 (S1.send (by show(4:Int) ≠ 1;decide))).1 hm),hA'.m2,fun i j x hx hk k hkp i' hi'=>?_⟩;rcases Xl.1 hx with hx | ⟨_,_,rfl⟩
     ·exact hA'.l4 i j x hx hk k hkp i' hi'
     ·have:p=k:=by have:(p:Int)=k:=hkp;omega
      subst this;exact Zdi hi'
 | @Zbe p q hp hq hst e0=>
   have z:=XT q p σ.sd (kK p q σ);exact same (.refl' z.2.2.2.2.1) (.refl' z.2.2.2.2.1) (fun q _ h3=>by rw [z.1] at h3;exact h3) z.2.1 z.2.2.1
 | @Zbd p q hp hq hst e0=>
   refine⟨fun q' b w j hq' hb hw hne h3 hm=>?_,h.m2,fun i j x hx hk k hkp=>?_⟩
   ·obtain⟨x,hx,hxk,hxp⟩:=hm;rcases Xl.1 hx with hx | ⟨_,_,rfl⟩
    ·exact h.m1 q' b w j hq' hb hw hne h3 ⟨x,hx,hxk,hxp⟩
    ·have:p=q':=by have:(p:Int)=q':=hxp;omega
     subst this;have h3:σ.st p=3:=h3;rw [hst] at h3;cases h3
   ·rcases Xl.1 hx with hx | ⟨_,_,rfl⟩
    ·exact h.l4 i j x hx hk k hkp
    ·exact absurd hk (by show ¬ (1:Int)=4;decide)
 | @Za9 p q=>
   have z:=Xf (s:=s) p q (tell 3 p q 0 σ);exact same ((S1.refl' (σ:=σ) (τ:=tell 3 p q 0 σ) rfl).trans (.note p q)) ((S4.refl' (σ:=σ) (τ:=tell 3 p q 0 σ) rfl).trans (.note p q)) (fun q _ h3=>by rw [z.1] at h3;exact h3) z.2.1 z.2.2.1
 | @Za8 p q=>exact same ((S1.refl' (σ:=σ) (τ:=tell 3 p q 0 σ) rfl).trans (.send (by show(2:Int) ≠ 1;decide))) ((S4.refl' (σ:=σ) (τ:=tell 3 p q 0 σ) rfl).trans (.send (by show(2:Int) ≠ 4;decide))) (fun _ _ z=>z) rfl rfl
 | @Zbs a b p q=>
   have z:=XT q p (hd σ (li s a b)).n (drop1 (li s a b) σ);exact same (.refl' z.2.2.2.2.1) (.refl' z.2.2.2.2.1) (fun q _ h3=>by rw [z.1] at h3;exact h3) z.2.1 z.2.2.1
 | @Zbu a b p q=>
   have z:=Xf (s:=s) p q (drop1 (li s a b) σ);exact same ((S1.refl' (σ:=σ) (τ:=drop1 (li s a b) σ) rfl).trans (.note p q)) ((S4.refl' (σ:=σ) (τ:=drop1 (li s a b) σ) rfl).trans (.note p q)) (fun q _ h3=>by rw [z.1] at h3;exact h3) z.2.1 z.2.2.1
 | ZaM=>exact same (.refl' rfl) (.refl' rfl) (fun _ _ z=>z) rfl rfl
 | @Zau a b p ha hb hl hk hp hpn h0 hm h3 hn=>
   obtain⟨eq,UI⟩:=X6 hS hpn (by omega);have hal:σ.st (inn s (p:Int)).toNat ≠ 3:=fun z=>hn (ki.k4 _ UI z p hpn eq)
   have hl4:=h.l4 _ _ _ (Zee hl) hk p hp;have mq:∀ q,q ≠ (inn s (p:Int)).toNat ->(Yb s p (hd σ (li s a b)).qX (drop1 (li s a b) σ)).ma q=σ.ma q:=fun q e=>Zz e
   have mi:∀ i,i < mm s * mm s ->(Yb s p (hd σ (li s a b)).qX (drop1 (li s a b) σ)).ma (inn s (p:Int)).toNat i=if σ.ma p i > σ.ma (inn s (p:Int)).toNat i then σ.ma p i else σ.ma (inn s (p:Int)).toNat i:=fun i hi=>by
    show Z0 σ.ma (inn s (p:Int)).toNat (mx _ _) (inn s (p:Int)).toNat i=_;rw [Zq];unfold mx;rw [hl4 i hi];rfl
   have hpq:p ≠ (inn s (p:Int)).toNat:=fun z=>by rw [← z] at hal;exact hal h3
   refine⟨fun q b w j hq hb hw hne h3 hm=>?_,fun q k hq hk hkn i hi=>?_,fun i j x hx hk k hkp i' hi'=>?_⟩
   ·have e:q ≠ (inn s (p:Int)).toNat:=fun z=>by
     have h3:σ.st q=3:=h3;rw [z] at h3;exact hal h3
    rw [mq q e];exact h.m1 q b w j hq hb hw hne h3 hm
   ·have hkn':(k:Int) ∈ Z0 σ.kn (inn s (p:Int)).toNat (ins (p:Int) (σ.kn (inn s (p:Int)).toNat)) q:=hkn;by_cases e:q= (inn s (p:Int)).toNat
    ·subst e;rw [Zq] at hkn';rcases Ws.1 hkn' with z | z
     ·have:k=p:=by omega
      subst this;rw [mi i hi,mq k hpq];split <;> omega
     ·have hke:k ≠ (inn s (p:Int)).toNat:=fun zz=>by
       obtain⟨k',ek,_,_,hd⟩:=kn.rng _ UI _ z;have:k=k':=by omega
       rw [← this,zz] at hd;exact hal hd
      have:=h.m2 _ k hq hk z i hi;rw [mi i hi,mq k hke];split <;> omega
    ·rw [Zz e] at hkn'
     have hke:k ≠ (inn s (p:Int)).toNat:=fun zz=>by
      obtain⟨k',ek,_,_,hd⟩:=kn.rng q hq _ hkn';have:k=k':=by omega
      rw [← this,zz] at hd;exact hal hd
     rw [mq q e,mq k hke];exact h.m2 q k hq hk hkn' i hi
   ·obtain⟨k',e1,e2,e3,_⟩:=ki.k1 i j x hx hk;have hkk:k=k':=by omega
    have hne:k ≠ (inn s (p:Int)).toNat:=fun e=>by rw [← hkk,e] at e3;exact hal e3
    rw [mq k hne];exact h.l4 i j x hx hk k hkp i' hi'
 | Zbt=>exact same (.refl' rfl) (.refl' rfl) (fun _ _ z=>z) rfl rfl
 | @ring w i=>
   have z:=Qi s w i σ;exact same (.refl' z.2.2.2.2.2.1) (.refl' z.2.2.2.2.2.1) (fun q _ h3=>by rw [z.2.2.1] at h3;exact h3) z.2.2.2.1 z.2.2.2.2.1
end
end
section
structure Bel (s:Zb) (σ:TS):Prop where
 bl:∀ (a w jb:Nat) (x:Zd),a < mm s ->w < mm s ->(σ.sn (li s a w))[jb]? =some x ->x.kW=5 ->∀ r:Nat,x.kX= (r:Int) ->r < nn s ->σ.st r=3∧∀ q b j,q < nn s ->Wth s r q ->b < mm s ->b ≠ w ->Msg s σ q b w j ->(j:Int) < x.qX.getD (li s b w) 0∨(b=a∧j < jb)
 bw:∀ m,m < mm s ->∀ x ∈ σ.be m,∀ r:Nat,x.kX= (r:Int) ->r < nn s ->σ.st r=3∧∀ q b j,q < nn s ->Wth s r q ->b < mm s ->b ≠ m ->Msg s σ q b m j ->(j:Int) < x.qX.getD (li s b m) 0∨j < σ.ld (li s b m)
 hh:∀ e ∈ σ.ev,e.kZ=4 ->∀ y r:Nat,e.kV= (y:Int) ->e.kX= (r:Int) ->y < nn s ->r < nn s ->∀ q,q < nn s ->Wth s r q ->σ.st q=3∧∀ b j,b < mm s ->b ≠ pl s y ->Msg s σ q b (pl s y) j ->j < σ.ld (li s b (pl s y))
section
variable {s:Zb} {σ τ υ:TS} {F B a b p q w i j n d r p0 q0 y:Nat} {x:Zd} {k:Int} {e:Zg}
def S5 (σ τ:TS):Prop:=∀ (i j:Nat) (x:Zd),x.kW=5 ->((τ.sn i)[j]? =some x↔(σ.sn i)[j]? =some x)
theorem S5.refl' (h:τ.sn=σ.sn):S5 σ τ:=fun i j x _=>by rw [h]
theorem S5.send (hx:x.kW ≠ 5):S5 σ (Proofs.YtcnahmgekicbdaaGreat.send s a b x σ):=fun i j y hy=>by
 rw [Xl];exact⟨fun z=>z.elim id fun w=>absurd (w.2.2 ▸ hy) hx,.inl⟩
theorem Bel.same (h:Bel s σ) (hm:∀ q b w j,q < nn s ->σ.st q=3 ->Msg s τ q b w j ->Msg s σ q b w j) (h5:S5 σ τ) (h3:∀ q,q < nn s ->σ.st q=3 ->τ.st q=3) (hl:∀ i,σ.ld i <=τ.ld i) (hb:∀ m,∀ x ∈ τ.be m,x ∈ σ.be m) (he:∀ e ∈ τ.ev,e.kZ=4 ->e ∈ σ.ev)
 (hd:∀ r q,r < nn s ->q < nn s ->σ.st r=3 ->Wth s r q ->σ.st q=3):Bel s τ:=by
 refine⟨fun a w jb x ha hw hx hk r hr hrn=>?_,fun m hm' x hx r hr hrn=>?_,fun e he' z y r hy hr hyn hrn q hq hW=>?_⟩
 ·obtain⟨c1,c2⟩:=h.bl a w jb x ha hw ((h5 _ _ _ hk).1 hx) hk r hr hrn;exact⟨h3 r hrn c1,fun q b j hq hW hb' hne hM=>c2 q b j hq hW hb' hne (hm q b w j hq (hd r q hrn hq c1 hW) hM)⟩
 ·obtain⟨c1,c2⟩:=h.bw m hm' x (hb m x hx) r hr hrn;exact⟨h3 r hrn c1,fun q b j hq hW hb' hne hM=>(c2 q b j hq hW hb' hne (hm q b m j hq (hd r q hrn hq c1 hW) hM)).imp id fun z=>Nat.lt_of_lt_of_le z (hl _)⟩
 ·obtain⟨c1,c2⟩:=h.hh e (he e he' z) z y r hy hr hyn hrn q hq hW;exact⟨h3 q hq c1,fun b j hb' hne hM=>Nat.lt_of_lt_of_le (c2 b j hb' hne (hm q b _ j hq c1 hM)) (hl _)⟩
def HB (s:Zb) (σ:TS) (r:Nat):Prop:=∀ q b w j,q < nn s ->Wth s r q ->b < mm s ->w < mm s ->b ≠ w ->Msg s σ q b w j ->(j:Int) < σ.ma r (li s b w)∨b=pl s r
theorem Bel.YP (hS:Xk s) (h:Bel s σ) (hy:y < nn s) (hr:r < nn s) (h3:σ.st r=3) (hB:HB s σ r):Bel s (Proofs.YtcnahmgekicbdaaGreat.YP s y r σ):=by
 unfold Proofs.YtcnahmgekicbdaaGreat.YP;by_cases e:pl s y=pl s r
 ·rw [if_pos e];refine⟨h.bl,fun m hm x hx r' hr' hrn=>?_,h.hh⟩;have hx:x ∈ Z0 σ.be (pl s y) (σ.be (pl s y) ++ [⟨5,y,r,0,UH s σ r⟩]) m:=hx;by_cases c:m=pl s y
  ·subst c;rw [Zq] at hx;rcases List.mem_append.1 hx with hx | hx
   ·exact h.bw _ hm x hx r' hr' hrn
   ·rw [List.mem_singleton.1 hx] at hr' ⊢;have:r=r':=by have:(r:Int)=r':=hr';omega
    subst this;refine⟨h3,fun q b j hq hW hb hne hM=>?_⟩;rcases hB q b _ j hq hW hb hm hne hM with z | z
    ·left;show(j:Int) < (UH s σ r).getD (li s b (pl s y)) 0;rw [Zdi (J3 hb hm)];exact z
    ·exact absurd z (by rw [← e];exact hne)
  ·rw [Zz c] at hx;exact h.bw m hm x hx r' hr' hrn
 ·rw [if_neg e];have mb:∀ q b w j,Msg s (Proofs.YtcnahmgekicbdaaGreat.send s (pl s r) (pl s y) ⟨5,y,r,0,UH s σ r⟩ σ) q b w j ->Msg s σ q b w j:=fun q b w j hM=>(Msg.s1 (S1.send (by show(5:Int) ≠ 1;decide))).1 hM
  refine⟨fun a w jb x ha hw hx hk r' hr' hrn=>?_,fun m hm x hx r' hr' hrn=>?_,fun e he z y' r' hy' hr' hyn hrn q hq hW=>?_⟩
  ·rcases Xl.1 hx with hx | ⟨e1,e2,rfl⟩
   ·obtain⟨c1,c2⟩:=h.bl a w jb x ha hw hx hk r' hr' hrn;exact⟨c1,fun q b j hq hW hb hne hM=>c2 q b j hq hW hb hne (mb q b w j hM)⟩
   ·have:r=r':=by have:(r:Int)=r':=hr';omega
    subst this;obtain⟨e3,e4⟩:=ZlW hw (hS.pl hy).2 e1;refine⟨h3,fun q b j hq hW hb hne hM=>?_⟩;have hM':=mb q b w j hM;rcases hB q b w j hq hW hb hw hne hM' with z | z
    ·left;show(j:Int) < (UH s σ r).getD (li s b w) 0;rw [Zdi (J3 hb hw)];exact z
    ·right;refine⟨by rw [z,e3],?_⟩;have:=hM'.lt;rw [e2,e3,← z];exact this
  ·obtain⟨c1,c2⟩:=h.bw m hm x hx r' hr' hrn;exact⟨c1,fun q b j hq hW hb hne hM=>c2 q b j hq hW hb hne (mb q b m j hM)⟩
  ·obtain⟨c1,c2⟩:=h.hh e he z y' r' hy' hr' hyn hrn q hq hW;exact⟨c1,fun b j hb hne hM=>c2 b j hb hne (mb q b _ j hM)⟩
theorem Zxh {ld:Nat ->Nat} {l:List Zd}:∀ k j,Jg s ld w l k=some j ->rdy s ld w (l.getD j default):=by
 intro k
 induction k with
 | zero=>intro j h;cases h
 | succ k ih=>
   intro j h;rw [Jg] at h;by_cases c:rdy s ld w (l.getD k default)∧∀ j,Jg s ld w l k=some j ->Zcx s (l.getD j default) < Zcx s (l.getD k default)
   ·rw [ZL c] at h;cases h;exact c.1
   ·rw [ZF c] at h;exact ih j h
theorem HB.dead (hS:Xk s) (ki:KI s σ) (kn:Kn s σ) (h:Mk s σ) (hr:r < nn s) (h3:σ.st r=3):HB s σ r:=fun q b w j hq ⟨m,e⟩ hb hw hne hM=>by
 have hq3:=ZhD hS kn ki hr h3 m q hq e;have h1:=h.m1 q b w j hq hb hw hne hq3 hM;have h2:=h.chain hS ki kn (J3 hb hw) m q r hq hr h3 e;left;omega
theorem ZHr (h1:P1 s σ) (hb:b < mm s) (hw:w < mm s) (hM:Msg s σ q b w j):pl s q=b:=by
 obtain⟨x,hx,hxk,hxp⟩:=hM;obtain⟨p',e1,_,_,c⟩:=h1.lets b w hb hw x (List.mem_of_getElem? hx);have:p'=q:=by omega
 subst this;rcases c with⟨_,c,_⟩ | ⟨k,_⟩ | ⟨k,_⟩ | ⟨k,_⟩ | ⟨k,_⟩
 ·exact c
 all_goals omega
theorem HB.dying (hS:Xk s) (h1:P1 s σ) (ki:KI s σ) (kn:Kn s σ) (h:Mk s σ) (hp:p < nn s) (hA:Alo s σ p):HB s σ p:=fun q b w j hq hW hb hw hne hM=>by
 by_cases e:q=p
 ·subst e;exact .inr (ZHr h1 hb hw hM).symm
 ·left;obtain⟨c,hc,hci,m,hm⟩:=ZAV (hS:=hS) hq hW e;have hkc:=hA c hc hci;obtain⟨c',ec,_,_,hd⟩:=kn.rng p hp _ hkc;have:c=c':=by omega
  subst this;have hq3:=ZhD hS kn ki hc hd m q hq hm;have h1':=h.m1 q b w j hq hb hw hne hq3 hM;have h2:=h.chain hS ki kn (J3 hb hw) m q c hq hc hd hm;have h3:=h.m2 p c hp hc hkc _ (J3 hb hw);omega
theorem HB.congr (h:HB s σ r) (h1:S1 σ τ) (h2:τ.ma=σ.ma):HB s τ r:=fun q b w j hq hW hb hw hne hM=>by rw [h2];exact h q b w j hq hW hb hw hne ((Msg.s1 h1).1 hM)
theorem Bel.Zr (hS:Xk s) (hr:r < nn s):∀ (l:List Int) (σ:TS),(∀ x ∈ l,∃ k:Nat,x= (k:Int)∧k < nn s) ->Bel s σ ->σ.st r=3 ->HB s σ r ->Bel s (Proofs.YtcnahmgekicbdaaGreat.Zr s r l σ):=by
 intro l
 induction l with
 | nil=>intro σ _ h _ _;exact h
 | cons x l ih=>
   intro σ hx h h3 hB;obtain⟨k,rfl,hk⟩:=hx x (by simp);have z:=Zdw (s:=s) k r σ;show Bel s (Proofs.YtcnahmgekicbdaaGreat.Zr s r l (Proofs.YtcnahmgekicbdaaGreat.YP s ((k:Int)).toNat r σ));rw [Int.toNat_natCast];exact ih _ (fun y hy=>hx y (by simp [hy])) (h.YP hS hk hr h3 hB) (by rw [z.1];exact h3) (hB.congr (.YP k r) z.2.2.1)
theorem Bel.note (hS:Xk s) (h:Bel s σ) (hy:y < nn s) (hr:r < nn s) (hB:σ.st r=3 ->HB s σ r):Bel s (Proofs.YtcnahmgekicbdaaGreat.note s y r σ):=by
 unfold Proofs.YtcnahmgekicbdaaGreat.note;by_cases e:σ.st r=3
 ·rw [if_pos e];exact h.YP hS hy hr e (hB e)
 ·rw [if_neg e];exact⟨h.bl,h.bw,h.hh⟩
theorem Bel.act (hS:Xk s) (h1:P1 s σ) (h2:P2 s σ) (h3:P3 s σ) (ki:KI s σ) (hMk:Mk s σ) (h:Bel s σ) (ac:Act s σ τ):Bel s τ:=by
 have kn:=h2.kn;have hd:∀ r q,r < nn s ->q < nn s ->σ.st r=3 ->Wth s r q ->σ.st q=3:=fun r q hr hq z ⟨m,e⟩=>ZhD hS kn ki hr z m q hq e
 have r0:∀ i,σ.ld i <=σ.ld i:=fun _=>Nat.le_refl _
 have b0:∀ m,∀ x ∈ σ.be m,x ∈ σ.be m:=fun _ _ z=>z
 have ev1:∀ (l:List Zg) (e:Zg),e.kZ ≠ 4 ->∀ y ∈ l ++ [e],y.kZ=4 ->y ∈ l:=fun l e he y hy z=>by
  rcases List.mem_append.1 hy with hy | hy
  ·exact hy
  ·rw [List.mem_singleton.1 hy] at z;exact absurd z he
 have ZLE:∀ (ρ:TS) (p q:Nat) (n:Int),∀ y ∈ (see p q n ρ).ev,y.kZ=4 ->y ∈ ρ.ev:=fun ρ p q n y hy z=>by
  unfold see at hy;split at hy
  ·exact ev1 _ _ (by show(2:Int) ≠ 4;decide) y hy z
  ·exact hy
 cases ac with
 | @fall p hp hst=>
   refine h.same (fun q b w j _ _ hM=>hM) (.refl' rfl) (fun q _ z=>?_) r0 b0 (ev1 _ _ (by show(5:Int) ≠ 4;decide)) hd;show Z0 σ.st p 2 q=3;rw [Zz (fun e=>by subst e;rw [hst] at z;cases z)];exact z
 | Ux=>exact h.same (fun q b w j _ _ hM=>(Msg.s1 (S1.send (by show(3:Int) ≠ 1;decide))).1 hM) (.send (by show(3:Int) ≠ 5;decide)) (fun _ _ z=>z) r0 b0 (fun _ z _=>z) hd
 | @die p hp hst hA=>
   have sA:=Qj (s:=s) p σ
   have st3:∀ q,q < nn s ->σ.st q=3 ->Z0 σ.st p 3 q=3:=fun q _ z=>by
    by_cases e:q=p
    ·subst e;exact Zq _ _ _
    ·rw [Zz e];exact z
   have c0:Bel s (Jd p σ):=h.same (fun q b w j _ _ hM=>hM) (.refl' rfl) st3 r0 b0 (ev1 _ _ (by show(6:Int) ≠ 4;decide)) hd
   have cA:Bel s (ZM s p σ):=by
    have:=Bel.Zr hS hp (σ.wa p) (Jd p σ) (h1.ws p hp) c0 (Zq _ _ _) ((HB.dying hS h1 ki kn hMk hp hA).congr (.refl' rfl) rfl);exact⟨this.bl,this.bw,this.hh⟩
   unfold JU;split
   ·exact cA
   ·split
    ·exact⟨cA.bl,cA.bw,cA.hh⟩
    ·have mb:∀ q b w j,Msg s (send s (pl s p) (pl s (inn s (p:Int)).toNat) ⟨4,(p:Int),0,0,UH s (ZM s p σ) p⟩ (ZM s p σ)) q b w j ->Msg s (ZM s p σ) q b w j:=fun q b w j hM=>(Msg.s1 (S1.send (by show(4:Int) ≠ 1;decide))).1 hM
     refine⟨fun a w jb x ha hw hx hk r hr hrn=>?_,fun m hm x hx r hr hrn=>?_,fun e he z y r hy hr hyn hrn q hq hW=>?_⟩
     ·obtain⟨c1,c2⟩:=cA.bl a w jb x ha hw ((S5.send (by show(4:Int) ≠ 5;decide) _ _ _ hk).1 hx) hk r hr hrn;exact⟨c1,fun q b j hq hW hb hne hM=>c2 q b j hq hW hb hne (mb q b w j hM)⟩
     ·obtain⟨c1,c2⟩:=cA.bw m hm x hx r hr hrn;exact⟨c1,fun q b j hq hW hb hne hM=>c2 q b j hq hW hb hne (mb q b m j hM)⟩
     ·obtain⟨c1,c2⟩:=cA.hh e he z y r hy hr hyn hrn q hq hW;exact⟨c1,fun b j hb hne hM=>c2 b j hb hne (mb q b _ j hM)⟩
 | @Zbe p q hp hq hst e0=>
   have z:=XT q p σ.sd (kK p q σ);refine h.same (fun q b w j _ _ hM=>(Msg.s1 (S1.refl' z.2.2.2.2.1)).1 hM) (.refl' z.2.2.2.2.1) (fun q _ hq3=>by rw [z.1];exact hq3) (by rw [z.2.2.2.1];exact r0) (by rw [z.2.2.2.2.2.1];exact b0) (fun y hy h4=>?_) hd;exact ev1 σ.ev _ (by show(1:Int) ≠ 4;decide) y (ZLE (kK p q σ) q p σ.sd y hy h4) h4
 | @Zbd p q hp hq hst e0=>
   refine h.same (fun q' b w j _ h3' hM=>?_) (.send (by show(1:Int) ≠ 5;decide)) (fun _ _ z=>z) r0 b0 (ev1 _ _ (by show(1:Int) ≠ 4;decide)) hd;obtain⟨x,hx,hk,hxp⟩:=hM;rcases Xl.1 hx with hx | ⟨_,_,rfl⟩
   ·exact⟨x,hx,hk,hxp⟩
   ·have:p=q':=by have:(p:Int)=q':=hxp;omega
    subst this;rw [hst] at h3';cases h3'
 | @Za9 p q hp hq hst e0=>
   have c:Bel s (tell 3 p q 0 σ):=h.same (fun q b w j _ _ hM=>hM) (.refl' rfl) (fun _ _ z=>z) r0 b0 (ev1 _ _ (by show(3:Int) ≠ 4;decide)) hd;exact c.note hS hp hq fun z=>(HB.dead hS ki kn hMk hq z).congr (.refl' rfl) rfl
 | @Za8 p q hp hq hst e0=>exact h.same (fun q b w j _ _ hM=>(Msg.s1 ((S1.refl' (σ:=σ) (τ:=tell 3 p q 0 σ) rfl).trans (S1.send (by show(2:Int) ≠ 1;decide)))).1 hM) (.send (by show(2:Int) ≠ 5;decide)) (fun _ _ z=>z) r0 b0 (ev1 _ _ (by show(3:Int) ≠ 4;decide)) hd
 | @Zbs a b p q=>
   have z:=XT q p (Proofs.YtcnahmgekicbdaaGreat.hd σ (li s a b)).n (drop1 (li s a b) σ);refine h.same (fun q b w j _ _ hM=>(Msg.s1 (S1.refl' z.2.2.2.2.1)).1 hM) (.refl' z.2.2.2.2.1) (fun q _ hq3=>by rw [z.1];exact hq3) (by rw [z.2.2.2.1];exact Wq _) (by rw [z.2.2.2.2.2.1];exact b0) (fun y hy h4=>ZLE (drop1 (li s a b) σ) _ _ _ y hy h4) hd
 | @Zbu a b p q ha hb hl hk hp hq hpn UI=>
   have c:Bel s (drop1 (li s a b) σ):=h.same (fun q b w j _ _ hM=>hM) (.refl' rfl) (fun _ _ z=>z) (Wq _) b0 (fun _ z _=>z) hd;exact c.note hS hpn UI fun z=>(HB.dead hS ki kn hMk UI z).congr (.refl' rfl) rfl
 | ZaM=>exact h.same (fun q b w j _ _ hM=>hM) (.refl' rfl) (fun _ _ z=>z) (Wq _) b0 (fun _ z _=>z) hd
 | Zau=>exact h.same (fun q b w j _ _ hM=>hM) (.refl' rfl) (fun _ _ z=>z) (Wq _) b0 (fun _ z _=>z) hd
 | @Zbt a b ha hb hl hk=>
   have c:Bel s (drop1 (li s a b) σ):=h.same (fun q b w j _ _ hM=>hM) (.refl' rfl) (fun _ _ z=>z) (Wq _) b0 (fun _ z _=>z) hd;refine⟨c.bl,fun m hm x hx r hr hrn=>?_,c.hh⟩;have hx:x ∈ Z0 σ.be b (σ.be b ++ [Proofs.YtcnahmgekicbdaaGreat.hd σ (li s a b)]) m:=hx;by_cases e:m=b
   ·subst e;rw [Zq] at hx;rcases List.mem_append.1 hx with hx | hx
    ·exact c.bw m hm x hx r hr hrn
    ·rw [List.mem_singleton.1 hx] at hr ⊢;obtain⟨c1,c2⟩:=h.bl a m _ _ ha hb (Zee hl) hk r hr hrn;refine⟨c1,fun q b' j hq hW hb' hne hM=>(c2 q b' j hq hW hb' hne hM).imp id fun⟨e1,e2⟩=>?_⟩;show j < Z0 σ.ld (li s a m) (σ.ld (li s a m) + 1) (li s b' m);rw [e1,Zq];omega
   ·rw [Zz e] at hx;exact c.bw m hm x hx r hr hrn
 | @ring w i hw hpk=>
   have z:=Qi s w i σ;have hi:i < (σ.be w).length:=Zbl _ _ hpk;have mb:∀ q b w' j,Msg s (rung s w i σ) q b w' j ->Msg s σ q b w' j:=fun q b w' j hM=>(Msg.s1 (S1.refl' z.2.2.2.2.2.1)).1 hM
   have c:Bel s {σ with be:=Z0 σ.be w (Zbz (σ.be w) i)}:=h.same (fun q b w j _ _ hM=>hM) (.refl' rfl) (fun _ _ z=>z) r0 (fun m x hx=>by
    have hx:x ∈ Z0 σ.be w (Zbz (σ.be w) i) m:=hx;by_cases e:m=w
    ·subst e;rw [Zq] at hx;exact ZcP hx
    ·rwa [Zz e] at hx) (fun _ z _=>z) hd
   unfold rung;split
   ·refine⟨c.bl,c.bw,fun e he h4 y r hy hr hyn hrn q hq hW=>?_⟩;have he:e ∈ σ.ev ++ [⟨4,((σ.be w).getD i default).kV,((σ.be w).getD i default).kX,0⟩]:=he;rcases List.mem_append.1 he with he | he
    ·exact c.hh e he h4 y r hy hr hyn hrn q hq hW
    ·rw [List.mem_singleton.1 he] at hy hr;have hy:((σ.be w).getD i default).kV= (y:Int):=hy;have hr:((σ.be w).getD i default).kX= (r:Int):=hr;have hmem:=XK (d:=default) hi;obtain⟨p',e1,_,e2⟩:=h3 w hw _ hmem;have:p'=y:=by omega
     subst this;obtain⟨c1,c2⟩:=h.bw w hw _ hmem r hr hrn;refine⟨hd r q hrn hq c1 hW,fun b j hb hne hM=>?_⟩;rw [e2] at hne hM ⊢;rcases c2 q b j hq hW hb hne hM with z1 | z1
     ·have hrd:rdy s σ.ld w ((σ.be w).getD i default):=Zxh _ _ hpk;have:=hrd b hb hne;show j < σ.ld (li s b w);omega
     ·exact z1
   ·exact c
end
end
section
structure RuO (s:Zb) (σ:TS):Prop where
 told:∀ e ∈ σ.ev,Told s e
 ok:∀ k,k < σ.ev.length ->KS s (σ.ev.take k) (σ.ev.getD k default)=0
section
variable {s:Zb} {σ τ υ:TS} {F B a b p q w i j n d r p0 q0 y:Nat} {x:Zd} {k:Int} {e:Zg} {l:List ZE} {picks:List Int} {L:List Zg}
theorem RuO.congr (h:RuO s σ) (he:τ.ev=σ.ev):RuO s τ:= ⟨by rw [he];exact h.told,by rw [he];exact h.ok⟩
theorem RuO.add (h:RuO s σ) (he:τ.ev=σ.ev ++ [e]) (ht:Told s e) (hr:KS s σ.ev e=0):RuO s τ:=by
 refine⟨fun y hy=>?_,fun k hk=>?_⟩
 ·rw [he] at hy;rcases List.mem_append.1 hy with hy | hy
  ·exact h.told y hy
  ·rw [List.mem_singleton.1 hy];exact ht
 ·rw [he] at hk ⊢;rw [List.length_append,List.length_singleton] at hk;by_cases c:k < σ.ev.length
  ·rw [List.take_append_of_le_length (by omega)]
   have:(σ.ev ++ [e]).getD k default=σ.ev.getD k default:=by
    rw [List.getD_eq_getElem?_getD,List.getElem?_append_left c,← List.getD_eq_getElem?_getD]
   rw [this];exact h.ok k c
  ·have:k=σ.ev.length:=by omega
   subst this;rw [List.take_append_of_le_length (Nat.le_refl _),List.take_length]
   have:(σ.ev ++ [e]).getD σ.ev.length default=e:=by
    rw [List.getD_eq_getElem?_getD,List.getElem?_append_right (Nat.le_refl _),Nat.sub_self];rfl
   rw [this];exact hr
theorem Zad (hp:p < nn s):Pl s (p:Int):= ⟨p,rfl,hp⟩
theorem Zaf (h:EvS s σ) (hp:p < nn s) (h1:σ.st p=1):c3 σ.ev 5 (p:Int) 0=0:=by rw [h.e5 p hp,YD (fun z=>z h1)]
theorem ZD2 (n:Int) (h5:c3 L 5 (p:Int) 0=0) (hk:k1 L ⟨1,p,q,n⟩=0):KS s L ⟨1,p,q,n⟩=0:=by
 unfold KS;rw [hk];show(bif((1:Int) !=6) && decide (c3 L 5 (p:Int) 0 > 0) then _ else _)=_;rw [h5];rfl
theorem ZD1 (n:Int) (h5:c3 L 5 (p:Int) 0=0) (hk:0 < k1 L ⟨2,p,q,n⟩) (hk2:k2 L ⟨2,p,q,n⟩=0) (hs:Zws s L ⟨2,p,q,n⟩=false):KS s L ⟨2,p,q,n⟩=0:=by
 unfold KS;rw [hk2,hs,decide_eq_false (show ¬ k1 L ⟨2,p,q,n⟩=0 by omega)];show(bif((2:Int) !=6) && decide (c3 L 5 (p:Int) 0 > 0) then _ else _)=_;rw [h5];rfl
theorem ZD0 (h5:c3 L 5 (p:Int) 0=0) (o:Int):KS s L ⟨3,p,o,0⟩=0:=by
 unfold KS;show(bif((3:Int) !=6) && decide (c3 L 5 (p:Int) 0 > 0) then _ else _)=_;rw [h5];rfl
theorem ZLP (h5:c3 L 5 (p:Int) 0=0):KS s L ⟨5,p,0,0⟩=0:=by
 unfold KS;show(bif((5:Int) !=6) && decide (c3 L 5 (p:Int) 0 > 0) then _ else _)=_;rw [h5];rfl
theorem ZLQ (h5:c3 L 5 (p:Int) 0=0) (h6:c3 L 6 (q:Int) 0 ≠ 0) (hc:c3 L 4 (p:Int) (q:Int) < c3 L 3 (p:Int) (q:Int)):KS s L ⟨4,p,q,0⟩=0:=by
 unfold KS;show(bif((4:Int) !=6) && decide (c3 L 5 (p:Int) 0 > 0) then(1:Int) else bif false then _ else bif false then _ else bif false then _ else bif true then(bif decide (c3 L 6 (q:Int) 0=0) || decide (c3 L 4 (p:Int) (q:Int) >=c3 L 3 (p:Int) (q:Int)) then 4 else 0) else 0)=_;rw [h5,decide_eq_false h6,decide_eq_false (show ¬ c3 L 4 (p:Int) (q:Int) >=c3 L 3 (p:Int) (q:Int) by omega)];rfl
theorem ZLO (h5:c3 L 5 (p:Int) 0 ≠ 0) (h6:c3 L 6 (p:Int) 0=0) (hk:ZsN s L (p:Int)=false):KS s L ⟨6,p,0,0⟩=0:=by
 unfold KS;show(bif false && _ then(1:Int) else bif false then _ else bif false then _ else bif true then(bif(decide (c3 L 5 (p:Int) 0=0) || decide (c3 L 6 (p:Int) 0 > 0)) || ZsN s L (p:Int) then 3 else 0) else _)=_;rw [hk,h6,decide_eq_false h5];rfl
theorem Zm3 {α:Type} {f:α ->Bool} {l:List α} (h:∀ x ∈ l,f x=false):l.countP f=0:=by
 rw [List.countP_eq_zero];intro x hx;rw [h x hx];decide
theorem ZzY (y:Nat):(atW s (y:Int)).toNat=pl s y:=by unfold atW pl;rw [Int.toNat_natCast];rfl
theorem Zse (hS:Xk s) (hR:EvR s σ) (hB:Bel s σ) (hq:q < nn s) (hp:p < nn s) (hM:σ.st p ≠ 3∨∃ b j,b < mm s∧b ≠ pl s q∧Msg s σ p b (pl s q) j∧¬ j < σ.ld (li s b (pl s q))) (n:Int):Zws s σ.ev ⟨2,q,p,n⟩=false:=by
 unfold Zws;rw [List.any_eq_false];intro e he z;simp only [Ba0,beq_iff_eq] at z;obtain⟨⟨z1,z2⟩,z3⟩:=z;obtain⟨⟨y,ey,hy⟩,⟨r,er,hr⟩⟩:=hR e he;rw [ey] at z2;rw [er,Int.toNat_natCast,Int.toNat_natCast] at z3;have hW:= (ZvN hS.inn (show p < s.Zf.length from hp)).1 z3;have hpl:pl s y=pl s q:=by rw [← ZzY,← ZzY,z2]
 obtain⟨c1,c2⟩:=hB.hh e he z1 y r ey er hy hr p hp hW;rcases hM with hM | ⟨b,j,hb,hne,hMs,hn⟩
 ·exact hM c1
 ·rw [hpl] at c2;exact hn (c2 b j hb hne hMs)
theorem RuO.act (hS:Xk s) (h1:P1 s σ) (h2:P2 s σ) (h3:P3 s σ) (ki:KI s σ) (hR:EvR s σ) (hE:EvS s σ) (hN:Num σ) (ZOP:Bal s σ) (hB:Bel s σ) (h:RuO s σ) (ac:Act s σ τ):RuO s τ:=by
 have kn:=h2.kn
 have ZLD:∀ (ρ:TS) (q p:Nat) (n:Int),RuO s ρ ->q < nn s ->p < nn s ->0 <=n ->(ρ.st q=1 ->KS s ρ.ev ⟨2,q,p,n⟩=0) ->RuO s (see q p n ρ):=fun ρ q p n hρ hq hp hn hr=>by
  unfold see;split
  ·rename_i hst;exact hρ.add (e:= ⟨2,q,p,n⟩) rfl ⟨Zad hq,hn,.inl ⟨.inr rfl,Zad hp⟩⟩ (hr hst)
  ·exact hρ
 cases ac with
 | @fall p hp hst=>exact h.add (e:= ⟨5,p,0,0⟩) rfl ⟨Zad hp,Int.le_refl _,.inr (.inr ⟨.inl rfl,rfl,rfl⟩)⟩ (ZLP (Zaf hE hp hst))
 | Ux=>exact h.congr rfl
 | @die p hp hst hA=>
   have sA:=Qj (s:=s) p σ
   have hA':RuO s (ZM s p σ):=by
    refine h.add (e:= ⟨6,p,0,0⟩) sA.2.2.2.2.1 ⟨Zad hp,Int.le_refl _,.inr (.inr ⟨.inr rfl,rfl,rfl⟩)⟩ (ZLO ?_ ?_ ?_)
    ·rw [hE.e5 p hp,Jb (by rw [hst];decide)];decide
    ·rw [hE.e6 p hp,YD (by rw [hst];decide)]
    ·unfold ZsN;rw [List.any_eq_false];intro q hq z;simp only [Ba0,beq_iff_eq,decide_eq_true_eq] at z;have hq':q < nn s:=List.mem_range.1 hq;obtain⟨k',ek,_,_,hd⟩:=kn.rng p hp _ (hA q hq' z.1);have:q=k':=by omega
     subst this;have:=z.2;rw [hE.e6 q hq',Jb hd] at this;cases this
   unfold JU;split
   ·exact hA'
   ·split
    ·exact hA'.congr rfl
    ·exact hA'.congr rfl
 | @Zbe p q hp hq hst e0=>
   have k0:∀ (m:Int),k1 σ.ev ⟨1,p,q,σ.sd⟩=0:=fun _=>Zm3 fun x hx=>by
    by_cases z:x.kZ=1
    ·have:= (hN.n1 x hx (.inl z)).2;rw [show(x.n== (⟨1,p,q,σ.sd⟩:Zg).n)=false from beq_eq_false_iff_ne.2 (by show x.n ≠ σ.sd;omega)];simp
    ·rw [show(x.kZ==1)=false from beq_eq_false_iff_ne.2 z];simp
   have c1:RuO s (kK p q σ):=h.add (e:= ⟨1,p,q,σ.sd⟩) rfl ⟨Zad hp,hN.n0,.inl ⟨.inl rfl,Zad hq⟩⟩ (ZD2 _ (Zaf hE hp hst) (k0 0));refine ZLD (kK p q σ) q p σ.sd c1 hq hp hN.n0 fun Zhf=>?_
   have ev:(kK p q σ).ev=σ.ev ++ [⟨1,p,q,σ.sd⟩]:=rfl;have Zhf:σ.st q=1:=Zhf;refine ZD1 _ ?_ ?_ ?_ ?_
   ·rw [ev,ZbC,Zaf hE hq Zhf,YD (fun z=>by have:(1:Int)=5:=z.1;omega)]
   ·rw [ev];unfold k1;rw [List.countP_append];simp
   ·rw [ev]
    exact Zm3 fun x hx=>by
     by_cases z:x.kZ=2
     ·rcases List.mem_append.1 hx with hx | hx
      ·have:= (hN.n1 x hx (.inr z)).2;rw [show(x.n== (⟨2,q,p,σ.sd⟩:Zg).n)=false from beq_eq_false_iff_ne.2 (by show x.n ≠ σ.sd;omega)];simp
      ·rw [List.mem_singleton.1 hx] at z;exact absurd z (by show ¬ (1:Int)=2;decide)
     ·rw [show(x.kZ==2)=false from beq_eq_false_iff_ne.2 z];rfl
   ·have:=Zse (n:=σ.sd) hS hR hB hq hp (.inl (by rw [hst];decide));rw [ev];unfold Zws at this ⊢;rw [List.any_append,this];simp
 | @Zbd p q hp hq hst e0=>
   have k0:k1 σ.ev ⟨1,p,q,σ.sd⟩=0:=Zm3 fun x hx=>by
    by_cases z:x.kZ=1
    ·have:= (hN.n1 x hx (.inl z)).2;rw [show(x.n== (⟨1,p,q,σ.sd⟩:Zg).n)=false from beq_eq_false_iff_ne.2 (by show x.n ≠ σ.sd;omega)];simp
    ·rw [show(x.kZ==1)=false from beq_eq_false_iff_ne.2 z];simp
   exact h.add (e:= ⟨1,p,q,σ.sd⟩) rfl ⟨Zad hp,hN.n0,.inl ⟨.inl rfl,Zad hq⟩⟩ (ZD2 _ (Zaf hE hp hst) k0)
 | @Za9 p q hp hq hst e0=>exact(h.add (τ:=tell 3 p q 0 σ) (e:= ⟨3,p,q,0⟩) rfl ⟨Zad hp,Int.le_refl _,.inr (.inl ⟨.inl rfl,Zad hq,rfl⟩)⟩ (ZD0 (Zaf hE hp hst) q)).congr (Xf (s:=s) p q (tell 3 p q 0 σ)).2.2.2.2.2
 | @Za8 p q hp hq hst e0=>exact h.add (e:= ⟨3,p,q,0⟩) rfl ⟨Zad hp,Int.le_refl _,.inr (.inl ⟨.inl rfl,Zad hq,rfl⟩)⟩ (ZD0 (Zaf hE hp hst) q)
 | @Zbs a b p q ha hb hl hk hpe hqe hp hq=>
   have hg:=Zee hl;obtain⟨n1,n2,e,he,e1,e2,e3,e4⟩:=hN.n5 _ _ _ hg hk;refine ZLD (drop1 (li s a b) σ) q p _ (h.congr rfl) hq hp n1 fun hst=>?_
   have hst:σ.st q=1:=hst;have hlet:=h1.lets a b ha hb _ (ZcF hl)
   have hpq:pl s p=a∧pl s q=b:=by
    obtain⟨p',hp',_,_,c⟩:=hlet;have:p'=p:=by omega
    subst this;rcases c with⟨k,c1,q',hq',_,c2⟩ | ⟨k,_⟩ | ⟨k,_⟩ | ⟨k,_⟩ | ⟨k,_⟩
    ·have:q'=q:=by omega
     subst this;exact⟨c1,c2⟩
    all_goals omega
   have hab:a ≠ b:=fun z=>by
    subst z;have:=h1.self a ha;rw [this] at hl;simp at hl
   refine ZD1 (L:=σ.ev) _ (Zaf hE hq hst) ?_ ?_ ?_
   ·show 0 < σ.ev.countP _;rw [List.countP_pos_iff];refine⟨e,he,?_⟩;rw [e1,e4,e2,e3,hpe,hqe];simp
   ·exact Zm3 fun x hx=>by
     by_cases z:x.kZ=2
     ·have hne:x.n ≠ (hd σ (li s a b)).n:=fun z'=>by
       have:=hN.n3 x hx z _ _ _ hg hk z'.symm;omega
      rw [show(x.n== (⟨2,q,p,(hd σ (li s a b)).n⟩:Zg).n)=false from beq_eq_false_iff_ne.2 hne];simp
     ·rw [show(x.kZ==2)=false from beq_eq_false_iff_ne.2 z];rfl
   ·refine Zse hS hR hB hq hp (.inr ⟨a,σ.ld (li s a b),ha,by rw [hpq.2];exact hab,?_,?_⟩) _
    ·rw [hpq.2];exact⟨_,hg,hk,hpe⟩
    ·rw [hpq.2];omega
 | @Zbu a b p q=>exact h.congr (Xf (s:=s) p q (drop1 (li s a b) σ)).2.2.2.2.2
 | ZaM=>exact h.congr rfl
 | Zau=>exact h.congr rfl
 | Zbt=>exact h.congr rfl
 | @ring w i hw hpk=>
   have hi:i < (σ.be w).length:=Zbl _ _ hpk;have hmem:=XK (d:=default) hi;obtain⟨p,hpe,hp,hpw⟩:=h3 w hw _ hmem;obtain⟨⟨_,⟨q,hqe,hq⟩,_⟩,hk⟩:=h1.bea w hw _ hmem
   have hb1:0 < bb s σ p q:=by
    have hc:=ZxJ (k:=5) (p:=p) (q:=q) hi;rw [Jb ⟨hk,hpe,hqe⟩] at hc;unfold bb;rw [hpw];omega
   have hd3:=ZOP.dead p q hp hq (by omega);have hle:=ZOP.le p q hp hq;unfold ec at hle;unfold rung;rw [hpe,hqe,Int.toNat_natCast];split
   ·rename_i hst;refine h.add (e:= ⟨4,p,q,0⟩) rfl ⟨Zad hp,Int.le_refl _,.inr (.inl ⟨.inr rfl,Zad hq,rfl⟩)⟩ (ZLQ (Zaf hE hp hst) ?_ (by omega));rw [hE.e6 q hq,Jb hd3];decide
   ·exact h.congr rfl
structure ZdN (s:Zb) (σ:TS):Prop where
 p1:P1 s σ
 p2:P2 s σ
 p3:P3 s σ
 ki:KI s σ
 er:EvR s σ
 es:EvS s σ
 nu:Num σ
 ba:Bal s σ
 mb:MB s σ
 UH:Mk s σ
 be:Bel s σ
 ru:RuO s σ
theorem ZdN.act (hS:Xk s) (h:ZdN s σ) (ac:Act s σ τ):ZdN s τ:=
 ⟨h.p1.act hS ac,h.p2.act hS ac,h.p3.act h.p1 ac,h.ki.act hS h.p2 ac,h.er.act hS h.p1 ac,h.es.act ac,h.nu.act ac,h.ba.act hS h.p1 h.p2 h.p3 ac,h.mb.act ac,h.UH.act hS h.p1 h.p2 h.ki h.mb ac,h.be.act hS h.p1 h.p2 h.p3 h.ki h.UH ac,h.ru.act hS h.p1 h.p2 h.p3 h.ki h.er h.es h.nu h.ba h.be ac⟩
theorem inv0 (hS:Xk s):ZdN s ts0:=by
 have h0:=ok0 hS;have nil:∀ {α:Type} (x:α),¬ x ∈ ([]:List α):=fun x h=>by cases h
 have sn:∀ (i j:Nat) (x:Zd),¬ (ts0.sn i)[j]? =some x:=fun i j x h=>by simp [ts0] at h
 exact⟨h0.p1,h0.p2,fun w _ x hx=>absurd hx (nil x),h0.ki,fun e he=>absurd he (nil e),⟨fun p _=>.inl rfl,fun p _=>rfl,fun p _=>rfl,fun e he=>absurd he (nil e)⟩,
  ⟨Int.le_refl _,fun e he=>absurd he (nil e),fun i j x hx=>absurd hx (sn i j x),fun i j x i' j' x' hx=>absurd hx (sn i j x),fun e he=>absurd he (nil e)⟩,
  ⟨fun p q _ _=>Nat.le_refl 0,fun p q _ _ _=>rfl,fun p q _ _ z=>absurd z (Nat.lt_irrefl 0),fun p q _ _ _=>rfl⟩,
  ⟨fun p i _=>by show(0:Int) <=0;omega,fun j x hx=>absurd hx (nil x),fun m x hx=>absurd hx (nil x)⟩,
  ⟨fun q b w j _ _ _ _ _ hM=>absurd hM.choose_spec.1 (sn _ _ _),fun p k _ _ hk=>absurd hk (nil _),fun i j x hx=>absurd hx (sn i j x)⟩,
  ⟨fun a w jb x _ _ hx=>absurd hx (sn _ _ _),fun m _ x hx=>absurd hx (nil x),fun e he=>absurd he (nil e)⟩,
  ⟨fun e he=>absurd he (nil e),fun k hk=>absurd hk (Nat.not_lt_zero _)⟩⟩
theorem ZaP (hS:Xk s) (h:Qq s ts0 σ):ZdN s σ:=h.keep (P:=ZdN s) (fun _ _ h ac=>h.act hS ac) (inv0 hS)
end
end
section
def hst (s:Zb) (r:Nat) (a:Int) (m:List (YS×Bool)):Nat ->List (YS×Bool)
 | 0=>m
 | v + 1=>if ZAW s r v then Kk (hst s r a m v) ⟨a,(v:Int)⟩ true else hst s r a m v
section
variable {s:Zb} {σ τ υ:TS} {F B a b p q w i j n d r v k:Nat} {l:List ZE} {picks:List Int} {L:List Zg}
end
end
section
structure InZ (s:Zb) (Z:Nat ->Prop) (σ:TS):Prop where
 st:∀ p,p < nn s ->σ.st p ≠ 1 ->Z p
 le:∀ (i j:Nat) (x:Zd),(σ.sn i)[j]? =some x ->x.kW=3 ->∀ k:Nat,x.kV= (k:Int) ->Z k
section
variable {s:Zb} {Z:Nat ->Prop} {σ τ υ:TS} {F B a b p q w i j n d r v k:Nat} {x:Zd}
theorem InZ.congr (h:InZ s Z σ) (h1:τ.st=σ.st) (h2:τ.sn=σ.sn):InZ s Z τ:= ⟨by rw [h1];exact h.st,by rw [h2];exact h.le⟩
theorem InZ.send (h:InZ s Z σ) (hx:x.kW=3 ->∀ k:Nat,x.kV= (k:Int) ->Z k):InZ s Z (Proofs.YtcnahmgekicbdaaGreat.send s a b x σ):=by
 refine⟨h.st,fun i j y hy hk k hp=>?_⟩;rcases Xl.1 hy with hy | ⟨_,_,rfl⟩
 ·exact h.le i j y hy hk k hp
 ·exact hx hk k hp
theorem InZ.YP (h:InZ s Z σ) (p q:Nat):InZ s Z (Proofs.YtcnahmgekicbdaaGreat.YP s p q σ):=by
 unfold Proofs.YtcnahmgekicbdaaGreat.YP;split
 ·exact h.congr rfl rfl
 ·exact h.send fun z=>absurd z (by show ¬ (5:Int)=3;decide)
theorem InZ.note (h:InZ s Z σ) (p q:Nat):InZ s Z (Proofs.YtcnahmgekicbdaaGreat.note s p q σ):=by
 unfold Proofs.YtcnahmgekicbdaaGreat.note;split
 ·exact h.YP _ _
 ·exact h.congr rfl rfl
theorem InZ.ZM (h:InZ s Z σ) (hp:Z p):InZ s Z (Proofs.YtcnahmgekicbdaaGreat.ZM s p σ):=by
 have h0:InZ s Z (Jd p σ):=by
  refine⟨fun q hq z=>?_,h.le⟩;have z:Z0 σ.st p 3 q ≠ 1:=z;by_cases e:q=p
  ·rw [e];exact hp
  ·rw [Zz e] at z;exact h.st q hq z
 have:InZ s Z (Zr s p (σ.wa p) (Jd p σ)):=QW _ (InZ s Z) _ _ h0 fun τ x _ hτ=>hτ.YP _ _
 exact this.congr rfl rfl
theorem ZzC (hS:Xk s):∀ (d p:Nat) (σ:TS),p < nn s ->Z p ->InZ s Z σ ->InZ s Z (Zby s d p σ):=by
 intro d
 induction d with
 | zero=>intro p σ _ _ h;exact h
 | succ d ih=>
   intro p σ hp hZ h;have hA:=h.ZM hZ;show InZ s Z (ZcO s (Zby s d) p (ZM s p σ));unfold ZcO;by_cases h0:inn s (p:Int) < 0
   ·rw [if_pos h0];exact hA
   ·rw [if_neg h0];obtain⟨_,hq⟩:=X6 hS hp h0;split
    ·unfold J6;by_cases c:(Yb s p (UH s (ZM s p σ) p) (ZM s p σ)).st (inn s (p:Int)).toNat=2∧Alo s (Yb s p (UH s (ZM s p σ) p) (ZM s p σ)) (inn s (p:Int)).toNat
     ·rw [ZL c];have hl:InZ s Z (Yb s p (UH s (ZM s p σ) p) (ZM s p σ)):=hA.congr rfl rfl;exact ih _ _ hq (hl.st _ hq (by rw [c.1];decide)) hl
     ·rw [ZF c];exact hA.congr rfl rfl
    ·exact hA.send fun z=>absurd z (by show ¬ (4:Int)=3;decide)
theorem Zs9 (hS:Xk s) (hZk:∀ p k:Nat,p < nn s ->k < nn s ->Z p ->inn s (k:Int)= (p:Int) ->Z k):∀ (d p:Nat) (σ:TS),p < nn s ->Z p ->InZ s Z σ ->InZ s Z (Y7 s d p σ):=by
 intro d
 induction d with
 | zero=>intro p σ _ _ h;exact h
 | succ d ih=>
   intro p σ hp hZ h
   have h0:InZ s Z (Xc p σ):=by
    refine⟨fun q hq z=>?_,h.le⟩;have z:Z0 σ.st p 2 q ≠ 1:=z;by_cases e:q=p
    ·rw [e];exact hZ
    ·rw [Zz e] at z;exact h.st q hq z
   have hk:InZ s Z (fk s (Y7 s d) p (nn s) (Xc p σ)):=by
    refine QW _ (InZ s Z) _ _ h0 fun τ k hk hτ=>?_
    obtain⟨hkn,hki⟩:=ZiL.1 (show k ∈ ZxI s p from hk);have hZ':=hZk p k hp hkn hZ hki;unfold ZaS;split
    ·split
     ·exact ih k τ hkn hZ' hτ
     ·exact hτ
    ·split
     ·exact hτ
     ·exact hτ.send fun _ k' e=>by have:k=k':=by have:(k:Int)=k':=e;omega
                                   subst this;exact hZ'
   show InZ s Z (Zb7 s p _);unfold Zb7;by_cases c:(fk s (Y7 s d) p (nn s) (Xc p σ)).st p=2∧Alo s (fk s (Y7 s d) p (nn s) (Xc p σ)) p
   ·rw [ZL c];exact ZzC hS _ _ _ hp hZ hk
   ·rw [ZF c];exact hk
end
end
section
def SnP (σ τ:TS):Prop:=∀ (i j:Nat) (x:Zd),(σ.sn i)[j]? =some x ->(τ.sn i)[j]? =some x
def Fl3 (s:Zb) (σ:TS) (p k:Nat):Prop:=∃ (j:Nat) (x:Zd),(σ.sn (li s (pl s p) (pl s k)))[j]? =some x∧σ.ld (li s (pl s p) (pl s k)) <=j∧x.kW=3∧x.kV= (k:Int)
def K2 (s:Zb) (X Y:Nat ->Prop) (σ:TS):Prop:=∀ p k,p < nn s ->k < nn s ->¬ X p ->¬ Y k ->inn s (k:Int)= (p:Int) ->σ.st p ≠ 1 ->σ.st k ≠ 1∨Fl3 s σ p k
section
variable {s:Zb} {X Y:Nat ->Prop} {σ τ υ:TS} {F B a b p q w i j n d r v k:Nat} {x:Zd}
theorem SnP.refl' (h:τ.sn=σ.sn):SnP σ τ:=fun i j x hx=>by rw [h];exact hx
theorem SnP.trans (h:SnP σ τ) (h':SnP τ υ):SnP σ υ:=fun i j x hx=>h' i j x (h i j x hx)
theorem SnP.send:SnP σ (Proofs.YtcnahmgekicbdaaGreat.send s a b x σ):=fun i j y hy=>Xl.2 (.inl hy)
theorem SnP.YP (p q:Nat):SnP σ (Proofs.YtcnahmgekicbdaaGreat.YP s p q σ):=by
 unfold Proofs.YtcnahmgekicbdaaGreat.YP;split
 ·exact .refl' rfl
 ·exact .send
theorem SnP.note (p q:Nat):SnP σ (Proofs.YtcnahmgekicbdaaGreat.note s p q σ):=by
 unfold Proofs.YtcnahmgekicbdaaGreat.note;split
 ·exact .YP _ _
 ·exact .refl' rfl
theorem SnP.ZM (p:Nat):SnP σ (Proofs.YtcnahmgekicbdaaGreat.ZM s p σ):=by
 have:SnP σ (Zr s p (σ.wa p) (Jd p σ)):=QW _ (SnP σ) _ _ (.refl' rfl) fun τ x _ h=>h.trans (.YP _ _)
 exact this.trans (.refl' rfl)
theorem SnP.act (ac:Act s σ τ):SnP σ τ:=by
 cases ac with
 | fall=>exact .refl' rfl
 | Ux=>exact .send
 | @die p=>
   unfold JU;split
   ·exact .ZM p
   ·split
    ·exact(SnP.ZM p).trans (.refl' rfl)
    ·exact(SnP.ZM p).trans .send
 | Zbe=>exact .refl' (XT _ _ _ _).2.2.2.2.1
 | @Zbd p q=>exact(SnP.refl' (σ:=σ) (τ:=kK p q σ) rfl).trans .send
 | @Za9 p q=>exact(SnP.refl' (σ:=σ) (τ:=tell 3 p q 0 σ) rfl).trans (.note _ _)
 | @Za8 p q=>exact(SnP.refl' (σ:=σ) (τ:=tell 3 p q 0 σ) rfl).trans .send
 | Zbs=>exact .refl' (XT _ _ _ _).2.2.2.2.1
 | @Zbu a b p q=>exact(SnP.refl' (σ:=σ) (τ:=drop1 (li s a b) σ) rfl).trans (.note _ _)
 | ZaM=>exact .refl' rfl
 | Zau=>exact .refl' rfl
 | Zbt=>exact .refl' rfl
 | ring=>exact .refl' (Qi _ _ _ _).2.2.2.2.2.1
theorem SnP.acts (h:Qq s σ τ):SnP σ τ:=by
 induction h with
 | refl=>exact .refl' rfl
 | tail _ a ih=>exact ih.trans (.act a)
theorem Fl3.mono (h:Fl3 s σ p k) (h1:SnP σ τ) (h2:τ.ld=σ.ld):Fl3 s τ p k:=by
 obtain⟨j,x,a,b,c⟩:=h;exact⟨j,x,h1 _ _ _ a,by rw [h2];exact b,c⟩
theorem Zy3 (hl:σ.ld (li s (pl s p) (pl s k)) <= (σ.sn (li s (pl s p) (pl s k))).length):Fl3 s (send s (pl s p) (pl s k) ⟨3,(k:Int),0,0,[]⟩ σ) p k:=
 ⟨_,_,Xl.2 (.inr ⟨rfl,rfl,rfl⟩),hl,rfl,rfl⟩
theorem K2.keep (h:K2 s X Y σ) (h1:SnP σ τ) (h2:τ.ld=σ.ld) (h3:∀ q,q < nn s ->(σ.st q ≠ 1↔τ.st q ≠ 1)):K2 s X Y τ:=fun p k hp hk hX hY e hst=>
 (h p k hp hk hX hY e ((h3 p hp).2 hst)).imp (h3 k hk).1 fun z=>z.mono h1 h2
theorem Zpc (hS:Xk s):∀ (d p:Nat) (σ:TS),p < nn s ->σ.st p ≠ 1 ->∀ q,σ.st q ≠ 1↔(Zby s d p σ).st q ≠ 1:=by
 intro d
 induction d with
 | zero=>intro p σ _ _ q;exact Iff.rfl
 | succ d ih=>
   intro p σ hp hst q;have sA:= (Qj (s:=s) p σ).1
   have hA:σ.st q ≠ 1↔(ZM s p σ).st q ≠ 1:=by
    rw [sA];by_cases e:q=p
    ·subst e;rw [Zq];exact⟨fun _=>by decide,fun _=>hst⟩
    ·rw [Zz e]
   show _↔(ZcO s (Zby s d) p (ZM s p σ)).st q ≠ 1;unfold ZcO;by_cases h0:inn s (p:Int) < 0
   ·rw [if_pos h0];exact hA
   ·rw [if_neg h0];obtain⟨_,hq⟩:=X6 hS hp h0;split
    ·unfold J6;by_cases c:(Yb s p (UH s (ZM s p σ) p) (ZM s p σ)).st (inn s (p:Int)).toNat=2∧Alo s (Yb s p (UH s (ZM s p σ) p) (ZM s p σ)) (inn s (p:Int)).toNat
     ·rw [ZL c];exact hA.trans (ih _ _ hq (by rw [c.1];decide) q)
     ·rw [ZF c];exact hA
    ·exact hA
theorem Zi4 (hS:Xk s):∀ (d p:Nat) (X Y:Nat ->Prop) (σ:TS),p < nn s ->Kv s d p ->ZdN s σ ->σ.st p=1 ->K2 s X Y σ ->K2 s X (fun k=>Y k∧k ≠ p) (Y7 s d p σ)∧(Y7 s d p σ).st p ≠ 1:=by
 intro d
 induction d with
 | zero=>intro p X Y σ hp hs _ _ _;exact absurd rfl (hs p hp 0 (Nat.le_refl _))
 | succ d ih=>
   intro p X Y σ hp hs hI h1 hK;have a0:Qq s σ (Xc p σ):= .one (.fall hp h1);have st0:(Xc p σ).st p ≠ 1:=by show Z0 σ.st p 2 p ≠ 1;rw [Zq];decide
   have kids:∀ m,m <=nn s ->Qq s σ (fk s (Y7 s d) p m (Xc p σ))∧(fk s (Y7 s d) p m (Xc p σ)).ld=σ.ld∧K2 s (fun q=>X q∨q=p) (fun k=>Y k∧k ≠ p) (fk s (Y7 s d) p m (Xc p σ))∧(fk s (Y7 s d) p m (Xc p σ)).st p ≠ 1∧
    ∀ k,k < m ->inn s (k:Int)= (p:Int) ->(fk s (Y7 s d) p m (Xc p σ)).st k ≠ 1∨Fl3 s (fk s (Y7 s d) p m (Xc p σ)) p k:=by
    intro m
    induction m with
    | zero=>
      intro _;refine⟨a0,rfl,fun q k hq hk hX hY e hst=>?_,st0,fun k hk=>by omega⟩;have hqp:q ≠ p:=fun z=>hX (.inr z)
      have hst:Z0 σ.st p 2 q ≠ 1:=hst;rw [Zz hqp] at hst;show Z0 σ.st p 2 k ≠ 1∨_;by_cases ekp:k=p
      ·subst ekp;left;rw [Zq];decide
      ·rw [Zz ekp];exact hK q k hq hk (fun z=>hX (.inl z)) (fun z=>hY ⟨z,ekp⟩) e hst
    | succ m ihm=>
      intro hm;obtain⟨b1,b2,b3,b4,b5⟩:=ihm (by omega)
      have hstep:fk s (Y7 s d) p (m + 1) (Xc p σ)=if inn s (m:Int)= (p:Int) then ZaS s (Y7 s d) p (fk s (Y7 s d) p m (Xc p σ)) m else fk s (Y7 s d) p m (Xc p σ):=by
       unfold fk;rw [ZaN,List.foldl_append];split <;> rfl
      rw [hstep];generalize fk s (Y7 s d) p m (Xc p σ)=τ at b1 b2 b3 b4 b5 ⊢;by_cases e:inn s (m:Int)= (p:Int)
      ·rw [if_pos e];have hmn:m < nn s:=by omega
       have ZIu:ZdN s τ:=b1.keep (P:=ZdN s) (fun _ _ h ac=>h.act hS ac) hI
       have fin:∀ (υ:TS),Qq s τ υ ->υ.ld=τ.ld ->K2 s (fun q=>X q∨q=p) (fun k=>Y k∧k ≠ p) υ ->(υ.st m ≠ 1∨Fl3 s υ p m) ->Qq s σ υ∧υ.ld=σ.ld∧K2 s (fun q=>X q∨q=p) (fun k=>Y k∧k ≠ p) υ∧υ.st p ≠ 1∧∀ k,k < m + 1 ->inn s (k:Int)= (p:Int) ->υ.st k ≠ 1∨Fl3 s υ p k:=fun υ c1 c2 c3 c4=>
        ⟨b1.trans c1,c2.trans b2,c3,ZdA c1 b4,fun k hk ek=>by
          by_cases z:k=m
          ·subst z;exact c4
          ·exact(b5 k (by omega) ek).imp (fun z=>ZdA c1 z) fun z=>z.mono (.acts c1) c2⟩
       unfold ZaS;by_cases el:pl s m=pl s p
       ·rw [if_pos el];by_cases e1:τ.st m=1
        ·rw [if_pos e1];obtain⟨k1,k2⟩:=ih m _ _ τ hmn (hs.kid e) ZIu e1 b3;refine fin _ (Zgc hS _ _ _ hmn (hs.kid e) e1) (ZoN _ _ _) (fun q k hq hk hX hY ee hst=>k1 q k hq hk hX (fun z=>hY z.1) ee hst) (.inl k2)
        ·rw [if_neg e1];exact fin τ .refl rfl b3 (.inl e1)
       ·rw [if_neg el];by_cases e1:(m:Int) ∈ τ.kn p
        ·rw [if_pos e1];obtain⟨k',ek,_,_,hd⟩:=ZIu.p2.kn.rng p hp _ e1;have:m=k':=by omega
         subst this;exact fin τ .refl rfl b3 (.inl (by rw [hd];decide))
        ·rw [if_neg e1];refine fin _ (.one (.Ux hp hmn e b4 el e1)) rfl (b3.keep .send rfl fun _ _=>Iff.rfl) (.inr (Zy3 (ZIu.p2.ld _)))
      ·rw [if_neg e]
       exact⟨b1,b2,b3,b4,fun k hk ek=>b5 k (by
        by_cases z:k=m
        ·subst z;exact absurd ek e
        ·omega) ek⟩
   obtain⟨b1,b2,b3,b4,b5⟩:=kids (nn s) (Nat.le_refl _)
   have hall:K2 s X (fun k=>Y k∧k ≠ p) (fk s (Y7 s d) p (nn s) (Xc p σ)):=fun q k hq hk hX hY e hst=>by
    by_cases z:q=p
    ·subst z;exact b5 k hk e
    ·exact b3 q k hq hk (fun w=>w.elim hX z) hY e hst
   show K2 s X _ (Zb7 s p _)∧(Zb7 s p _).st p ≠ 1;unfold Zb7;by_cases c:(fk s (Y7 s d) p (nn s) (Xc p σ)).st p=2∧Alo s (fk s (Y7 s d) p (nn s) (Xc p σ)) p
   ·rw [ZL c];have hd:=Zpc hS (nn s) p (fk s (Y7 s d) p (nn s) (Xc p σ)) hp b4;exact⟨hall.keep (.acts (Zfj hS _ _ _ hp (WW hS hp) c.1 c.2)) (ZhC _ _ _) fun q _=>hd q,(hd p).1 b4⟩
   ·rw [ZF c];exact⟨hall,b4⟩
end
end
section
def N2 (s:Zb) (X:Nat ->Prop) (σ:TS):Prop:=∀ p,p < nn s ->¬ X p ->σ.st p=2 ->¬ Alo s σ p
section
variable {s:Zb} {X Y Z:Nat ->Prop} {σ τ υ:TS} {F B a b p q w i j n d r v k:Nat} {x:Zd} {y:ZE}
theorem N2.keep (h:N2 s X σ) (h1:τ.st=σ.st) (h2:τ.kn=σ.kn):N2 s X τ:=fun p hp hX hst hA=>h p hp hX (by rw [← h1];exact hst) fun k hk e=>by rw [← h2];exact hA k hk e
theorem Ztq (hS:Xk s):∀ (d p:Nat) (X:Nat ->Prop) (σ:TS),p < nn s ->up s d (p:Int) < 0 ->N2 s (fun q=>X q∨q=p) σ ->N2 s X (Zby s d p σ):=by
 intro d
 induction d with
 | zero=>intro p X σ hp hu _;exact absurd hu (by show ¬ ((p:Int)) < 0;omega)
 | succ d ih=>
   intro p X σ hp hu h;have sA:=Qj (s:=s) p σ
   have hA:N2 s X (ZM s p σ):=fun q hq hX hst hAl=>by
    rw [sA.1] at hst;by_cases e:q=p
    ·subst e;rw [Zq] at hst;cases hst
    ·rw [Zz e] at hst;exact h q hq (fun z=>z.elim hX e) hst fun k hk ek=>by rw [← sA.2.1];exact hAl k hk ek
   show N2 s X (ZcO s (Zby s d) p (ZM s p σ));unfold ZcO;by_cases h0:inn s (p:Int) < 0
   ·rw [if_pos h0];exact hA
   ·rw [if_neg h0];obtain⟨eq,hq⟩:=X6 hS hp h0;split
    ·have hL:N2 s (fun q=>X q∨q= (inn s (p:Int)).toNat) (Yb s p (UH s (ZM s p σ) p) (ZM s p σ)):=fun q hq' hX hst hAl=>by
      refine hA q hq' (fun z=>hX (.inl z)) hst fun k hk ek=>?_
      have:=hAl k hk ek;have this:(k:Int) ∈ Z0 (ZM s p σ).kn (inn s (p:Int)).toNat _ q:=this;rw [Zz (fun z=>hX (.inr z))] at this;exact this
     unfold J6;by_cases c:(Yb s p (UH s (ZM s p σ) p) (ZM s p σ)).st (inn s (p:Int)).toNat=2∧Alo s (Yb s p (UH s (ZM s p σ) p) (ZM s p σ)) (inn s (p:Int)).toNat
     ·rw [ZL c];exact ih _ X _ hq (by rw [← eq];exact Zp4 hp hu) hL
     ·rw [ZF c];intro q hq' hX hst hAl;by_cases e:q= (inn s (p:Int)).toNat
      ·rw [e] at hst hAl;exact c ⟨hst,hAl⟩
      ·exact hL q hq' (fun z=>z.elim hX e) hst hAl
    ·exact hA.keep rfl rfl
theorem ZoM (hS:Xk s):∀ (d p:Nat) (X:Nat ->Prop) (σ:TS),p < nn s ->N2 s X σ ->N2 s X (Y7 s d p σ):=by
 intro d
 induction d with
 | zero=>intro p X σ _ h;exact h
 | succ d ih=>
   intro p X σ hp h
   have h0:N2 s (fun q=>X q∨q=p) (Xc p σ):=fun q hq hX hst hAl=>by
    have hst:Z0 σ.st p 2 q=2:=hst;rw [Zz (fun z=>hX (.inr z))] at hst;exact h q hq (fun z=>hX (.inl z)) hst hAl
   have hk:N2 s (fun q=>X q∨q=p) (fk s (Y7 s d) p (nn s) (Xc p σ)):=by
    refine QW _ (N2 s (fun q=>X q∨q=p)) _ _ h0 fun τ k hk hτ=>?_
    obtain⟨hkn,_⟩:=ZiL.1 (show k ∈ ZxI s p from hk);unfold ZaS;split
    ·split
     ·exact ih k _ τ hkn hτ
     ·exact hτ
    ·split
     ·exact hτ
     ·exact hτ.keep rfl rfl
   show N2 s X (Zb7 s p _);unfold Zb7;by_cases c:(fk s (Y7 s d) p (nn s) (Xc p σ)).st p=2∧Alo s (fk s (Y7 s d) p (nn s) (Xc p σ)) p
   ·rw [ZL c];exact Ztq hS _ _ X _ hp (WW hS hp) hk
   ·rw [ZF c];intro q hq hX hst hAl;by_cases e:q=p
    ·rw [e] at hst hAl;exact c ⟨hst,hAl⟩
    ·exact hk q hq (fun z=>z.elim hX e) hst hAl
def no:Nat ->Prop:=fun _=>False
structure Fal (s:Zb) (Z:Nat ->Prop) (σ:TS):Prop where
 z:InZ s Z σ
 k:K2 s no no σ
 n:N2 s no σ
theorem Fal.same (h:Fal s Z σ) (h1:τ.st=σ.st) (h2:τ.kn=σ.kn) (h3:τ.ld=σ.ld) (h4:SnP σ τ) (h5:InZ s Z τ):Fal s Z τ:=
 ⟨h5,h.k.keep h4 h3 fun q _=>by rw [h1],h.n.keep h1 h2⟩
theorem InZ.drop (h:InZ s Z σ):InZ s Z (drop1 i σ):=h.congr rfl rfl
theorem K2.drop (h:K2 s X Y σ) (hl:σ.ld i < (σ.sn i).length) (hk:(Proofs.YtcnahmgekicbdaaGreat.hd σ i).kW ≠ 3):K2 s X Y (drop1 i σ):=fun p k hp hk' hX hY e hst=>by
 refine(h p k hp hk' hX hY e hst).imp id fun⟨j,x,a,b,c⟩=>⟨j,x,a,?_,c⟩
 show Z0 σ.ld i (σ.ld i + 1) (li s (pl s p) (pl s k)) <=j;by_cases z:li s (pl s p) (pl s k)=i
 ·rw [z,Zq];rw [z] at a b
  have hne:j ≠ σ.ld i:=fun w=>by
   subst w;have:=Zee hl;rw [a] at this;injection this with this
   rw [this] at c;exact hk c.1
  omega
 ·rw [Zz z];exact b
theorem K2.ZPu (h:K2 s X Y σ) (hl:σ.ld i < (σ.sn i).length) (hp:(Proofs.YtcnahmgekicbdaaGreat.hd σ i).kV= (q:Int)):K2 s X (fun k=>Y k∨k=q) (drop1 i σ):=fun p k hp' hk' hX hY e hst=>by
 refine(h p k hp' hk' hX (fun z=>hY (.inl z)) e hst).imp id fun⟨j,x,a,b,c⟩=>⟨j,x,a,?_,c⟩
 show Z0 σ.ld i (σ.ld i + 1) (li s (pl s p) (pl s k)) <=j;by_cases z:li s (pl s p) (pl s k)=i
 ·rw [z,Zq];rw [z] at a b
  have hne:j ≠ σ.ld i:=fun w=>by
   subst w;have:=Zee hl;rw [a] at this;injection this with this
   rw [this] at c;exact hY (.inr (by have:=c.2;omega))
  omega
 ·rw [Zz z];exact b
theorem Zum (hS:Xk s) (hZk:∀ p k:Nat,p < nn s ->k < nn s ->Z p ->inn s (k:Int)= (p:Int) ->Z k) (hI:ZdN s σ) (h:Fal s Z σ) (ha:a < mm s) (hb:b < mm s) (hl:σ.ld (li s a b) < (σ.sn (li s a b)).length) (hx:Zvr s b (Proofs.YtcnahmgekicbdaaGreat.hd σ (li s a b))) (hD:Zr3 s (Proofs.YtcnahmgekicbdaaGreat.hd σ (li s a b)) σ):Fal s Z (ZbN s a b σ):=by
 have ac:=ZkU hS ha hb hl hx hD;obtain⟨p,hp,hpn,c⟩:=hx;have hz:=h.z.drop (i:=li s a b);have Ztn:(Proofs.YtcnahmgekicbdaaGreat.hd σ (li s a b)).kW ≠ 3 ->Fal s Z (drop1 (li s a b) σ):=fun k=>⟨hz,h.k.drop hl k,h.n.keep rfl rfl⟩
 unfold ZbN ZeW;rcases c with⟨k,q,hq,UI⟩ | ⟨k,q,hq,UI⟩ | k | ⟨k,h0,hm⟩ | ⟨k,e,hm,q,hq,UI⟩
 ·rw [if_pos k];have z:=XT (Proofs.YtcnahmgekicbdaaGreat.hd σ (li s a b)).kX.toNat (Proofs.YtcnahmgekicbdaaGreat.hd σ (li s a b)).kV.toNat (Proofs.YtcnahmgekicbdaaGreat.hd σ (li s a b)).n (drop1 (li s a b) σ);exact(Ztn (by omega)).same z.1 z.2.1 z.2.2.2.1 (.refl' z.2.2.2.2.1) (hz.congr z.1 z.2.2.2.2.1)
 ·rw [if_neg (by omega),if_pos k];have z:=Xf (s:=s) (Proofs.YtcnahmgekicbdaaGreat.hd σ (li s a b)).kV.toNat (Proofs.YtcnahmgekicbdaaGreat.hd σ (li s a b)).kX.toNat (drop1 (li s a b) σ);exact(Ztn (by omega)).same z.1 z.2.1 z.2.2.2.1 (.note _ _) (hz.note _ _)
 ·rw [if_neg (by omega),if_neg (by omega),if_pos k,hp,Int.toNat_natCast];have hZp:Z p:=h.z.le _ _ _ (Zee hl) k p hp;have hk3:=h.k.ZPu hl hp;have hn:N2 s no (drop1 (li s a b) σ):=h.n.keep rfl rfl;by_cases e:(drop1 (li s a b) σ).st p=1
  ·rw [if_pos e];have hId:ZdN s (drop1 (li s a b) σ):=hI.act hS (.ZaM ha hb hl k hp hpn);obtain⟨k1,k2⟩:=Zi4 hS (nn s) p no _ _ hpn (Kv.all hS.inn) hId e hk3;refine⟨Zs9 hS hZk _ _ _ hpn hZp hz,fun q k' hq hk' hX hY ee hst=>?_,ZoM hS _ _ _ _ hpn hn⟩;by_cases z:k'=p
   ·subst z;exact .inl k2
   ·exact k1 q k' hq hk' hX (fun w=>w.1.elim hY w.2) ee hst
  ·rw [if_neg e];refine⟨hz,fun q k' hq hk' hX hY ee hst=>?_,hn⟩;by_cases z:k'=p
   ·subst z;exact .inl e
   ·exact hk3 q k' hq hk' hX (fun w=>w.elim hY z) ee hst
 ·rw [if_neg (by omega),if_neg (by omega),if_neg (by omega),if_pos k,hp,Int.toNat_natCast];obtain⟨eq,hq⟩:=X6 hS hpn (by omega);have hd:=Ztn (by omega)
  have hL:N2 s (fun q=>no q∨q= (inn s (p:Int)).toNat) (Yb s p (Proofs.YtcnahmgekicbdaaGreat.hd σ (li s a b)).qX (drop1 (li s a b) σ)):=fun q hq' hX hst hAl=>by
   refine hd.n q hq' (fun z=>hX (.inl z)) hst fun k hk ek=>?_
   have:=hAl k hk ek;have this:(k:Int) ∈ Z0 (drop1 (li s a b) σ).kn (inn s (p:Int)).toNat _ q:=this;rw [Zz (fun z=>hX (.inr z))] at this;exact this
  have hzl:InZ s Z (Yb s p (Proofs.YtcnahmgekicbdaaGreat.hd σ (li s a b)).qX (drop1 (li s a b) σ)):=hz.congr rfl rfl;have hkl:K2 s no no (Yb s p (Proofs.YtcnahmgekicbdaaGreat.hd σ (li s a b)).qX (drop1 (li s a b) σ)):=hd.k.keep (.refl' rfl) rfl fun _ _=>Iff.rfl
  unfold Zbr J6;by_cases c:(Yb s p (Proofs.YtcnahmgekicbdaaGreat.hd σ (li s a b)).qX (drop1 (li s a b) σ)).st (inn s (p:Int)).toNat=2∧Alo s (Yb s p (Proofs.YtcnahmgekicbdaaGreat.hd σ (li s a b)).qX (drop1 (li s a b) σ)) (inn s (p:Int)).toNat
  ·rw [ZL c];have hne:(Yb s p (Proofs.YtcnahmgekicbdaaGreat.hd σ (li s a b)).qX (drop1 (li s a b) σ)).st (inn s (p:Int)).toNat ≠ 1:=by rw [c.1];decide
   refine⟨ZzC hS _ _ _ hq (hzl.st _ hq hne) hzl,hkl.keep (.acts (Zfj hS _ _ _ hq (WW hS hq) c.1 c.2)) (ZhC _ _ _) fun q _=>Zpc hS _ _ _ hq hne q,Ztq hS _ _ _ _ hq (WW hS hq) hL⟩
  ·rw [ZF c];refine⟨hzl,hkl,fun q hq' hX hst hAl=>?_⟩;by_cases e:q= (inn s (p:Int)).toNat
   ·rw [e] at hst hAl;exact c ⟨hst,hAl⟩
   ·exact hL q hq' (fun z=>z.elim hX e) hst hAl
 ·rw [if_neg (by omega),if_neg (by omega),if_neg (by omega),if_neg (by omega)];exact(Ztn (by omega)).same rfl rfl rfl (.refl' rfl) (hz.congr rfl rfl)
theorem ZtV:∀ k,Fal s Z σ ->Fal s Z (rings s k σ):=by
 intro k h
 have one:∀ (w i:Nat) (τ:TS),Fal s Z τ ->Fal s Z (rung s w i τ):=fun w i τ hτ=>by
  have z:=Qi s w i τ;exact hτ.same z.2.2.1 z.2.2.2.1 z.2.1 (.refl' z.2.2.2.2.2.1) (hτ.z.congr z.2.2.1 z.2.2.2.2.2.1)
 have ring:∀ (w n:Nat) (τ:TS),Fal s Z τ ->Fal s Z (Ue s w n τ):=fun w n=>by
  induction n with
  | zero=>intro τ hτ;exact hτ
  | succ n ih=>
    intro τ hτ;rw [Ue];split
    ·exact hτ
    ·exact ih _ (one _ _ _ hτ)
 induction k with
 | zero=>exact h
 | succ k ih=>rw [rings];exact ring _ _ _ ih
theorem ZnN (hS:Xk s) (hZk:∀ p k:Nat,p < nn s ->k < nn s ->Z p ->inn s (k:Int)= (p:Int) ->Z k) (hI:ZdN s σ) (h:Fal s Z σ) (hA:Zc2 s y σ) (ok:Ok s B σ) (h3:y.act=3 ->Z y.a.toNat):Fal s Z (stepW s y σ):=by
 unfold stepW;refine ZtV _ ?_;rcases hA with⟨k,p,q,hp,hq,hpn,UI,hst⟩ | ⟨k,p,q,hp,hq,hpn,UI,hst⟩ | ⟨k,p,hp,hpn,hst⟩ | ⟨k,a,b,ha,hb,han,hbn,hl⟩
 ·unfold WZ;rw [if_pos k];split
  ·have z:=XT y.b.toNat y.a.toNat σ.sd (kK y.a.toNat y.b.toNat σ);exact h.same z.1 z.2.1 z.2.2.2.1 (.refl' z.2.2.2.2.1) (h.z.congr z.1 z.2.2.2.2.1)
  ·exact h.same rfl rfl rfl ((SnP.refl' (σ:=σ) (τ:=kK y.a.toNat y.b.toNat σ) rfl).trans .send) ((h.z.congr (τ:=kK y.a.toNat y.b.toNat σ) rfl rfl).send fun z=>absurd z (by show ¬ (1:Int)=3;decide))
 ·unfold WZ;rw [if_neg (by omega),if_pos k];split
  ·have z:=Xf (s:=s) y.a.toNat y.b.toNat (tell 3 y.a y.b 0 σ);exact h.same z.1 z.2.1 z.2.2.2.1 ((SnP.refl' (σ:=σ) (τ:=tell 3 y.a y.b 0 σ) rfl).trans (.note _ _)) ((h.z.congr (τ:=tell 3 y.a y.b 0 σ) rfl rfl).note _ _)
  ·exact h.same rfl rfl rfl ((SnP.refl' (σ:=σ) (τ:=tell 3 y.a y.b 0 σ) rfl).trans .send) ((h.z.congr (τ:=tell 3 y.a y.b 0 σ) rfl rfl).send fun z=>absurd z (by show ¬ (2:Int)=3;decide))
 ·have hZ:=h3 k;unfold WZ;rw [if_neg (by omega),if_neg (by omega),if_pos k];rw [hp,Int.toNat_natCast] at hZ ⊢;obtain⟨k1,k2⟩:=Zi4 hS (nn s) p no no σ hpn (Kv.all hS.inn) hI hst h.k;refine⟨Zs9 hS hZk _ _ _ hpn hZ h.z,fun q k' hq hk' hX hY ee hst'=>?_,ZoM hS _ _ _ _ hpn h.n⟩;exact k1 q k' hq hk' hX (fun w=>hY w.1) ee hst'
 ·unfold WZ;rw [if_neg (by omega),if_neg (by omega),if_neg (by omega),ha,hb,Int.toNat_natCast,Int.toNat_natCast];obtain⟨hf,hD⟩:=ok.head han hbn hl;exact Zum hS hZk hI h han hbn hl hf.s hD
end
end
section
def SnR (s:Zb) (σ:TS):Prop:=∀ i,mm s * mm s <=i ->σ.sn i= []
def FS (s:Zb) (l:List ZE) (q:Nat):Prop:=∃ j,j < l.length∧Zc2 s (l.getD j default) (Xg s l j).1∧(l.getD j default).act=3∧(l.getD j default).a= (q:Int)
def FZ (s:Zb) (l:List ZE) (p:Nat):Prop:=∃ q,FS s l q∧Wth s q p
section
variable {s:Zb} {X Y Z:Nat ->Prop} {σ τ υ:TS} {F B a b p q w i j n d r v k:Nat} {x:Zd} {y:ZE} {l:List ZE} {picks:List Int}
theorem SnR.send (h:SnR s σ) (ha:a < mm s) (hb:b < mm s):SnR s (Proofs.YtcnahmgekicbdaaGreat.send s a b x σ):=fun i hi=>by
 have:=J3 ha hb;rw [JI (by omega)];exact h i hi
theorem SnR.YP (hS:Xk s) (h:SnR s σ) (hp:p < nn s) (hq:q < nn s):SnR s (Proofs.YtcnahmgekicbdaaGreat.YP s p q σ):=by
 unfold Proofs.YtcnahmgekicbdaaGreat.YP;split
 ·exact h
 ·exact h.send (hS.pl hq).2 (hS.pl hp).2
theorem SnR.note (hS:Xk s) (h:SnR s σ) (hp:p < nn s) (hq:q < nn s):SnR s (Proofs.YtcnahmgekicbdaaGreat.note s p q σ):=by
 unfold Proofs.YtcnahmgekicbdaaGreat.note;split
 ·exact h.YP hS hp hq
 ·exact h
theorem SnR.congr (h:SnR s σ) (e:τ.sn=σ.sn):SnR s τ:=fun i hi=>by rw [e];exact h i hi
theorem SnR.act (hS:Xk s) (h1:P1 s σ) (h:SnR s σ) (ac:Act s σ τ):SnR s τ:=by
 cases ac with
 | fall=>exact h
 | Ux hp hk=>exact h.send (hS.pl hp).2 (hS.pl hk).2
 | @die p hp h2 hA=>
   have hA:SnR s (ZM s p σ):=by
    have:SnR s (Zr s p (σ.wa p) (Jd p σ)):=QW _ (SnR s) (σ.wa p) (Jd p σ) h fun τ x hx hτ=>by
     obtain⟨k,rfl,hk⟩:=h1.ws p hp x hx;exact hτ.YP hS (by rw [Int.toNat_natCast];exact hk) hp
    exact this
   unfold JU;by_cases h0:inn s (p:Int) < 0
   ·rw [if_pos h0];exact hA
   ·rw [if_neg h0];obtain⟨_,hq⟩:=X6 hS hp h0;split
    ·exact hA
    ·exact hA.send (hS.pl hp).2 (hS.pl hq).2
 | Zbe=>exact h.congr (XT _ _ _ _).2.2.2.2.1
 | @Zbd p q hp hq=>exact SnR.send (σ:=kK p q σ) h (hS.pl hp).2 (hS.pl hq).2
 | @Za9 p q hp hq=>exact SnR.note (σ:=tell 3 p q 0 σ) hS h hp hq
 | @Za8 p q hp hq=>exact SnR.send (σ:=tell 3 p q 0 σ) h (hS.pl hp).2 (hS.pl hq).2
 | Zbs=>exact SnR.congr (σ:=drop1 _ σ) h (XT _ _ _ _).2.2.2.2.1
 | Zbu ha hb hl hk hp hq hpn UI=>exact SnR.note (σ:=drop1 _ σ) hS h hpn UI
 | ZaM=>exact h
 | Zau=>exact h
 | Zbt=>exact h
 | ring=>exact h.congr (Qi _ _ _ _).2.2.2.2.2.1
theorem Zwl (hS:Xk s) (h:Qq s ts0 σ):SnR s σ:=
 (h.keep (P:=fun σ=>P1 s σ∧SnR s σ) (fun _ _ ⟨a,b⟩ ac=>⟨a.act hS ac,b.act hS a ac⟩) ⟨(ok0 hS).p1,fun _ _=>rfl⟩).2
theorem ZyT (p k:Nat) (_:p < nn s) (_:k < nn s) (h:FZ s l p) (e:inn s (k:Int)= (p:Int)):FZ s l k:=by
 obtain⟨q,hq,j,ej⟩:=h;refine⟨q,hq,j + 1,?_⟩;show(if((k:Int)) < 0 then((k:Int)) else up s j (inn s (k:Int)))=_;rw [if_neg (by omega),e];exact ej
theorem ZUI:Fal s Z ts0:= ⟨⟨fun p _ h=>absurd rfl h,fun i j x hx=>by simp [ts0] at hx⟩,fun p k _ _ _ _ _ h=>absurd rfl h,fun p _ _ h=>absurd h (by show ¬ (1:Int)=2;decide)⟩
theorem Zod (hS:Xk s):∀ k,k <=l.length ->Fal s (FZ s l) (Xg s l k).1:=by
 intro k
 induction k with
 | zero=>intro _;exact ZUI
 | succ k ih=>
   intro hk;have h:=ih (by omega);obtain⟨ok,_,ac⟩:=Zbk (l:=l) hS k;rw [Xg];by_cases hA:Zc2 s (l.getD k default) (Xg s l k).1
   ·rw [ZL hA];refine ZnN hS ZyT (ZaP hS ac) h hA ok fun h3=>?_
    rcases hA with⟨k',_⟩ | ⟨k',_⟩ | ⟨_,p,hp,hpn,hst⟩ | ⟨k',_⟩
    ·omega
    ·omega
    ·refine⟨p,⟨k,by omega,.inr (.inr (.inl ⟨h3,p,hp,hpn,hst⟩)),h3,hp⟩,0,?_⟩;rw [hp,Int.toNat_natCast];rfl
    ·omega
   ·rw [ZF hA];exact h
theorem ZC0 (hS:Xk s) (hac:Qq s ts0 σ) (ok:Ok s B σ) (h:Fal s Z σ) (hZk:∀ p k:Nat,p < nn s ->k < nn s ->Z p ->inn s (k:Int)= (p:Int) ->Z k):∀ r,Fal s Z (drK s picks σ r):=by
 intro r
 induction r with
 | zero=>exact h
 | succ r ih=>
   obtain⟨o,a⟩:=Zgv (picks:=picks) hS ok r;rw [drK];by_cases e:opens s (drK s picks σ r)= []
   ·rw [if_pos e];exact ih
   ·rw [if_neg e];have hA:=Zd9 (σ:=drK s picks σ r) hS (Zc8 (picks:=picks) (r:=r) e);exact ZnN hS hZk (ZaP hS (hac.trans a)) ih hA o fun h3=>absurd h3 (by show ¬ (4:Int)=3;decide)
theorem ZnY (hS:Xk s) (hI:ZdN s σ) (hF:Fal s Z σ) (he:opens s σ= []) (hp:p < nn s) (hk:k < nn s) (e:inn s (k:Int)= (p:Int)) (h:σ.st p ≠ 1):σ.st k ≠ 1:=by
 rcases hF.k p k hp hk id id e h with z | ⟨j,x,a,b,_⟩
 ·exact z
 ·have:= (Li0 a).1;rw [ZeG hI.p2 he (J3 (hS.pl hp).2 (hS.pl hk).2)] at b;omega
theorem ZtY (hS:Xk s) (hI:ZdN s σ) (hR:SnR s σ) (hF:Fal s Z σ) (he:opens s σ= []):∀ (d p:Nat),p < nn s ->Kv s d p ->σ.st p ≠ 1 ->σ.st p=3:=by
 intro d
 induction d with
 | zero=>intro p hp hs _;exact absurd rfl (hs p hp 0 (Nat.le_refl _))
 | succ d ih=>
   intro p hp hs h1;rcases hI.es.rg p hp with z | z | z
   ·exact absurd z h1
   ·exfalso;refine hF.n p hp id z fun k hk e=>?_
    have hk3:=ih k hk (hs.kid e) (ZnY hS hI hF he hp hk e h1);rcases hI.ki.k3 k hk hk3 (by rw [e];omega) with w | ⟨i,j,x,a,b,c⟩
    ·rw [e,Int.toNat_natCast] at w;exact w
    ·obtain⟨k',e1,_,_,e4⟩:=hI.ki.k1 i j x a b;have hkk:k=k':=by omega
     subst hkk;have hj:= (Li0 a).1
     have hi:i < mm s * mm s:=by
      rcases Nat.lt_or_ge i (mm s * mm s) with q | q
      ·exact q
      ·rw [hR i q] at hj;simp at hj
     have:=e4.2 (by rw [ZeG hI.p2 he hi];exact hj);rw [e,Int.toNat_natCast] at this;exact this
   ·exact z
theorem ZBi (hS:Xk s) (hI:ZdN s σ) (hF:Fal s Z σ) (he:opens s σ= []) (h:σ.st q ≠ 1) (hq:q < nn s):∀ (j p:Nat),p < nn s ->up s j (p:Int)= (q:Int) ->σ.st p ≠ 1:=by
 intro j
 induction j with
 | zero=>intro p hp e;have:p=q:=by have:(p:Int)=q:=e;omega
         rw [this];exact h
 | succ j ih=>
   intro p hp e;have e':(if(p:Int) < 0 then(p:Int) else up s j (inn s (p:Int)))= (q:Int):=e;rw [if_neg (by omega)] at e';by_cases h0:inn s (p:Int) < 0
   ·rw [ZfK h0] at e';omega
   ·obtain⟨eq,hq'⟩:=X6 hS hp h0;rw [eq] at e';exact ZnY hS hI hF he hq' hp eq (ih _ hq' e')
end
end
section
section
variable {s:Zb} {X Y Z:Nat ->Prop} {σ τ υ:TS} {F B a b p q w i j n d r v k m:Nat} {x:Zd} {y:ZE} {l:List ZE} {picks:List Int}
theorem Zt7 (hS:Xk s) (k:Nat):∀ m,Qq s (Xg s l k).1 (Xg s l (k + m)).1:=by
 intro m
 induction m with
 | zero=>exact .refl
 | succ m ih=>
   obtain⟨ok,_,_⟩:=Zbk (l:=l) hS (k + m);rw [show k + (m + 1)= (k + m) + 1 by omega,Xg];by_cases hA:Zc2 s (l.getD (k + m) default) (Xg s l (k + m)).1
   ·rw [ZL hA];exact ih.trans (ZfN hS ok hA)
   ·rw [ZF hA];exact ih
theorem ZCg (hS:Xk s) (h:FS s l q):(Xg s l l.length).1.st q ≠ 1∧q < nn s:=by
 obtain⟨j,hj,hA,h3,hq⟩:=h;obtain⟨ok,_,ac⟩:=Zbk (l:=l) hS j
 have UI:q < nn s∧(Xg s l j).1.st q=1:=by
  rcases hA with⟨k',_⟩ | ⟨k',_⟩ | ⟨_,p,hp,hpn,hst⟩ | ⟨k',_⟩
  ·omega
  ·omega
  ·have:p=q:=by omega
   subst this;exact⟨hpn,hst⟩
  ·omega
 have e1:(Xg s l (j + 1)).1=stepW s (l.getD j default) (Xg s l j).1:=by rw [Xg,ZL hA]
 have hf:(WZ s (l.getD j default) (Xg s l j).1).st q ≠ 1:=by
  unfold WZ;rw [if_neg (by omega),if_neg (by omega),if_pos h3,hq,Int.toNat_natCast];exact(Zi4 hS (nn s) q no no _ UI.1 (Kv.all hS.inn) (ZaP hS ac) UI.2 (Zod hS j (by omega)).k).2
 have h2:(Xg s l (j + 1)).1.st q ≠ 1:=by
  rw [e1];unfold stepW;exact ZdA (Zbh (mm s) (Nat.le_refl _)) hf
 have h3':=ZdA (Zt7 (l:=l) hS (j + 1) (l.length - (j + 1))) h2;rw [show j + 1 + (l.length - (j + 1))=l.length by omega] at h3';exact⟨h3',UI.1⟩
theorem Zzx (hS:Xk s) (hac:Qq s ts0 (Jv s l picks n)) (he:opens s (Jv s l picks n)= []) (hp:p < nn s):(FZ s l p ->(Jv s l picks n).st p=3)∧(¬ FZ s l p ->(Jv s l picks n).st p=1):=by
 obtain⟨ok,_,ac⟩:=Zbk (l:=l) hS l.length;have hF:Fal s (FZ s l) (Jv s l picks n):=ZC0 hS ac ok (Zod hS l.length (Nat.le_refl _)) ZyT n;have hI:=ZaP hS hac;have a2:= (Zgv (picks:=picks) hS ok n).2
 constructor
 ·rintro⟨q,hq,j,ej⟩;obtain⟨h1,UI⟩:=ZCg hS hq;have h2:(Jv s l picks n).st q ≠ 1:=ZdA a2 h1;exact ZtY hS hI (Zwl hS hac) hF he (nn s) p hp (Kv.all hS.inn) (ZBi hS hI hF he h2 UI j p hp ej)
 ·intro hn;rcases Int.lt_trichotomy ((Jv s l picks n).st p) 1 with z | z | z
  ·exact absurd (hF.z.st p hp (by omega)) hn
  ·exact z
  ·exact absurd (hF.z.st p hp (by omega)) hn
end
end
section
def ck (k:Int) (l:List Zd):Nat:=l.countP fun x=>x.kW==k
section
variable {s:Zb} {σ τ υ:TS} {F B a b p q w i j n d r v m:Nat} {x:Zd} {k:Int}
end
end
section
section
variable {s:Zb} {σ τ υ:TS} {F B a b p q w i j n d r v m:Nat} {x:Zd} {k:Int} {e:Zg}
end
end
section
section
variable {s:Zb} {σ τ υ:TS} {F B a b p q w i j n d r v m:Nat} {x:Zd} {k:Nat}
end
end
section
section
variable {s:Zb} {σ τ υ:TS} {F B a b p q w i j n d r v m:Nat} {x:Zd} {k:Nat} {y:ZE} {l:List ZE} {picks:List Int}
end
end
section
def f13 (l:List Zg):List Zg:=l.filter fun e=>(e.kZ==1) || (e.kZ==3)
def Cs (σ τ:TS):Prop:=f13 τ.ev=f13 σ.ev
section
variable {s:Zb} {σ τ υ:TS} {F B a b p q w i j n d r v m:Nat} {x:Zd} {k:Nat} {y:ZE} {l:List ZE} {picks:List Int} {e:Zg}
theorem ZmN {l:List Zg} (h1:e.kZ ≠ 1) (h3:e.kZ ≠ 3):f13 (l ++ [e])=f13 l:=by
 unfold f13;rw [List.filter_append,List.filter_cons,List.filter_nil,if_neg,List.append_nil];simp only [Bool.or_eq_true,beq_iff_eq];exact fun z=>z.elim h1 h3
theorem Ztb {l:List Zg} (h:e.kZ=1∨e.kZ=3):f13 (l ++ [e])=f13 l ++ [e]:=by
 unfold f13;rw [List.filter_append,List.filter_cons,List.filter_nil,if_pos];simp only [Bool.or_eq_true,beq_iff_eq];exact h
theorem Cs.refl' (h:τ.ev=σ.ev):Cs σ τ:=by unfold Cs;rw [h]
theorem Cs.trans (h:Cs σ τ) (h':Cs τ υ):Cs σ υ:=Eq.trans h' h
theorem Cs.tell (d p q n:Int) (h1:d ≠ 1) (h3:d ≠ 3):Cs σ (Proofs.YtcnahmgekicbdaaGreat.tell d p q n σ):=ZmN h1 h3
theorem Cs.see (p q:Nat) (n:Int):Cs σ (Proofs.YtcnahmgekicbdaaGreat.see p q n σ):=by
 unfold Proofs.YtcnahmgekicbdaaGreat.see;split
 ·exact .tell _ _ _ _ (by decide) (by decide)
 ·exact .refl' rfl
theorem Cs.note (p q:Nat):Cs σ (Proofs.YtcnahmgekicbdaaGreat.note s p q σ):= .refl' (Xf p q σ).2.2.2.2.2
theorem Cs.ZM (p:Nat):Cs σ (Proofs.YtcnahmgekicbdaaGreat.ZM s p σ):=by
 unfold Cs;rw [(Qj (s:=s) p σ).2.2.2.2.1];exact ZmN (by show ¬ (6:Int)=1;decide) (by show ¬ (6:Int)=3;decide)
theorem Ztr:∀ (d p:Nat) (σ:TS),Cs σ (Zby s d p σ):=by
 intro d
 induction d with
 | zero=>intro p σ;exact .refl' rfl
 | succ d ih=>
   intro p σ;have hA:Cs σ (ZM s p σ):= .ZM p;show Cs σ (ZcO s (Zby s d) p (ZM s p σ));unfold ZcO;by_cases h0:inn s (p:Int) < 0
   ·rw [if_pos h0];exact hA
   ·rw [if_neg h0];split
    ·unfold J6;have hL:Cs σ (Yb s p (UH s (ZM s p σ) p) (ZM s p σ)):=hA.trans (.refl' rfl);by_cases c:(Yb s p (UH s (ZM s p σ) p) (ZM s p σ)).st (inn s (p:Int)).toNat=2∧Alo s (Yb s p (UH s (ZM s p σ) p) (ZM s p σ)) (inn s (p:Int)).toNat
     ·rw [ZL c];exact hL.trans (ih _ _)
     ·rw [ZF c];exact hL
    ·exact hA.trans (.refl' rfl)
theorem ZoO:∀ (d p:Nat) (σ:TS),Cs σ (Y7 s d p σ):=by
 intro d
 induction d with
 | zero=>intro p σ;exact .refl' rfl
 | succ d ih=>
   intro p σ;have h0:Cs σ (Xc p σ):=ZmN (by show ¬ (5:Int)=1;decide) (by show ¬ (5:Int)=3;decide)
   have hk:Cs σ (fk s (Y7 s d) p (nn s) (Xc p σ)):=by
    refine QW _ (Cs σ) _ _ h0 fun τ k hk hτ=>?_
    unfold ZaS;split
    ·split
     ·exact hτ.trans (ih k τ)
     ·exact hτ
    ·split
     ·exact hτ
     ·exact hτ.trans (.refl' rfl)
   show Cs σ (Zb7 s p _);unfold Zb7;by_cases c:(fk s (Y7 s d) p (nn s) (Xc p σ)).st p=2∧Alo s (fk s (Y7 s d) p (nn s) (Xc p σ)) p
   ·rw [ZL c];exact hk.trans (Ztr _ _ _)
   ·rw [ZF c];exact hk
theorem ZxE (b:Nat) (x:Zd):Cs σ (ZeW s b x σ):=by
 unfold ZeW;split
 ·exact .see _ _ _
 ·split
  ·exact .note _ _
  ·split
   ·split
    ·exact ZoO _ _ _
    ·exact .refl' rfl
   ·split
    ·unfold Zbr J6;have hL:Cs σ (Yb s x.kV.toNat x.qX σ):= .refl' rfl;by_cases c:(Yb s x.kV.toNat x.qX σ).st (inn s ((x.kV.toNat:Nat):Int)).toNat=2∧Alo s (Yb s x.kV.toNat x.qX σ) (inn s ((x.kV.toNat:Nat):Int)).toNat
     ·rw [ZL c];exact hL.trans (Ztr _ _ _)
     ·rw [ZF c];exact hL
    ·exact .refl' rfl
theorem ZxG:Cs σ (ZbN s a b σ):=by
 unfold ZbN;exact(Cs.refl' (σ:=σ) (τ:=drop1 (li s a b) σ) rfl).trans (ZxE _ _)
theorem Zwz:∀ k,Cs σ (rings s k σ):=by
 have one:∀ (w i:Nat) (τ:TS),Cs τ (rung s w i τ):=fun w i τ=>by
  unfold rung;split
  ·exact ZmN (by show ¬ (4:Int)=1;decide) (by show ¬ (4:Int)=3;decide)
  ·exact .refl' rfl
 have ring:∀ (w n:Nat) (τ:TS),Cs τ (Ue s w n τ):=fun w n=>by
  induction n with
  | zero=>intro τ;exact .refl' rfl
  | succ n ih=>
    intro τ;rw [Ue];split
    ·exact .refl' rfl
    ·exact(one _ _ _).trans (ih _)
 intro k
 induction k with
 | zero=>exact .refl' rfl
 | succ k ih=>rw [rings];exact ih.trans (ring _ _ _)
theorem Zwe:f13 (stepW s y σ).ev=if y.act=1 then f13 σ.ev ++ [⟨1,((y.a.toNat:Nat):Int),((y.b.toNat:Nat):Int),σ.sd⟩] else if y.act=2 then f13 σ.ev ++ [⟨3,y.a,y.b,0⟩] else f13 σ.ev:=by
 have hr:f13 (stepW s y σ).ev=f13 (WZ s y σ).ev:=Zwz _;rw [hr];unfold WZ;by_cases k1:y.act=1
 ·rw [if_pos k1,if_pos k1];have h0:f13 (kK y.a.toNat y.b.toNat σ).ev=f13 σ.ev ++ [⟨1,((y.a.toNat:Nat):Int),((y.b.toNat:Nat):Int),σ.sd⟩]:=Ztb (l:=σ.ev) (e:= ⟨1,((y.a.toNat:Nat):Int),((y.b.toNat:Nat):Int),σ.sd⟩) (.inl rfl);split
  ·exact Eq.trans (Cs.see (σ:=kK y.a.toNat y.b.toNat σ) _ _ _) h0
  ·exact h0
 ·rw [if_neg k1,if_neg k1];by_cases k2:y.act=2
  ·rw [if_pos k2,if_pos k2];have h0:f13 (tell 3 y.a y.b 0 σ).ev=f13 σ.ev ++ [⟨3,y.a,y.b,0⟩]:=Ztb (l:=σ.ev) (e:= ⟨3,y.a,y.b,0⟩) (.inr rfl);split
   ·exact Eq.trans (Cs.note (s:=s) (σ:=tell 3 y.a y.b 0 σ) _ _) h0
   ·exact h0
  ·rw [if_neg k2,if_neg k2];split
   ·exact ZoO _ _ _
   ·exact ZxG
theorem ZzA:∀ r,Cs σ (drK s picks σ r):=by
 intro r
 induction r with
 | zero=>exact .refl' rfl
 | succ r ih=>
   rw [drK];split
   ·exact ih
   ·refine ih.trans ?_;unfold Cs;rw [Zwe,if_neg (show ¬ (ZeX s _).act=1 by show ¬ (4:Int)=1;decide),if_neg (show ¬ (ZeX s _).act=2 by show ¬ (4:Int)=2;decide)]
end
end
section
section
variable {s:Zb} {σ τ υ:TS} {F B a b p q w i j n d r v m:Nat} {x:Zd} {k:Nat} {y:ZE} {l:List ZE} {picks:List Int} {e:Zg}
def stp (l:List ZE) (L:List Int) (q:Nat):Bool:=L.any fun i=>((l.getD i.toNat default).act==3) && ((l.getD i.toNat default).a== (q:Int))
theorem ZeB {α:Type} {L:List α} {k:Nat} (h:k < L.length) (d:α):L.take (k + 1)=L.take k ++ [L.getD k d]:=by
 rw [List.take_succ_eq_append_getElem h,ZcG h]
end
end
section
def isE (d:Int) (p q:Nat) (n:Int) (e:Zg):Prop:=e.kZ=d∧e.kV= (p:Int)∧e.kX= (q:Int)∧e.n=n
def isM (p q:Nat) (n:Int) (x:Zd):Prop:=x.kW=1∧x.kV= (p:Int)∧x.kX= (q:Int)∧x.n=n
instance (d:Int) (p q:Nat) (n:Int) (e:Zg):Decidable (isE d p q n e):=by unfold isE;infer_instance
instance (p q:Nat) (n:Int) (x:Zd):Decidable (isM p q n x):=by unfold isM;infer_instance
def c4 (d:Int) (p q:Nat) (n:Int) (l:List Zg):Nat:=l.countP fun e=>decide (isE d p q n e)
def km (p q:Nat) (n:Int) (l:List Zd):Nat:=l.countP fun x=>decide (isM p q n x)
def ZpK (s:Zb) (σ:TS):Prop:=∀ p q N,p < nn s ->q < nn s ->σ.st p=1 ->c4 2 p q N σ.ev + km q p N (fl σ (li s (pl s q) (pl s p)))=c4 1 q p N σ.ev
section
variable {s:Zb} {σ τ υ:TS} {F B a b p q w i j d r v m p0 q0:Nat} {x:Zd} {k n N:Int} {e:Zg}
theorem ZlN {c d:Prop} [Decidable c] [Decidable d] (h:c↔d):one c=one d:=by
 by_cases z:c
 ·rw [Jb z,Jb (h.1 z)]
 ·rw [YD z,YD (fun w=>z (h.2 w))]
theorem Zel {α:Type} (c:α ->Prop) [DecidablePred c] (l:List α) (x:α):(l ++ [x]).countP (fun y=>decide (c y))=l.countP (fun y=>decide (c y)) + one (c x):=by
 rw [List.countP_append,List.countP_cons,List.countP_nil,Nat.zero_add];congr 1;by_cases z:c x
 ·rw [Jb z,if_pos (decide_eq_true z)]
 ·rw [YD z,if_neg (by simpa using z)]
theorem Zm8 (l:List Zg):c4 k p q n (l ++ [e])=c4 k p q n l + one (isE k p q n e):=Zel _ _ _
theorem ZHz (l:List Zd):km p q n (l ++ [x])=km p q n l + one (isM p q n x):=Zel _ _ _
theorem ZBB (l:List Zd):km p q n (x::l)=km p q n l + one (isM p q n x):=by
 unfold km;rw [List.countP_cons];congr 1;by_cases z:isM p q n x
 ·rw [Jb z,if_pos (decide_eq_true z)]
 ·rw [YD z,if_neg (by simpa using z)]
theorem ZsL (hl:σ.ld (li s a b) <= (σ.sn (li s a b)).length) (j:Nat):km p q n (fl (send s a b x σ) j)=km p q n (fl σ j) + (if j=li s a b then one (isM p q n x) else 0):=by
 by_cases e:j=li s a b
 ·subst e;rw [if_pos rfl,Zmn hl,ZHz]
 ·rw [if_neg e,Zeg e];rfl
theorem ZsM (hl:σ.ld i < (σ.sn i).length) (j:Nat):km p q n (fl σ j)=km p q n (fl (drop1 i σ) j) + (if j=i then one (isM p q n (hd σ i)) else 0):=by
 by_cases e:j=i
 ·subst e;rw [if_pos rfl,Zhv hl,ZBB];congr 2;show _= (σ.sn j).drop (Z0 σ.ld j (σ.ld j + 1) j);rw [Zq]
 ·rw [if_neg e,Nat.add_zero];congr 1;show _= (σ.sn j).drop (Z0 σ.ld i (σ.ld i + 1) j);rw [Zz e];rfl
structure UnM (σ τ:TS):Prop where
 l:∀ p q N i,km p q N (fl τ i)=km p q N (fl σ i)
 e:∀ k p q N,k=1∨k=2 ->c4 k p q N τ.ev=c4 k p q N σ.ev
theorem UnM.trans (h:UnM σ τ) (h':UnM τ υ):UnM σ υ:= ⟨fun p q N i=>(h'.l p q N i).trans (h.l p q N i),fun k p q N hk=>(h'.e k p q N hk).trans (h.e k p q N hk)⟩
theorem UnM.refl' (h1:τ.sn=σ.sn) (h2:τ.ld=σ.ld) (h3:τ.ev=σ.ev):UnM σ τ:= ⟨fun p q N i=>by unfold fl;rw [h1,h2],fun k p q N _=>by rw [h3]⟩
theorem ZpK.un (h:ZpK s σ) (u:UnM σ τ) (h1:∀ p,p < nn s ->τ.st p=1 ->σ.st p=1):ZpK s τ:=fun p q N hp hq z=>by
 rw [u.e 2 p q N (.inr rfl),u.e 1 q p N (.inl rfl),u.l];exact h p q N hp hq (h1 p hp z)
theorem UnM.send (hl:σ.ld (li s a b) <= (σ.sn (li s a b)).length) (h:x.kW ≠ 1):UnM σ (Proofs.YtcnahmgekicbdaaGreat.send s a b x σ):=
 ⟨fun p q N i=>by rw [ZsL hl,YD (fun z=>h z.1)];split <;> rfl,fun _ _ _ _ _=>rfl⟩
theorem UnM.drop (hl:σ.ld i < (σ.sn i).length) (h:(hd σ i).kW ≠ 1):UnM σ (drop1 i σ):=
 ⟨fun p q N j=>by rw [ZsM hl j,YD (fun z=>h z.1)];split <;> rfl,fun _ _ _ _ _=>rfl⟩
theorem UnM.tell (h1:k ≠ 1) (h2:k ≠ 2) (p q n:Int):UnM σ (Proofs.YtcnahmgekicbdaaGreat.tell k p q n σ):=
 ⟨fun _ _ _ _=>rfl,fun k' p' q' N hk=>by
   show c4 k' p' q' N (σ.ev ++ [_])=_;rw [Zm8,YD];· rfl
   ·rintro⟨z,_⟩;have z:k=k':=z;rcases hk with rfl | rfl
    ·exact h1 z
    ·exact h2 z⟩
theorem UnM.YP (hl:∀ i,σ.ld i <= (σ.sn i).length) (p q:Nat):UnM σ (Proofs.YtcnahmgekicbdaaGreat.YP s p q σ):=by
 unfold Proofs.YtcnahmgekicbdaaGreat.YP;split
 ·exact .refl' rfl rfl rfl
 ·exact .send (hl _) (by show ¬ (5:Int)=1;decide)
theorem UnM.note (hl:∀ i,σ.ld i <= (σ.sn i).length) (p q:Nat):UnM σ (Proofs.YtcnahmgekicbdaaGreat.note s p q σ):=by
 unfold Proofs.YtcnahmgekicbdaaGreat.note;split
 ·exact .YP hl p q
 ·exact .refl' rfl rfl rfl
theorem UnM.Zr (p:Nat):∀ (l:List Int) (σ:TS),(∀ i,σ.ld i <= (σ.sn i).length) ->UnM σ (Zr s p l σ):=by
 intro l
 induction l with
 | nil=>intro σ _;exact .refl' rfl rfl rfl
 | cons x l ih=>intro σ hl;exact(UnM.YP hl x.toNat p).trans (ih _ (Ztz hl _ _))
theorem UnM.ZM (hl:∀ i,σ.ld i <= (σ.sn i).length) (p:Nat):UnM σ (Proofs.YtcnahmgekicbdaaGreat.ZM s p σ):=by
 have h0:UnM σ (Jd p σ):= ⟨fun _ _ _ _=>rfl,(UnM.tell (σ:=σ) (k:=6) (by decide) (by decide) p 0 0).e⟩
 exact(h0.trans (UnM.Zr (s:=s) p (σ.wa p) (Jd p σ) hl)).trans (.refl' rfl rfl rfl)
theorem ZlB (p q:Nat) (n:Int) (k:Int) (p' q':Nat) (N:Int):c4 k p' q' N (see p q n σ).ev=c4 k p' q' N σ.ev + (if σ.st p=1 then one (isE k p' q' N ⟨2,(p:Int),(q:Int),n⟩) else 0):=by
 unfold see;split
 ·exact Zm8 _
 ·rfl
theorem ZpK.act (hS:Xk s) (h1:P1 s σ) (h2:P2 s σ) (h:ZpK s σ) (ac:Act s σ τ):ZpK s τ:=by
 have hl0:=h2.ld;have ZXE:∀ {a b a' b':Nat},b < mm s ->b' < mm s ->(li s a b=li s a' b'↔a=a'∧b=b'):=fun hb hb'=>⟨fun z=>ZlW hb hb' z,fun z=>by rw [z.1,z.2]⟩
 cases ac with
 | @fall p hp hst=>
   exact h.un ⟨fun _ _ _ _=>rfl,(UnM.tell (σ:=σ) (k:=5) (by decide) (by decide) p 0 0).e⟩ fun q hq z=>by
    have z:Z0 σ.st p 2 q=1:=z;by_cases e:q=p
    ·subst e;exact hst
    ·rw [Zz e] at z;exact z
 | @Ux p k=>exact h.un (.send (hl0 _) (by show ¬ (3:Int)=1;decide)) fun q _ z=>z
 | @die p hp hst hA=>
   have sA:=Qj (s:=s) p σ;have uA:UnM σ (ZM s p σ):= .ZM hl0 p
   have e1:∀ q,(JU s p σ).st q=1 ->σ.st q=1:=fun q z=>by
    rw [Zts] at z;by_cases e:q=p
    ·rw [e,Zq] at z;cases z
    ·rw [Zz e] at z;exact z
   refine h.un ?_ fun q _ z=>e1 q z
   unfold JU;split
   ·exact uA
   ·split
    ·exact uA.trans (.refl' rfl rfl rfl)
    ·exact uA.trans (.send (by rw [sA.2.2.1];exact Nat.le_trans (hl0 _) (SnM.ZM p _)) (by show ¬ (4:Int)=1;decide))
 | @Zbe p0 q0 hp0 hq0 hst e0=>
   intro p q N hp hq z;have zs:= (XT q0 p0 σ.sd (kK p0 q0 σ))
   have z:σ.st p=1:=by rw [zs.1] at z;exact z
   have hb:=h p q N hp hq z
   have el:fl (see q0 p0 σ.sd (kK p0 q0 σ)) (li s (pl s q) (pl s p))=fl σ (li s (pl s q) (pl s p)):=by
    unfold fl;rw [zs.2.2.2.1,zs.2.2.2.2.1];rfl
   have es:∀ k p q N,c4 k p q N (kK p0 q0 σ).ev=c4 k p q N σ.ev + one (isE k p q N ⟨1,(p0:Int),(q0:Int),σ.sd⟩):=fun _ _ _ _=>Zm8 _
   rw [el,ZlB,ZlB,es,es];rw [YD (c:=isE 2 p q N ⟨1,(p0:Int),(q0:Int),σ.sd⟩) (fun w=>absurd w.1 (by show ¬ (1:Int)=2;decide)),YD (c:=isE 1 q p N ⟨2,(q0:Int),(p0:Int),σ.sd⟩) (fun w=>absurd w.1 (by show ¬ (2:Int)=1;decide))]
   have hiff:isE 2 p q N ⟨2,(q0:Int),(p0:Int),σ.sd⟩↔isE 1 q p N ⟨1,(p0:Int),(q0:Int),σ.sd⟩:=by
    constructor
    ·rintro⟨_,w1,w2,w3⟩;exact⟨rfl,w2,w1,w3⟩
    ·rintro⟨_,w1,w2,w3⟩;exact⟨rfl,w2,w1,w3⟩
   have hone:=ZlN hiff;have hst':(kK p0 q0 σ).st q0=σ.st q0:=rfl;rw [hst'];by_cases c:isE 1 q p N ⟨1,(p0:Int),(q0:Int),σ.sd⟩
   ·have:q0=p:=by have:(q0:Int)= (p:Int):=c.2.2.1;omega
    rw [this,if_pos z,if_pos z];rw [this] at hone;omega
   ·rw [YD c] at hone ⊢;rw [hone];split <;> omega
 | @Zbd p0 q0 hp0 hq0 hst e0=>
   intro p q N hp hq z;have z:σ.st p=1:=z;have hb:=h p q N hp hq z;have es:∀ k p q N,c4 k p q N (kK p0 q0 σ).ev=c4 k p q N σ.ev + one (isE k p q N ⟨1,(p0:Int),(q0:Int),σ.sd⟩):=fun _ _ _ _=>Zm8 _
   show c4 2 p q N (kK p0 q0 σ).ev + km q p N (fl (send s (pl s p0) (pl s q0) ⟨1,(p0:Int),(q0:Int),σ.sd,[]⟩ (kK p0 q0 σ)) (li s (pl s q) (pl s p)))=c4 1 q p N (kK p0 q0 σ).ev;rw [ZsL (σ:=kK p0 q0 σ) (hl0 _),es,es,YD (c:=isE 2 p q N ⟨1,(p0:Int),(q0:Int),σ.sd⟩) (fun w=>absurd w.1 (by show ¬ (1:Int)=2;decide))];have el:fl (kK p0 q0 σ) (li s (pl s q) (pl s p))=fl σ (li s (pl s q) (pl s p)):=rfl;rw [el];have hone:one (isM q p N ⟨1,(p0:Int),(q0:Int),σ.sd,[]⟩)=one (isE 1 q p N ⟨1,(p0:Int),(q0:Int),σ.sd⟩):=ZlN Iff.rfl;rw [hone];by_cases c:isE 1 q p N ⟨1,(p0:Int),(q0:Int),σ.sd⟩
   ·have e1:p0=q:=by have:(p0:Int)= (q:Int):=c.2.1;omega
    have e2:q0=p:=by have:(q0:Int)= (p:Int):=c.2.2.1;omega
    rw [e1,e2,if_pos rfl];rw [e1,e2] at c;omega
   ·rw [YD c];split <;> omega
 | @Za9 p0 q0 hp0 hq0 hst e0=>
   refine h.un ((UnM.tell (σ:=σ) (k:=3) (by decide) (by decide) p0 q0 0).trans (.note (σ:=tell 3 p0 q0 0 σ) hl0 _ _)) fun q _ z=>?_
   rw [(Xf (s:=s) p0 q0 (tell 3 p0 q0 0 σ)).1] at z;exact z
 | @Za8 p0 q0 hp0 hq0 hst e0=>
   exact h.un ((UnM.tell (σ:=σ) (k:=3) (by decide) (by decide) p0 q0 0).trans (.send (σ:=tell 3 p0 q0 0 σ) (hl0 _) (by show ¬ (2:Int)=1;decide))) fun q _ z=>z
 | @Zbs a b p0 q0 ha hb hl hk hpe hqe hp0 hq0=>
   intro p q N hp hq z;have zs:= (XT q0 p0 (hd σ (li s a b)).n (drop1 (li s a b) σ))
   have z:σ.st p=1:=by rw [zs.1] at z;exact z
   have ZSH:=h p q N hp hq z
   have el:fl (see q0 p0 (hd σ (li s a b)).n (drop1 (li s a b) σ)) (li s (pl s q) (pl s p))=fl (drop1 (li s a b) σ) (li s (pl s q) (pl s p)):=by
    unfold fl;rw [zs.2.2.2.1,zs.2.2.2.2.1]
   have hkd:=ZsM (p:=q) (q:=p) (n:=N) hl (li s (pl s q) (pl s p));rw [el,ZlB,ZlB,YD (c:=isE 1 q p N ⟨2,(q0:Int),(p0:Int),(hd σ (li s a b)).n⟩) (fun w=>absurd w.1 (by show ¬ (2:Int)=1;decide))];have ez:(if(drop1 (li s a b) σ).st q0=1 then 0 else 0)=0:=by split <;> rfl
   rw [ez];have hst':(drop1 (li s a b) σ).st q0=σ.st q0:=rfl;have ZH6:(drop1 (li s a b) σ).ev=σ.ev:=rfl;rw [hst',ZH6]
   have hone:one (isM q p N (hd σ (li s a b)))=one (isE 2 p q N ⟨2,(q0:Int),(p0:Int),(hd σ (li s a b)).n⟩):=by
    refine ZlN ⟨fun w=>?_,fun w=>?_⟩
    ·obtain⟨_,w1,w2,w3⟩:=w;exact⟨rfl,by rw [← hqe];exact w2,by rw [← hpe];exact w1,w3⟩
    ·obtain⟨_,w1,w2,w3⟩:=w;exact⟨hk,by rw [hpe];exact w2,by rw [hqe];exact w1,w3⟩
   have hlet:=h1.lets a b ha hb (hd σ (li s a b)) (by unfold hd;exact XK hl);obtain⟨p1,e1,hp1,_,c⟩:=hlet
   have hpq:pl s p0=a∧pl s q0=b:=by
    rcases c with⟨_,c1,q1,c2,_,c3⟩ | ⟨k',_⟩ | ⟨k',_⟩ | ⟨k',_⟩ | ⟨k',_⟩
    ·have x1:p0=p1:=by omega
     have x2:q0=q1:=by omega
     rw [x1,x2];exact⟨c1,c3⟩
    ·omega
    ·omega
    ·omega
    ·omega
   by_cases c:isE 2 p q N ⟨2,(q0:Int),(p0:Int),(hd σ (li s a b)).n⟩
   ·have x1:q0=p:=by have:(q0:Int)= (p:Int):=c.2.1;omega
    have x2:p0=q:=by have:(p0:Int)= (q:Int):=c.2.2.1;omega
    subst x1 x2;rw [hpq.1,hpq.2,if_pos rfl] at hkd;rw [if_pos z];rw [hpq.1,hpq.2] at ZSH ⊢;omega
   ·rw [YD c] at hone ⊢;rw [hone] at hkd;have ez':(if σ.st q0=1 then 0 else 0)=0:=by split <;> rfl
    have ez2:(if li s (pl s q) (pl s p)=li s a b then 0 else 0)=0:=by split <;> rfl
    rw [ez'];rw [ez2] at hkd;omega
 | @Zbu a b p q ha hb hl hk hpe hqe hp hq=>
   refine h.un ((UnM.drop hl (by omega)).trans (.note (σ:=drop1 (li s a b) σ) (h2.drop hl).ld _ _)) fun r _ z=>?_
   rw [(Xf (s:=s) p q (drop1 (li s a b) σ)).1] at z;exact z
 | @ZaM a b p ha hb hl hk=>exact h.un (UnM.drop hl (by omega)) fun q _ z=>z
 | @Zau a b p ha hb hl hk=>exact h.un ((UnM.drop hl (by omega)).trans (.refl' rfl rfl rfl)) fun q _ z=>z
 | @Zbt a b ha hb hl hk=>exact h.un ((UnM.drop hl (by omega)).trans (.refl' rfl rfl rfl)) fun q _ z=>z
 | @ring w i=>
   have zb:=Qi s w i σ;refine h.un ?_ fun q _ z=>by rw [zb.2.2.1] at z;exact z
   unfold rung;split
   ·exact(UnM.refl' (σ:=σ) (τ:= {σ with be:=Z0 σ.be w (Zbz (σ.be w) i)}) rfl rfl rfl).trans (.tell (by decide) (by decide) _ _ _)
   ·exact .refl' rfl rfl rfl
theorem Zu1 (hS:Xk s) (h:Qq s ts0 σ):ZpK s σ:=
 (h.keep (P:=fun σ=>ZdN s σ∧ZpK s σ) (fun _ _ ⟨a,b⟩ ac=>⟨a.act hS ac,b.act hS a.p1 a.p2 ac⟩) ⟨ZaP hS .refl,fun p q N _ _ _=>rfl⟩).2
theorem ZkB (hS:Xk s) (hac:Qq s ts0 σ) (he:opens s σ= []) (hp:p < nn s) (hq:q < nn s) (hst:σ.st p=1) (N:Int):c4 2 p q N σ.ev=c4 1 q p N σ.ev:=by
 have h:=Zu1 hS hac p q N hp hq hst;have hI:=ZaP hS hac
 have hz:fl σ (li s (pl s q) (pl s p))= []:=by
  unfold fl;rw [ZeG hI.p2 he (J3 (hS.pl hq).2 (hS.pl hp).2)];exact List.drop_length
 rw [hz] at h;exact h
theorem ZzJ {l:List Zg}:c4 1 p q N (f13 l)=c4 1 p q N l:=by
 induction l with
 | nil=>rfl
 | cons x l ih=>
   unfold f13 c4 at *;rw [List.filter_cons];by_cases c:((x.kZ==1) || (x.kZ==3))=true
   ·rw [if_pos c,List.countP_cons,List.countP_cons,ih]
   ·rw [if_neg c,List.countP_cons,ih,if_neg]
    ·rfl
    ·intro z;have z:= (of_decide_eq_true z).1;rw [z] at c;exact c rfl
theorem ZzK {l:List Zg} {u v:Int}:c3 (f13 l) 3 u v=c3 l 3 u v:=by
 induction l with
 | nil=>rfl
 | cons x l ih=>
   unfold f13 c3 at *;rw [List.filter_cons];by_cases c:((x.kZ==1) || (x.kZ==3))=true
   ·rw [if_pos c,List.countP_cons,List.countP_cons,ih]
   ·rw [if_neg c,List.countP_cons,ih,if_neg]
    ·rfl
    ·intro z;simp only [Ba0,beq_iff_eq] at z;rw [z.1.1] at c;exact c rfl
end
end
section
section
variable {κ ν:Type} [DecidableEq κ]
def UK (l:List (κ×ν)):Prop:= (l.map (·.1)).Nodup
theorem UK.Kk {l:List (κ×ν)} (u:UK l) (k:κ) (x:ν):UK (Kk l k x):=by
 unfold Go.Lf.Kk;cases e:YR l k with
 | some q=>
   unfold UK at u ⊢
   have:(l.modify q.1 fun p=>(p.1,x)).map (·.1)=l.map (·.1):=by
    apply List.ext_getElem?;intro i;rw [List.getElem?_map,List.getElem?_map,List.getElem?_modify];cases l[i]? with
    | none=>rfl
    | some p=>simp only [Option.map_some];split <;> rfl
   dsimp only;rw [this];exact u
 | none=>
   unfold UK at u ⊢;dsimp only;rw [List.map_append,List.nodup_append];refine⟨u,by simp,fun a ha b hb=>?_⟩;simp at hb;subst hb;obtain⟨p,hp,rfl⟩:=List.mem_map.1 ha;exact Zd6.1 e p hp
theorem Zqx (p:κ×ν) (l:List (κ×ν)) (k:κ):YR (p::l) k=if p.1=k then some (0,p.2) else(YR l k).map fun q=>(q.1 + 1,q.2):=rfl
theorem UK.K9 {l:List (κ×ν)} (u:UK l) (k:κ) (z:ν):UK (K9 l k z):=by
 unfold Go.Lf.K9;cases e:YR l k with
 | some q=>exact u
 | none=>
   have:Go.Lf.Kk l k z=l ++ [(k,z)]:=by unfold Go.Lf.Kk;rw [e]
   dsimp only;rw [← this];exact u.Kk k z
theorem UK.get:∀ {l:List (κ×ν)},UK l ->∀ {k:κ} {x:ν},(k,x) ∈ l ->JE l k=some x
 | [],_,_,_,h=>by simp at h
 | p::l,u,k,x,h=>by
   have u':UK l:=by unfold UK at u ⊢;rw [List.map_cons,List.nodup_cons] at u;exact u.2
   have hp:p.1 ∉ l.map (·.1):=by unfold UK at u;rw [List.map_cons,List.nodup_cons] at u;exact u.1
   unfold JE;rw [Zqx];rcases List.mem_cons.1 h with z | z
   ·subst z;simp
   ·have hne:¬ p.1=k:=fun e=>hp (by rw [e];exact List.mem_map_of_mem (f:= (·.1)) z)
    rw [if_neg hne];have:=u'.get z;unfold JE at this;cases e:YR l k with
    | none=>rw [e] at this;cases this
    | some q=>rw [e] at this;simpa using this
end
abbrev Sm:=List (YS×Int)
def mg (m:Sm) (K:YS):Int:= (JE m K).getD 0
def isS (p:Nat) (K:YS) (e:Zg):Prop:= (e.kV= (p:Int)∧e.kZ=2)∧YS.mk e.kX e.n=K
instance (p:Nat) (K:YS) (e:Zg):Decidable (isS p K e):=by unfold isS;infer_instance
def cK (p:Nat) (K:YS) (l:List Zg):Nat:=l.countP fun e=>decide (isS p K e)
def Zhb (f:Int ->Int) (p:Nat) (m:Sm) (e:Zg):Sm:=if e.kV= (p:Int)∧e.kZ=2 then Kk (K9 m ⟨e.kX,e.n⟩ 0) ⟨e.kX,e.n⟩ (f (mg m ⟨e.kX,e.n⟩)) else m
def sml (f:Int ->Int) (p:Nat) (m:Sm) (l:List Zg):Sm:=l.foldl (Zhb f p) m
section
variable {s:Zb} {σ τ υ:TS} {F B a b p q w i j d r v p0 q0:Nat} {x:Zd} {k:Nat} {n N:Int} {e:Zg} {m:Sm} {K:YS} {f:Int ->Int} {L:List Zg} {l:List ZE} {picks:List Int}
theorem UK.Zhb (u:UK m):UK (Zhb f p m e):=by
 unfold Proofs.YtcnahmgekicbdaaGreat.Zhb;split
 ·exact(u.K9 _ _).Kk _ _
 ·exact u
theorem ZBv (u:UK m):mg (Zhb f p m e) K=if isS p K e then f (mg m K) else mg m K:=by
 unfold Proofs.YtcnahmgekicbdaaGreat.Zhb;by_cases c:e.kV= (p:Int)∧e.kZ=2
 ·rw [if_pos c];by_cases c2:YS.mk e.kX e.n=K
  ·rw [if_pos ⟨c,c2⟩,c2];unfold mg;rw [ZkP,if_pos rfl];rfl
  ·rw [if_neg (fun z=>c2 z.2)];unfold mg;rw [ZkP,if_neg (fun z=>c2 z.symm),ZkQ,if_neg (fun z=>c2 z.symm)]
 ·rw [if_neg c,if_neg (fun z=>c z.1)]
theorem ZJv:cK p K (L ++ [e])=cK p K L + one (isS p K e):=Zel _ _ _
theorem ZE0:cK p K L <=L.length:=List.countP_le_length
theorem Zsa (c:Int) (hc:c=1∨c=-1) (hf:∀ x,f x=YA (x + c)) (u:UK m) (hm:∀ K,-10000 <=mg m K∧mg m K <=10000):∀ (n:Nat),n <=L.length ->L.length <=100000 ->UK (sml f p m (L.take n))∧∀ K,mg (sml f p m (L.take n)) K=mg m K + c * (cK p K (L.take n):Int):=by
 intro n
 induction n with
 | zero=>intro _ _;exact⟨u,fun K=>by show mg m K=mg m K + c * ((0:Nat):Int);simp⟩
 | succ n ih=>
   intro hn hl;obtain⟨h1,h2⟩:=ih (by omega) hl
   have e1:sml f p m (L.take (n + 1))=Zhb f p (sml f p m (L.take n)) (L.getD n default):=by
    rw [ZeB (show n < L.length by omega) default];unfold sml;rw [List.foldl_append];rfl
   rw [e1];refine⟨h1.Zhb,fun K=>?_⟩;rw [ZBv h1,ZeB (show n < L.length by omega) default,ZJv,h2 K,hf];have hle:=ZE0 (p:=p) (K:=K) (L:=L.take n);rw [List.length_take] at hle;have:=hm K;by_cases z:isS p K (L.getD n default)
   ·rw [if_pos z,Jb z];rcases hc with rfl | rfl
    ·rw [WN (by omega) (by omega)];omega
    ·rw [WN (by omega) (by omega)];omega
   ·rw [if_neg z,YD z];simp
theorem ZE1 (hq:K.e0= (q:Int)):cK p K L=c4 2 p q K.e1 L:=by
 unfold cK c4;refine List.countP_congr fun e _=>?_
 rw [decide_eq_true_iff,decide_eq_true_iff];unfold isS isE
 constructor
 ·rintro⟨⟨h1,h2⟩,h3⟩;rw [← h3] at hq ⊢;exact⟨h2,h1,hq,rfl⟩
 ·rintro⟨h1,h2,h3,h4⟩;refine⟨⟨h2,h1⟩,?_⟩;cases K with
  | mk u v=>rw [h3,h4];congr 1;exact hq.symm
theorem Ztw (hr:EvR s σ) (h:∀ q:Nat,q < nn s ->K.e0 ≠ (q:Int)):cK p K σ.ev=0:=by
 unfold cK;rw [List.countP_eq_zero];intro e he z;obtain⟨_,⟨q,eq,hq⟩⟩:=hr e he;have z:=of_decide_eq_true z;refine h q hq ?_;rw [← eq,← z.2]
theorem ZkR {b:YS ->Int ->Option (Option Bool)} (hb:∀ K,b K 0=some (some false)):∀ (m:Sm),(∀ x ∈ m,x.2=0) ->∃ k,Zxw b m=some (some k)
 | [],_=>⟨0,rfl⟩
 | x::r,h=>by
   obtain⟨k,hk⟩:=ZkR hb r fun y hy=>h y (by simp [hy])
   refine⟨k,?_⟩;show(b x.1 x.2).bind _=_;rw [h x (by simp),hb,hk];rfl
theorem Zrg (hS:Xk s) (h1:Qq s ts0 σ) (h2:Qq s ts0 τ) (e1:opens s σ= []) (e2:opens s τ= []) (hf:f13 σ.ev=f13 τ.ev) (hp:p < nn s) (s1:σ.st p=1) (s2:τ.st p=1) (K:YS):cK p K σ.ev=cK p K τ.ev:=by
 by_cases c:∃ q:Nat,q < nn s∧K.e0= (q:Int)
 ·obtain⟨q,hq,e⟩:=c;rw [ZE1 e,ZE1 e,ZkB hS h1 e1 hp hq s1,ZkB hS h2 e2 hp hq s2,← ZzJ (l:=σ.ev),← ZzJ (l:=τ.ev),hf]
 ·rw [Ztw (Zjk hS h1) fun q hq z=>c ⟨q,hq,z⟩,Ztw (Zjk hS h2) fun q hq z=>c ⟨q,hq,z⟩]
end
theorem ZjH (s:Zb) (l:List ZE) (picks kX:List Int) (hpl:picks.length <=9223372036854775807) (hol:kX.length <=9223372036854775807):Zzt (1000000 + picks.length + kX.length) s l picks kX=some true:=by
 obtain⟨F,eF⟩:∃ F,F=1000000 + picks.length + kX.length:= ⟨_,rfl⟩
 have hF:1000000 <=F:=by omega
 rw [← eF];unfold Zzt
 obtain⟨g,hg,hgt⟩:=ZyP (s:=s) (l:=l) hF (pp:= [picks,kX]) (by simp) (fun x hx=>by
  rcases List.mem_cons.1 hx with z | z
  ·rw [z];exact⟨by omega,hpl⟩
  ·rw [List.mem_singleton.1 z];exact⟨by omega,hol⟩)
 rw [hg];simp only [Bq0];cases g with
 | false=>rfl
 | true=>
 have hG:=hgt rfl picks (by simp);have hG2:=hgt rfl kX (by simp);have hS:=hG.1;have h8:nn s <=8:=hS.p2;obtain⟨n,hn,he,ok,ac,ac2,e2,hdr⟩:=Zjr hF hG;obtain⟨n',hn',he',ok',ac',ZWt,e2',hdr'⟩:=Zjr hF hG2;rw [hdr,hdr'];simp only [Bool.not_true,Cq0,Bq0,Bool.or_false]
 have hst:∀ p,p < nn s ->(Jv s l picks n).st p= (Jv s l kX n').st p:=fun p hp=>by
  have z1:=Zzx hS ac he hp;have z2:=Zzx hS ac' he' hp;rcases Classical.em (FZ s l p) with c | c
  ·rw [z1.1 c,z2.1 c]
  ·rw [z1.2 c,z2.2 c]
 have hf:f13 (Jv s l picks n).ev=f13 (Jv s l kX n').ev:=by
  have c1:Cs (Xg s l l.length).1 (Jv s l picks n):=ZzA n;have c2:Cs (Xg s l l.length).1 (Jv s l kX n'):=ZzA n';exact Eq.trans c1 c2.symm
 obtain⟨σ,hσ⟩:∃ σ,σ=Jv s l picks n:= ⟨_,rfl⟩
 obtain⟨τ,hτ⟩:∃ τ,τ=Jv s l kX n':= ⟨_,rfl⟩
 have ZSp:NoR s σ:=by rw [hσ];exact Zto (Zoc _) _
 have ZNN:NoR s τ:=by rw [hτ];exact Zto (Zoc _) _
 rw [← hσ] at he ok ac ac2 e2 hst hf ⊢;rw [← hτ] at he' ok' ac' ZWt e2' hst hf ⊢;obtain⟨hB,hM⟩:=Zpx hS ac;obtain⟨hB',hM'⟩:=Zpx hS ac';have hev:σ.ev.length <=9000:=by have:=ok.gd.wf.pot;unfold Pot at this;omega
 have ZH6:τ.ev.length <=9000:=by have:=ok'.gd.wf.pot;unfold Pot at this;omega
 refine XO (fun k=>(k:Int)) rfl (n:=nn s) (by omega) (fun p hp next=>?_) (fun next=>?_)
 ·have fin:Zgq (p:Int) next ()=next (((p + 1:Nat):Int)):=by unfold Zgq;rw [QI (by omega)]
  unfold ZmS;dsimp only;rw [show(vw s σ).qV=tab (nn s) σ.st from rfl,show(vw s τ).qV=tab (nn s) τ.st from rfl,Qh,YU hp,Cq1,Yx hp,Yx hp];simp only [Bq0];rw [hst p hp,Zdh,Cq0,ZbD];by_cases s1:τ.st p=1
  ·rw [decide_eq_false (fun z=>z s1),Cq0];have s0:σ.st p=1:=by rw [hst p hp];exact s1
   have um0:UK ([]:Sm):=List.nodup_nil;have mg0:∀ K,mg ([]:Sm) K=0:=fun K=>rfl
   have up:=fun n hn=>Zsa (f:=fun x=>YA (x + 1)) (p:=p) (m:= ([]:Sm)) (L:=σ.ev) 1 (.inl rfl) (fun _=>rfl) um0 (fun K=>by rw [mg0];omega) n hn (by omega)
   obtain⟨uA,gA⟩:=up σ.ev.length (Nat.le_refl _);obtain⟨mA,hmA⟩:∃ mA,mA=sml (fun x=>YA (x + 1)) p [] (σ.ev.take σ.ev.length):= ⟨_,rfl⟩
   rw [← hmA] at uA gA
   have bA:∀ K,-10000 <=mg mA K∧mg mA K <=10000:=fun K=>by
    rw [gA,mg0];have:=ZE0 (p:=p) (K:=K) (L:=σ.ev.take σ.ev.length);rw [List.take_length] at this ⊢;omega
   refine XO (fun k=>((k:Int),sml (fun x=>YA (x + 1)) p [] (σ.ev.take k))) rfl (n:=σ.ev.length) (by omega) (fun k hk nx=>?_) (fun nx=>?_)
   ·have Zy6:∀ m',Zgp (k:Int) nx m'=nx (((k + 1:Nat):Int),m'):=fun m'=>by unfold Zgp;rw [QI (by omega)]
    unfold ZmR;dsimp only;rw [YU hk,Cq1,QD default hk];simp only [Bq0]
    have e1:sml (fun x=>YA (x + 1)) p [] (σ.ev.take (k + 1))=Zhb (fun x=>YA (x + 1)) p (sml (fun x=>YA (x + 1)) p [] (σ.ev.take k)) (σ.ev.getD k default):=by
     rw [ZeB hk default];unfold sml;rw [List.foldl_append];rfl
    rw [e1];unfold Zhb;by_cases c:(σ.ev.getD k default).kV= (p:Int)∧(σ.ev.getD k default).kZ=2
    ·rw [if_pos c,c.1,c.2];simp only [beq_self_eq_true,Bool.and_self,Cq1];unfold Zj1;simp only [Bq0];exact Zy6 _
    ·rw [if_neg c]
     have:(((σ.ev.getD k default).kV== (p:Int)) && ((σ.ev.getD k default).kZ==2))=false:=by
      rw [Bool.eq_false_iff];intro z;simp only [Ba0,beq_iff_eq] at z;exact c z
     rw [this,Cq0];exact Zy6 _
   ·unfold ZmR;dsimp only;rw [Xb,Cq0,← hmA];have dn:=fun n hn=>Zsa (f:=fun x=>YA (x - 1)) (p:=p) (m:=mA) (L:=τ.ev) (-1) (.inr rfl) (fun _=>rfl) uA bA n hn (by omega)
    obtain⟨uB,gB⟩:=dn τ.ev.length (Nat.le_refl _);refine XO (fun k=>((k:Int),sml (fun x=>YA (x - 1)) p mA (τ.ev.take k))) rfl (n:=τ.ev.length) (by omega) (fun k hk nx'=>?_) (fun nx'=>?_)
    ·have Zy6:∀ m',Zgo (k:Int) nx' m'=nx' (((k + 1:Nat):Int),m'):=fun m'=>by unfold Zgo;rw [QI (by omega)]
     unfold ZmQ;dsimp only;rw [YU hk,Cq1,QD default hk];simp only [Bq0]
     have e1:sml (fun x=>YA (x - 1)) p mA (τ.ev.take (k + 1))=Zhb (fun x=>YA (x - 1)) p (sml (fun x=>YA (x - 1)) p mA (τ.ev.take k)) (τ.ev.getD k default):=by
      rw [ZeB hk default];unfold sml;rw [List.foldl_append];rfl
     rw [e1];unfold Zhb;by_cases c:(τ.ev.getD k default).kV= (p:Int)∧(τ.ev.getD k default).kZ=2
     ·rw [if_pos c,c.1,c.2];simp only [beq_self_eq_true,Bool.and_self,Cq1];unfold Zj1;simp only [Bq0];exact Zy6 _
     ·rw [if_neg c]
      have:(((τ.ev.getD k default).kV== (p:Int)) && ((τ.ev.getD k default).kZ==2))=false:=by
       rw [Bool.eq_false_iff];intro z;simp only [Ba0,beq_iff_eq] at z;exact c z
      rw [this,Cq0];exact Zy6 _
    ·unfold ZmQ;dsimp only;rw [Xb,Cq0]
     have hz:∀ K,mg (sml (fun x=>YA (x - 1)) p mA (τ.ev.take τ.ev.length)) K=0:=fun K=>by
      rw [gB,gA,mg0,List.take_length,List.take_length,Zrg hS ac ac' he he' hf hp s0 s1 K];omega
     obtain⟨kk,hkk⟩:=ZkR (b:=Zre) (fun K=>rfl) (sml (fun x=>YA (x - 1)) p mA (τ.ev.take τ.ev.length)) (fun x hx=>by
      have h1:=hz x.1;unfold mg at h1;rw [uB.get (k:=x.1) (x:=x.2) hx] at h1;exact h1)
     rw [hkk];simp only [Bq0,Option.elim_some];refine XO (fun k=>(k:Int)) rfl (n:=nn s) (by omega) (fun q hq nx3=>?_) (fun nx3=>?_)
     ·unfold ZmP;dsimp only;rw [show((s.Zf.length:Nat):Int)= ((nn s:Nat):Int) from rfl,YU hq,Cq1,Zll (by omega) hev,Zll (by omega) ZH6];simp only [Bq0];obtain⟨r1,r2,r3⟩:=ZnZ hS ok.p2 hM ZSp he hB hp hq;obtain⟨r1',r2',r3'⟩:=ZnZ hS ok'.p2 hM' ZNN he' hB' hp hq;unfold ec at r1 r2 r3 r1' r2' r3';have h3:c3 σ.ev 3 p q=c3 τ.ev 3 p q:=by rw [← ZzK (l:=σ.ev),← ZzK (l:=τ.ev),hf]
      have h4:c3 σ.ev 4 p q=c3 τ.ev 4 p q:=by
       by_cases z:τ.st q=3
       ·rw [r3 s0 (by rw [hst q hq];exact z),r3' s1 z,h3]
       ·have z1:¬ 0 < c3 σ.ev 4 p q:=fun w=>z (by rw [← hst q hq];exact r2 w)
        have z2:¬ 0 < c3 τ.ev 4 p q:=fun w=>z (r2' w)
        omega
      rw [h4,Zdh,Cq0,QI (by omega)]
     ·unfold ZmP;dsimp only;rw [show((s.Zf.length:Nat):Int)= ((nn s:Nat):Int) from rfl,Xb,Cq0];exact fin
  ·rw [decide_eq_true s1,Cq1];exact fin
 ·unfold ZmS;dsimp only;rw [show(vw s σ).qV=tab (nn s) σ.st from rfl,Qh,Xb,Cq0];rfl
end
end Go.Proofs.YtcnahmgekicbdaaGreat
end
