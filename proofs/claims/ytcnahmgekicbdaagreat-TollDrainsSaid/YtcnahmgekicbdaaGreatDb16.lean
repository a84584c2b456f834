/- Part 16. -/
import Derived.Test.YtcnahmgekicbdaaGreatDb15
set_option linter.all false
set_option maxHeartbeats 2000000
section
namespace Go.Proofs.YtcnahmgekicbdaaGreat
open Go.Lf
section
def ZEK (s:Zc) (a b:Nat) (x:Zd):Prop:=∃ p:Nat,x.kV= (p:Int)/\p < nn s/\x.qX.length <=16/\
 ((x.kW=1/\pl s p=a/\∃ q:Nat,x.kX= (q:Int)/\q < nn s/\pl s q=b)\/(x.kW=2/\pl s p=a/\∃ q:Nat,x.kX= (q:Int)/\q < nn s/\pl s q=b)\/(x.kW=3/\pl s p=b/\0 <=inn s (p:Int)/\pl s (inn s (p:Int)).toNat=a)\/(x.kW=4/\0 <=inn s (p:Int)/\x.qX.length=mm s * mm s/\pl s p=a/\pl s (inn s (p:Int)).toNat=b)\/(x.kW=5/\pl s p=b/\x.qX.length=mm s * mm s/\∃ q:Nat,x.kX= (q:Int)/\q < nn s/\pl s q=a))
theorem ZEK.s {s:Zc} {a b:Nat} {x:Zd} (h:ZEK s a b x):Zyj s b x:=by
 obtain⟨p,hp,hpn,_,c⟩:=h;refine⟨p,hp,hpn,?_⟩;rcases c with⟨k,_,q,hq,hqn,_⟩ | ⟨k,_,q,hq,hqn,_⟩ | ⟨k,_⟩ | ⟨k,h0,hm,_⟩ | ⟨k,e,hm,q,hq,hqn,_⟩
 ·exact .inl ⟨k,q,hq,hqn⟩
 ·exact .inr (.inl ⟨k,q,hq,hqn⟩)
 ·exact .inr (.inr (.inl k))
 ·exact .inr (.inr (.inr (.inl ⟨k,h0,hm⟩)))
 ·exact .inr (.inr (.inr (.inr ⟨k,e,hm,q,hq,hqn⟩)))
structure P1 (s:Zc) (σ:TS):Prop where
 lets:∀ a b,a < mm s ->b < mm s ->∀ x ∈ σ.sn (li s a b),ZEK s a b x
 self:∀ a,a < mm s ->σ.sn (li s a a)= []
 bea:∀ w,w < mm s ->∀ x ∈ σ.be w,BeS s x/\x.kW=5
 ws:∀ q,q < nn s ->∀ x ∈ σ.wa q,∃ k:Nat,x= (k:Int)/\k < nn s
section
variable {s:Zc} {σ τ υ:TS} {F B a b p q w i n d:Nat} {x:Zd}
theorem ZAO {a b a' b':Nat} (hb:b < mm s) (hb':b' < mm s) (h:li s a b=li s a' b'):a=a'/\b=b':=by
 obtain⟨e1,e2⟩:= (ZaN hb).1 (show li s a b=a * mm s + b from rfl);obtain⟨e3,e4⟩:= (ZaN hb').1 (show li s a' b'=a' * mm s + b' from rfl);rw [h] at e1 e2;exact⟨by omega,by omega⟩
theorem P1.congr (h:P1 s σ) (h1:τ.sn=σ.sn) (h2:τ.be=σ.be) (h3:τ.wa=σ.wa):P1 s τ:= ⟨by rw [h1];exact h.lets,by rw [h1];exact h.self,by rw [h2];exact h.bea,by rw [h3];exact h.ws⟩
theorem P1.send (h:P1 s σ) (ha:a < mm s) (hb:b < mm s) (hne:a ≠ b) (hx:ZEK s a b x):P1 s (Proofs.YtcnahmgekicbdaaGreat.send s a b x σ):=by
 refine⟨fun a' b' ha' hb' y hy=>?_,fun a' ha'=>?_,h.bea,h.ws⟩
 ·by_cases e:li s a' b'=li s a b
  ·obtain⟨rfl,rfl⟩:=ZAO hb' hb e;rw [Zfa] at hy;rcases List.mem_append.1 hy with hy | hy
   ·exact h.lets _ _ ha' hb' y hy
   ·rw [List.mem_singleton.1 hy];exact hx
  ·rw [WW e] at hy;exact h.lets _ _ ha' hb' y hy
 ·rw [WW (fun e=>hne (by obtain⟨e1,e2⟩:=ZAO ha' hb e;omega))];exact h.self a' ha'
theorem P1.wait (h:P1 s σ) (hx:BeS s x/\x.kW=5):P1 s (Proofs.YtcnahmgekicbdaaGreat.wait a x σ):=by
 refine⟨h.lets,h.self,fun w hw y hy=>?_,h.ws⟩;have hy:y ∈ YE σ.be a (σ.be a ++ [x]) w:=hy;by_cases e:w=a
 ·subst e;rw [Yg] at hy;rcases List.mem_append.1 hy with hy | hy
  ·exact h.bea w hw y hy
  ·rw [List.mem_singleton.1 hy];exact hx
 ·rw [Xk e] at hy;exact h.bea w hw y hy
theorem P1.JM (hS:Qu s) (h:P1 s σ) (hp:p < nn s) (hq:q < nn s):P1 s (Proofs.YtcnahmgekicbdaaGreat.JM s p q σ):=by
 unfold Proofs.YtcnahmgekicbdaaGreat.JM;by_cases e:pl s p=pl s q
 ·rw [if_pos e];exact h.wait ⟨⟨⟨p,rfl,hp⟩,⟨q,rfl,hq⟩,Xt⟩,rfl⟩
 ·rw [if_neg e];exact h.send (hS.pl hq).2 (hS.pl hp).2 (fun z=>e z.symm) ⟨p,rfl,hp,(by show(tab _ _).length <=16;rw [Xt];exact Zcv hS),.inr (.inr (.inr (.inr ⟨rfl,rfl,Xt,q,rfl,hq,rfl⟩)))⟩
theorem P1.see (h:P1 s σ) (p q:Nat) (n:Int):P1 s (Proofs.YtcnahmgekicbdaaGreat.see p q n σ):=by
 have e:=ZaX p q n σ;exact h.congr e.2.2.2.2.1 e.2.2.2.2.2.1 e.2.2.2.2.2.2.1
theorem P1.note (hS:Qu s) (h:P1 s σ) (hp:p < nn s) (hq:q < nn s):P1 s (Proofs.YtcnahmgekicbdaaGreat.note s p q σ):=by
 unfold Proofs.YtcnahmgekicbdaaGreat.note;by_cases e:σ.st q=3
 ·rw [if_pos e];exact h.JM hS hp hq
 ·rw [if_neg e];refine⟨h.lets,h.self,h.bea,fun j hj y hy=>?_⟩;have hy:y ∈ YE σ.wa q (σ.wa q ++ [(p:Int)]) j:=hy;by_cases e1:j=q
  ·subst e1;rw [Yg] at hy;rcases List.mem_append.1 hy with hy | hy
   ·exact h.ws j hj y hy
   ·rw [List.mem_singleton.1 hy];exact⟨p,rfl,hp⟩
  ·rw [Xk e1] at hy;exact h.ws j hj y hy
theorem P1.KS (h:P1 s σ) (p:Nat):P1 s (Proofs.YtcnahmgekicbdaaGreat.KS p σ):=by
 refine⟨h.lets,h.self,h.bea,fun j hj y hy=>?_⟩;have hy:y ∈ YE σ.wa p [] j:=hy;by_cases e1:j=p
 ·subst e1;rw [Yg] at hy;cases hy
 ·rw [Xk e1] at hy;exact h.ws j hj y hy
theorem P1.Zt (hS:Qu s) (h:P1 s σ) (hp:p < nn s) (l:List Int) (hl:∀ x ∈ l,∃ k:Nat,x= (k:Int)/\k < nn s):P1 s (Proofs.YtcnahmgekicbdaaGreat.Zt s p l σ):=
 Zdl _ (P1 s) l σ h fun τ x hx hτ=>by
  obtain⟨k,e,hk⟩:=hl x hx;rw [e,Int.toNat_natCast];exact hτ.JM hS hk hp
theorem P1.X5 (hS:Qu s) (h:P1 s σ) (hp:p < nn s):P1 s (Proofs.YtcnahmgekicbdaaGreat.X5 s p σ):= ((h.KS p).Zt hS hp _ (h.ws p hp)).congr rfl rfl rfl
theorem P1.Zhd (hS:Qu s) (h:P1 s σ) (hp:p < nn s):P1 s (Proofs.YtcnahmgekicbdaaGreat.Zhd s p σ):=by
 have hA:=h.X5 hS hp;unfold Proofs.YtcnahmgekicbdaaGreat.Zhd;by_cases h0:inn s (p:Int) < 0
 ·rw [if_pos h0];exact hA
 ·rw [if_neg h0];obtain⟨eq,hq⟩:=Ju hS hp h0;by_cases e:pl s (inn s (p:Int)).toNat=pl s p
  ·rw [if_pos e];exact hA.congr rfl rfl rfl
  ·rw [if_neg e];exact hA.send (hS.pl hp).2 (hS.pl hq).2 (fun z=>e z.symm) ⟨p,rfl,hp,(by show(tab _ _).length <=16;rw [Xt];exact Zcv hS),.inr (.inr (.inr (.inl ⟨rfl,by omega,Xt,rfl,rfl⟩)))⟩
theorem ZCc (h:σ.ld i < (σ.sn i).length):hd σ i ∈ σ.sn i:=Qd h
theorem P1.act (hS:Qu s) (h:P1 s σ) (ac:Act s σ τ):P1 s τ:=by
 cases ac with
 | fall=>exact h.congr rfl rfl rfl
 | @ZlB p k hp hk hi h1 hr hn=>
   exact h.send (hS.pl hp).2 (hS.pl hk).2 (fun z=>hr z.symm) ⟨k,rfl,hk,(by show 0 <=16;omega),.inr (.inr (.inl ⟨rfl,rfl,by omega,by rw [hi,Int.toNat_natCast]⟩))⟩
 | die hp=>exact h.Zhd hS hp
 | Zwl hp hq h1 e=>exact(h.congr (τ:=kK _ _ σ) rfl rfl rfl).see _ _ _
 | @Zwk p q hp hq h1 e=>exact(h.congr (τ:=kK _ _ σ) rfl rfl rfl).send (hS.pl hp).2 (hS.pl hq).2 e ⟨p,rfl,hp,(by show 0 <=16;omega),.inl ⟨rfl,rfl,q,rfl,hq,rfl⟩⟩
 | Zwc hp hq h1 e=>exact(h.congr (τ:=tell _ _ _ _ σ) rfl rfl rfl).note hS hp hq
 | @Zwb p q hp hq h1 e=>exact(h.congr (τ:=tell _ _ _ _ σ) rfl rfl rfl).send (hS.pl hp).2 (hS.pl hq).2 e ⟨p,rfl,hp,(by show 0 <=16;omega),.inr (.inl ⟨rfl,rfl,q,rfl,hq,rfl⟩)⟩
 | ZwR=>exact(h.congr (τ:=drop1 _ σ) rfl rfl rfl).see _ _ _
 | ZwU ha hb hl hk hp hq hpn hqn=>exact(h.congr (τ:=drop1 _ σ) rfl rfl rfl).note hS hpn hqn
 | ZwS=>exact h.congr rfl rfl rfl
 | Zql=>exact h.congr rfl rfl rfl
 | @ZwT a b ha hb hl hk=>
   have hm:=ZCc hl;obtain⟨p,hp,hpn,_,c⟩:=h.lets a b ha hb _ hm;refine(h.congr (τ:=drop1 _ σ) rfl rfl rfl).wait ⟨?_,hk⟩;rcases c with⟨k,_⟩ | ⟨k,_⟩ | ⟨k,_⟩ | ⟨k,_⟩ | ⟨k,e,hm,q,hq,hqn,_⟩
   ·omega
   ·omega
   ·omega
   ·omega
   ·exact⟨⟨p,hp,hpn⟩,⟨q,hq,hqn⟩,hm⟩
 | @ring w i hw hpk=>
   have e:=K4 s w i σ;refine⟨by rw [e.2.2.2.2.2.1];exact h.lets,by rw [e.2.2.2.2.2.1];exact h.self,fun v hv y hy=>?_,by rw [e.2.2.2.2.2.2.1];exact h.ws⟩;rw [e.1] at hy;by_cases z:v=w
   ·subst z;rw [Yg] at hy;exact h.bea v hv y (ZrD hy)
   ·rw [Xk z] at hy;exact h.bea v hv y hy
def SnM (σ τ:TS):Prop:=∀ i,(σ.sn i).length <= (τ.sn i).length
theorem SnM.refl' (h:τ.sn=σ.sn):SnM σ τ:=fun i=>by rw [h];exact Nat.le_refl _
theorem SnM.trans (h:SnM σ τ) (h':SnM τ υ):SnM σ υ:=fun i=>Nat.le_trans (h i) (h' i)
theorem SnM.send (x:Zd):SnM σ (Proofs.YtcnahmgekicbdaaGreat.send s a b x σ):=fun i=>by
 by_cases e:i=li s a b
 ·subst e;rw [Zfa,List.length_append];omega
 ·rw [WW e];exact Nat.le_refl _
theorem SnM.JM (p q:Nat):SnM σ (Proofs.YtcnahmgekicbdaaGreat.JM s p q σ):=by
 unfold Proofs.YtcnahmgekicbdaaGreat.JM;split
 ·exact .refl' rfl
 ·exact .send _
theorem SnM.Zt (p:Nat) (l:List Int):SnM σ (Proofs.YtcnahmgekicbdaaGreat.Zt s p l σ):=Zdl _ (SnM σ) l σ (.refl' rfl) fun τ x _ h=>h.trans (.JM _ _)
theorem SnM.note (p q:Nat):SnM σ (Proofs.YtcnahmgekicbdaaGreat.note s p q σ):=by
 unfold Proofs.YtcnahmgekicbdaaGreat.note;split
 ·exact .JM _ _
 ·exact .refl' rfl
theorem SnM.X5 (p:Nat):SnM σ (Proofs.YtcnahmgekicbdaaGreat.X5 s p σ):= (SnM.Zt (σ:=Proofs.YtcnahmgekicbdaaGreat.KS p σ) p (σ.wa p)).trans (.refl' rfl)
structure P2 (s:Zc) (σ:TS):Prop where
 ld:∀ i,σ.ld i <= (σ.sn i).length
 kn:Kn s σ
theorem P2.of (h:P2 s σ) (h1:τ.ld=σ.ld) (h2:SnM σ τ) (h3:τ.kn=σ.kn) (h4:∀ k,σ.st k=3 ->τ.st k=3):P2 s τ:=
 ⟨fun i=>by rw [h1];exact Nat.le_trans (h.ld i) (h2 i),fun q hq=>by rw [h3];exact h.kn.srt q hq,fun q hq x hx=>by
   rw [h3] at hx;obtain⟨k,a,b,c,d⟩:=h.kn.rng q hq x hx;exact⟨k,a,b,c,h4 k d⟩⟩
theorem P2.drop (h:P2 s σ) (hl:σ.ld i < (σ.sn i).length):P2 s (drop1 i σ):= ⟨fun j=>by
 show YE σ.ld i (σ.ld i + 1) j <= (σ.sn j).length;by_cases e:j=i
 ·subst e;rw [Yg];exact hl
 ·rw [Xk e];exact h.ld j,⟨h.kn.srt,h.kn.rng⟩⟩
theorem ZNt {f:Nat ->Int} {k j:Nat} (h:f j=3):YE f k 3 j=3:=by
 unfold YE;by_cases e:j=k
 ·rw [if_pos e]
 ·rw [if_neg e];exact h
theorem P2.X5 (h:P2 s σ) (p:Nat):P2 s (Proofs.YtcnahmgekicbdaaGreat.X5 s p σ):=by
 have sA:=Ko (s:=s) p σ;exact h.of sA.2.2.1 (.X5 p) sA.2.1 fun k hk=>by rw [sA.1];exact ZNt hk
theorem P2.not_mem (h:P2 s σ) {q:Nat} (hq:q < nn s) (h2:σ.st p ≠ 3):(p:Int) ∉ σ.kn q:=fun hm=>by
 obtain⟨k,e1,_,_,e4⟩:=h.kn.rng q hq _ hm;have:k=p:=by omega
 subst this;exact h2 e4
theorem P2.act (hS:Qu s) (h:P2 s σ) (ac:Act s σ τ):P2 s τ:=by
 cases ac with
 | @fall p hp h1=>
   refine h.of rfl (.refl' rfl) rfl fun k hk=>?_
   show YE σ.st p 2 k=3;rw [Xk (fun z=>by subst z;rw [h1] at hk;cases hk)];exact hk
 | ZlB=>exact h.of rfl (.send _) rfl fun _ z=>z
 | @die p hp h2 hA=>
   have hD:=h.X5 p;have sA:=Ko (s:=s) p σ;unfold Zhd;by_cases h0:inn s (p:Int) < 0
   ·rw [if_pos h0];exact hD
   ·rw [if_neg h0];obtain⟨eq,hq⟩:=Ju hS hp h0;by_cases e:pl s (inn s (p:Int)).toNat=pl s p
    ·rw [if_pos e];exact⟨hD.ld,J3 hS hD.kn hp h0 (by rw [sA.1,Yg]) (by rw [sA.2.1];exact h.not_mem hq (by rw [h2];decide)) _⟩
    ·rw [if_neg e];exact hD.of rfl (.send _) rfl fun _ z=>z
 | @Zwl p q=>have e:=ZaX q p σ.sd (kK p q σ);exact h.of e.2.2.2.1 (.refl' e.2.2.2.2.1) e.2.1 fun k z=>by rw [e.1];exact z
 | @Zwk p q=>exact h.of rfl (SnM.trans (.refl' (τ:=kK p q σ) rfl) (.send _)) rfl fun _ z=>z
 | @Zwc p q=>have e:=K6 (s:=s) p q (tell 3 p q 0 σ);exact h.of e.2.2.2.1 (SnM.trans (.refl' (τ:=tell 3 p q 0 σ) rfl) (.note _ _)) e.2.1 fun k z=>by rw [e.1];exact z
 | @Zwb p q=>exact h.of rfl (SnM.trans (.refl' (τ:=tell 3 p q 0 σ) rfl) (.send _)) rfl fun _ z=>z
 | @ZwR a b p q ha hb hl=>have e:=ZaX q p (hd σ (li s a b)).n (drop1 (li s a b) σ);exact(h.drop hl).of e.2.2.2.1 (.refl' e.2.2.2.2.1) e.2.1 fun k z=>by rw [e.1];exact z
 | @ZwU a b p q ha hb hl=>have e:=K6 (s:=s) p q (drop1 (li s a b) σ);exact(h.drop hl).of e.2.2.2.1 (.note _ _) e.2.1 fun k z=>by rw [e.1];exact z
 | ZwS ha hb hl=>exact h.drop hl
 | Zql ha hb hl hk hp hpn h0 hm h3 hn=>exact⟨(h.drop hl).ld,J3 hS (h.drop hl).kn hpn (by omega) h3 hn _⟩
 | ZwT ha hb hl=>exact(h.drop hl).of rfl (.refl' rfl) rfl fun _ z=>z
 | @ring w i=>have e:=K4 s w i σ;exact h.of e.2.1 (.refl' e.2.2.2.2.2.1) e.2.2.2.1 fun k z=>by rw [e.2.2.1];exact z
structure KI (s:Zc) (σ:TS):Prop where
 k1:∀ (i j:Nat) (x:Zd),(σ.sn i)[j]? =some x ->x.kW=4 ->∃ k:Nat,x.kV= (k:Int)/\k < nn s/\σ.st k=3/\((k:Int) ∈ σ.kn (inn s (k:Int)).toNat↔j < σ.ld i)
 k2:∀ (i i' j j':Nat) (x x':Zd),(σ.sn i)[j]? =some x ->(σ.sn i')[j']? =some x' ->x.kW=4 ->x'.kW=4 ->x.kV=x'.kV ->i=i'/\j=j'
 k3:∀ p,p < nn s ->σ.st p=3 ->0 <=inn s (p:Int) ->(p:Int) ∈ σ.kn (inn s (p:Int)).toNat\/∃ (i j:Nat) (x:Zd),(σ.sn i)[j]? =some x/\x.kW=4/\x.kV= (p:Int)
 k4:∀ p,p < nn s ->σ.st p=3 ->Alo s σ p
def S4 (σ τ:TS):Prop:=∀ (i j:Nat) (x:Zd),x.kW=4 ->((τ.sn i)[j]? =some x↔(σ.sn i)[j]? =some x)
theorem S4.refl' (h:τ.sn=σ.sn):S4 σ τ:=fun i j x _=>by rw [h]
theorem S4.trans (h:S4 σ τ) (h':S4 τ υ):S4 σ υ:=fun i j x hx=>(h' i j x hx).trans (h i j x hx)
theorem Zbk {x y:Zd} {j:Nat}:((send s a b x σ).sn i)[j]? =some y↔(σ.sn i)[j]? =some y\/(i=li s a b/\j= (σ.sn i).length/\y=x):=by
 by_cases e:i=li s a b
 ·subst e;rw [Zfa];rcases Nat.lt_trichotomy j (σ.sn (li s a b)).length with h | h | h
  ·rw [List.getElem?_append_left h];exact⟨.inl,fun z=>z.elim id fun w=>absurd w.2.1 (by omega)⟩
  ·subst h;rw [List.getElem?_append_right (Nat.le_refl _),Nat.sub_self]
   constructor
   ·intro z;simp at z;exact .inr ⟨rfl,rfl,z.symm⟩
   ·rintro(z | ⟨_,_,z⟩)
    ·rw [List.getElem?_eq_none (Nat.le_refl _)] at z;cases z
    ·simp [z]
  ·constructor
   ·intro z;have:= (Li0 z).1;rw [List.length_append,List.length_singleton] at this;omega
   ·rintro(z | ⟨_,z,_⟩)
    ·have:= (Li0 z).1;omega
    ·omega
 ·rw [WW e];exact⟨.inl,fun z=>z.elim id fun w=>absurd w.1 e⟩
theorem S4.send (hx:x.kW ≠ 4):S4 σ (Proofs.YtcnahmgekicbdaaGreat.send s a b x σ):=fun i j y hy=>by
 rw [Zbk];exact⟨fun z=>z.elim id fun w=>absurd (w.2.2 ▸ hy) hx,.inl⟩
theorem S4.JM (p q:Nat):S4 σ (Proofs.YtcnahmgekicbdaaGreat.JM s p q σ):=by
 unfold Proofs.YtcnahmgekicbdaaGreat.JM;split
 ·exact .refl' rfl
 ·exact .send (by show(5:Int) ≠ 4;decide)
theorem S4.Zt (p:Nat) (l:List Int):S4 σ (Proofs.YtcnahmgekicbdaaGreat.Zt s p l σ):=Zdl _ (S4 σ) l σ (.refl' rfl) fun τ x _ h=>h.trans (.JM _ _)
theorem S4.note (p q:Nat):S4 σ (Proofs.YtcnahmgekicbdaaGreat.note s p q σ):=by
 unfold Proofs.YtcnahmgekicbdaaGreat.note;split
 ·exact .JM _ _
 ·exact .refl' rfl
theorem S4.X5 (p:Nat):S4 σ (Proofs.YtcnahmgekicbdaaGreat.X5 s p σ):= (S4.Zt (σ:=Proofs.YtcnahmgekicbdaaGreat.KS p σ) p (σ.wa p)).trans (.refl' rfl)
theorem KI.same (h:KI s σ) (h1:∀ p,τ.st p=3↔σ.st p=3) (h2:τ.kn=σ.kn) (h3:τ.ld=σ.ld) (h4:S4 σ τ):KI s τ:=by
 refine⟨fun i j x hx hk=>?_,fun i i' j j' x x' hx hx' hk hk' e=>h.k2 i i' j j' x x' ((h4 i j x hk).1 hx) ((h4 i' j' x' hk').1 hx') hk hk' e,fun p hp h3' h0=>?_,fun p hp h3'=>?_⟩
 ·obtain⟨k,e1,e2,e3,e4⟩:=h.k1 i j x ((h4 i j x hk).1 hx) hk;exact⟨k,e1,e2,(h1 k).2 e3,by rw [h2,h3];exact e4⟩
 ·rw [h2];exact(h.k3 p hp ((h1 p).1 h3') h0).imp id fun⟨i,j,x,a,b,c⟩=>⟨i,j,x,(h4 i j x b).2 a,b,c⟩
 ·intro k hk e;rw [h2];exact h.k4 p hp ((h1 p).1 h3') k hk e
theorem KI.drop (h:KI s σ) (hl:σ.ld i < (σ.sn i).length) (hk:(hd σ i).kW ≠ 4):KI s (drop1 i σ):=by
 refine⟨fun i' j x hx hk'=>?_,h.k2,h.k3,h.k4⟩;obtain⟨k,e1,e2,e3,e4⟩:=h.k1 i' j x hx hk';refine⟨k,e1,e2,e3,e4.trans ?_⟩;show j < σ.ld i'↔j < YE σ.ld i (σ.ld i + 1) i';by_cases e:i'=i
 ·subst e;rw [Yg]
  have:j ≠ σ.ld i':=fun z=>hk (by
   subst z;have hx:(σ.sn i')[σ.ld i']? =some x:=hx;unfold hd;rw [List.getD_eq_getElem?_getD,hx];exact hk')
  omega
 ·rw [Xk e]
theorem ZVa {f:Nat ->Int} {k j:Nat} {v:Int} (hv:v ≠ 3) (h:f k ≠ 3):YE f k v j=3↔f j=3:=by
 unfold YE;by_cases e:j=k
 ·subst e;rw [if_pos rfl];exact⟨fun z=>absurd z hv,fun z=>absurd z h⟩
 ·rw [if_neg e]
theorem KI.die (hS:Qu s) (hP:P2 s σ) (h:KI s σ) (hp:p < nn s) (h2:σ.st p=2) (hA:Alo s σ p):KI s (Zhd s p σ):=by
 have sA:=Ko (s:=s) p σ;have h4:=S4.X5 (s:=s) (σ:=σ) p
 have no4:∀ (i j:Nat) (x:Zd),(σ.sn i)[j]? =some x ->x.kW=4 ->x.kV ≠ (p:Int):=fun i j x hx hk e=>by
  obtain⟨k,e1,_,e3,_⟩:=h.k1 i j x hx hk;have:k=p:=by omega
  subst this;rw [h2] at e3;cases e3
 have st3:∀ k,σ.st k=3 ->YE σ.st p 3 k=3:=fun k hk=>by
  unfold YE;by_cases e:k=p
  ·rw [if_pos e]
  ·rw [if_neg e];exact hk
 have Zwh:∀ k,YE σ.st p 3 k=3 ->k=p\/σ.st k=3:=fun k hk=>by
  by_cases e:k=p
  ·exact .inl e
  ·rw [Xk e] at hk;exact .inr hk
 unfold Zhd;by_cases h0:inn s (p:Int) < 0
 ·rw [if_pos h0];refine⟨fun i j x hx hk=>?_,fun i i' j j' x x' hx hx' hk hk' e=>h.k2 i i' j j' x x' ((h4 i j x hk).1 hx) ((h4 i' j' x' hk').1 hx') hk hk' e,fun k hk h3' h0'=>?_,fun k hk h3'=>?_⟩
  ·obtain⟨k,e1,e2,e3,e4⟩:=h.k1 i j x ((h4 i j x hk).1 hx) hk;exact⟨k,e1,e2,by rw [sA.1];exact st3 k e3,by rw [sA.2.1,sA.2.2.1];exact e4⟩
  ·rw [sA.1] at h3';rcases Zwh k h3' with e | e
   ·subst e;omega
   ·rw [sA.2.1];exact(h.k3 k hk e h0').imp id fun⟨i,j,x,a,b,c⟩=>⟨i,j,x,(h4 i j x b).2 a,b,c⟩
  ·rw [sA.1] at h3';intro j hj e;rw [sA.2.1];rcases Zwh k h3' with z | z
   ·subst z;exact hA j hj e
   ·exact h.k4 k hk z j hj e
 ·rw [if_neg h0];obtain⟨eq,hq⟩:=Ju hS hp h0;by_cases e:pl s (inn s (p:Int)).toNat=pl s p
  ·rw [if_pos e]
   have kne:∀ (k q':Nat),k ≠ p ->(((k:Int)) ∈ YE (X5 s p σ).kn (inn s (p:Int)).toNat (ins (p:Int) ((X5 s p σ).kn (inn s (p:Int)).toNat)) q'↔(k:Int) ∈ σ.kn q'):=fun k q' hne=>by
    rw [sA.2.1];by_cases z:q'= (inn s (p:Int)).toNat
    ·subst z;rw [Yg,ZaO];exact⟨fun w=>w.elim (fun w=>absurd (by omega) hne) id,.inr⟩
    ·rw [Xk z]
   refine⟨fun i j x hx hk=>?_,fun i i' j j' x x' hx hx' hk hk' e=>h.k2 i i' j j' x x' ((h4 i j x hk).1 hx) ((h4 i' j' x' hk').1 hx') hk hk' e,fun k hk h3' h0'=>?_,fun k hk h3'=>?_⟩
   ·have hx':= (h4 i j x hk).1 hx;obtain⟨k,e1,e2,e3,e4⟩:=h.k1 i j x hx' hk;have hne:k ≠ p:=fun z=>no4 i j x hx' hk (by rw [e1,z])
    refine⟨k,e1,e2,by show(X5 s p σ).st k=3;rw [sA.1];exact st3 k e3,?_⟩;refine(kne k _ hne).trans ?_;show _↔j < (X5 s p σ).ld i;rw [sA.2.2.1];exact e4
   ·have h3':(X5 s p σ).st k=3:=h3';rw [sA.1] at h3';rcases Zwh k h3' with z | z
    ·subst z;left;show _ ∈ YE _ _ _ _;rw [Yg];exact ZaO.2 (.inl rfl)
    ·have hne:k ≠ p:=fun w=>by subst w;rw [h2] at z;cases z
     refine(h.k3 k hk z h0').imp (fun w=>(kne k _ hne).2 w) fun⟨i,j,x,a,b,c⟩=>⟨i,j,x,(h4 i j x b).2 a,b,c⟩
   ·have h3':(X5 s p σ).st k=3:=h3';rw [sA.1] at h3';intro j hj ej
    have hold:(j:Int) ∈ σ.kn k:=by
     rcases Zwh k h3' with z | z
     ·subst z;exact hA j hj ej
     ·exact h.k4 k hk z j hj ej
    show _ ∈ YE _ _ _ _;rw [sA.2.1];by_cases z:k= (inn s (p:Int)).toNat
    ·subst z;rw [Yg];exact ZaO.2 (.inr hold)
    ·rw [Xk z];exact hold
  ·rw [if_neg e];obtain⟨y,hy⟩:∃ y:Zd,y= ⟨4,(p:Int),0,0,Kc s (X5 s p σ) p⟩:= ⟨_,rfl⟩
   rw [<- hy];have yk:y.kW=4:=by rw [hy]
   have yp:y.kV= (p:Int):=by rw [hy]
   refine⟨fun i j x hx hk=>?_,fun i i' j j' x x' hx hx' hk hk' e=>?_,fun k hk h3' h0'=>?_,fun k hk h3'=>?_⟩
   ·rcases Zbk.1 hx with hx | ⟨e1,e2,e3⟩
    ·obtain⟨k,e1,e2,e3,e4⟩:=h.k1 i j x ((h4 i j x hk).1 hx) hk
     exact⟨k,e1,e2,by show(X5 s p σ).st k=3;rw [sA.1];exact st3 k e3,by
      show _ ∈ (X5 s p σ).kn _↔_ < (X5 s p σ).ld i;rw [sA.2.1,sA.2.2.1];exact e4⟩
    ·refine⟨p,by rw [e3];exact yp,hp,by show(X5 s p σ).st p=3;rw [sA.1,Yg],?_⟩;show _ ∈ (X5 s p σ).kn _↔_ < (X5 s p σ).ld i;rw [sA.2.1,e2,e1];have:= (hP.X5 p).ld (li s (pl s p) (pl s (inn s (p:Int)).toNat));exact⟨fun w=>absurd w (hP.not_mem hq (by rw [h2];decide)),fun w=>by omega⟩
   ·rcases Zbk.1 hx with hx | ⟨a1,a2,a3⟩ <;> rcases Zbk.1 hx' with hx' | ⟨b1,b2,b3⟩
    ·exact h.k2 i i' j j' x x' ((h4 i j x hk).1 hx) ((h4 i' j' x' hk').1 hx') hk hk' e
    ·exact absurd (by rw [e,b3,yp]) (no4 i j x ((h4 i j x hk).1 hx) hk)
    ·exact absurd (by rw [<- e,a3,yp]) (no4 i' j' x' ((h4 i' j' x' hk').1 hx') hk')
    ·have:i=i':=by rw [a1,b1]
     subst this;exact⟨rfl,by rw [a2,b2]⟩
   ·have h3':(X5 s p σ).st k=3:=h3';rw [sA.1] at h3';rcases Zwh k h3' with z | z
    ·subst z;exact .inr ⟨_,_,y,Zbk.2 (.inr ⟨rfl,rfl,rfl⟩),yk,yp⟩
    ·refine(h.k3 k hk z h0').imp (fun w=>by show _ ∈ (X5 s p σ).kn _;rw [sA.2.1];exact w) fun⟨i,j,x,a,b,c⟩=>⟨i,j,x,Zbk.2 (.inl ((h4 i j x b).2 a)),b,c⟩
   ·have h3':(X5 s p σ).st k=3:=h3';rw [sA.1] at h3';intro j hj ej;show _ ∈ (X5 s p σ).kn k;rw [sA.2.1];rcases Zwh k h3' with z | z
    ·subst z;exact hA j hj ej
    ·exact h.k4 k hk z j hj ej
theorem KI.Zql (hS:Qu s) (h:KI s σ) (hl:σ.ld i < (σ.sn i).length) (hk:(hd σ i).kW=4) (hp:(hd σ i).kV= (p:Int)) (hpn:p < nn s) (l:List Int):KI s (YF s p l (drop1 i σ)):=by
 have hh:(σ.sn i)[σ.ld i]? =some (hd σ i):=by
  unfold hd;rw [List.getD_eq_getElem?_getD,List.getElem?_eq_getElem hl];rfl
 have kne:∀ (k q':Nat),k ≠ p ->(((k:Int)) ∈ YE σ.kn (inn s (p:Int)).toNat (ins (p:Int) (σ.kn (inn s (p:Int)).toNat)) q'↔(k:Int) ∈ σ.kn q'):=fun k q' hne=>by
  by_cases z:q'= (inn s (p:Int)).toNat
  ·subst z;rw [Yg,ZaO];exact⟨fun w=>w.elim (fun w=>absurd (by omega) hne) id,.inr⟩
  ·rw [Xk z]
 have kup:∀ (k q':Nat),(k:Int) ∈ σ.kn q' ->((k:Int)) ∈ YE σ.kn (inn s (p:Int)).toNat (ins (p:Int) (σ.kn (inn s (p:Int)).toNat)) q':=fun k q' hm=>by
  by_cases e:k=p
  ·by_cases z:q'= (inn s (p:Int)).toNat
   ·subst z;rw [Yg];exact ZaO.2 (.inr hm)
   ·rw [Xk z];exact hm
  ·exact(kne k q' e).2 hm
 refine⟨fun i' j x hx hk'=>?_,h.k2,fun k hk' h3 h0=>(h.k3 k hk' h3 h0).imp (fun w=>kup k _ w) id,fun k hk' h3 j hj e=>kup j k (h.k4 k hk' h3 j hj e)⟩;obtain⟨k,e1,e2,e3,e4⟩:=h.k1 i' j x hx hk';refine⟨k,e1,e2,e3,?_⟩;show(k:Int) ∈ YE σ.kn (inn s (p:Int)).toNat (ins (p:Int) (σ.kn (inn s (p:Int)).toNat)) (inn s (k:Int)).toNat↔j < YE σ.ld i (σ.ld i + 1) i';by_cases z:k=p
 ·subst z;obtain⟨a,c⟩:=h.k2 i' i j _ x _ hx hh hk' hk (by rw [e1,hp]);subst a c;rw [Yg,Yg];exact⟨fun _=>by omega,fun _=>ZaO.2 (.inl rfl)⟩
 ·rw [kne k _ z];by_cases e:i'=i
  ·subst e;rw [Yg]
   have:j ≠ σ.ld i':=fun w=>by
    subst w;have hx:(σ.sn i')[σ.ld i']? =some x:=hx;rw [hh] at hx;cases hx;rw [hp] at e1;omega
   exact e4.trans (by omega)
  ·rw [Xk e];exact e4
theorem KI.act (hS:Qu s) (hP:P2 s σ) (h:KI s σ) (ac:Act s σ τ):KI s τ:=by
 cases ac with
 | @fall p hp h1=>exact h.same (fun k=>ZVa (by decide) (by rw [h1];decide)) rfl rfl (.refl' rfl)
 | ZlB=>exact h.same (fun _=>Iff.rfl) rfl rfl (.send (by show(3:Int) ≠ 4;decide))
 | die hp h2 hA=>exact h.die hS hP hp h2 hA
 | @Zwl p q=>have e:=ZaX q p σ.sd (kK p q σ);exact h.same (fun k=>by rw [e.1];exact Iff.rfl) e.2.1 e.2.2.2.1 (.refl' e.2.2.2.2.1)
 | @Zwk p q=>exact h.same (fun _=>Iff.rfl) rfl rfl (S4.trans (.refl' (τ:=kK p q σ) rfl) (.send (by show(1:Int) ≠ 4;decide)))
 | @Zwc p q=>have e:=K6 (s:=s) p q (tell 3 p q 0 σ);exact h.same (fun k=>by rw [e.1];exact Iff.rfl) e.2.1 e.2.2.2.1 (S4.trans (.refl' (τ:=tell 3 p q 0 σ) rfl) (.note _ _))
 | @Zwb p q=>exact h.same (fun _=>Iff.rfl) rfl rfl (S4.trans (.refl' (τ:=tell 3 p q 0 σ) rfl) (.send (by show(2:Int) ≠ 4;decide)))
 | @ZwR a b p q ha hb hl hk=>have e:=ZaX q p (hd σ (li s a b)).n (drop1 (li s a b) σ);exact(h.drop hl (by rw [hk];decide)).same (fun k=>by rw [e.1]) e.2.1 e.2.2.2.1 (.refl' e.2.2.2.2.1)
 | @ZwU a b p q ha hb hl hk=>have e:=K6 (s:=s) p q (drop1 (li s a b) σ);exact(h.drop hl (by rw [hk];decide)).same (fun k=>by rw [e.1]) e.2.1 e.2.2.2.1 (.note _ _)
 | ZwS ha hb hl hk=>exact h.drop hl (by rw [hk];decide)
 | Zql ha hb hl hk hp hpn=>exact h.Zql hS hl hk hp hpn _
 | ZwT ha hb hl hk=>exact(h.drop hl (by rw [hk];decide)).same (fun _=>Iff.rfl) rfl rfl (.refl' rfl)
 | @ring w i=>have e:=K4 s w i σ;exact h.same (fun k=>by rw [e.2.2.1]) e.2.2.2.1 e.2.1 (.refl' e.2.2.2.2.2.1)
end
end
section
def SD (σ:TS):Prop:=0 <=σ.sd/\σ.sd <= (σ.ev.length:Int)
structure Ok (s:Zc) (B:Nat) (σ:TS):Prop where
 gd:Gd s B σ
 p1:P1 s σ
 p2:P2 s σ
 ki:KI s σ
 sd:SD σ
section
variable {s:Zc} {σ τ υ:TS} {F B a b p q w i n d:Nat} {x:YP}
theorem SD.of (h:SD σ) (h1:τ.sd=σ.sd) (h2:σ.ev.length <=τ.ev.length):SD τ:= ⟨by rw [h1];exact h.1,by rw [h1];have:=h.2;omega⟩
theorem Zzp (p q:Nat) (n:Int) (σ:TS):σ.ev.length <= (see p q n σ).ev.length:=by
 unfold see;split
 ·show _ <= (σ.ev ++ [_]).length;rw [List.length_append];omega
 ·exact Nat.le_refl _
theorem SD.act (h:SD σ) (ac:Act s σ τ):SD τ:=by
 cases ac with
 | fall=>exact h.of rfl (by show _ <= (σ.ev ++ [_]).length;rw [List.length_append];omega)
 | ZlB=>exact h
 | @die p hp h2 hA=>
   have sA:=Ko (s:=s) p σ;have:SD (X5 s p σ):=h.of sA.2.2.2.1 (by rw [sA.2.2.2.2.1,List.length_append];omega);unfold Zhd;split
   ·exact this
   ·split
    ·exact this
    ·exact this
 | @Zwl p q hp hq=>
   have e:=ZaX q p σ.sd (kK p q σ);have e2:=Zzp q p σ.sd (kK p q σ);have e3:(kK p q σ).ev.length=σ.ev.length + 1:=by show(σ.ev ++ [_]).length=_;simp
   refine⟨?_,?_⟩
   ·rw [e.2.2.2.2.2.2.2];show 0 <=σ.sd + 1;have:=h.1;omega
   ·rw [e.2.2.2.2.2.2.2];show σ.sd + 1 <=_;have:=h.2;omega
 | @Zwk p q=>
   have e3:(kK p q σ).ev.length=σ.ev.length + 1:=by show(σ.ev ++ [_]).length=_;simp
   exact⟨by show 0 <=σ.sd + 1;have:=h.1;omega,by show σ.sd + 1 <= ((kK p q σ).ev.length:Int);have:=h.2;omega⟩
 | @Zwc p q=>
   have e:=K6 (s:=s) p q (tell 3 p q 0 σ);exact h.of e.2.2.2.2.1 (by rw [e.2.2.2.2.2];show _ <= (σ.ev ++ [_]).length;rw [List.length_append];omega)
 | Zwb=>exact h.of rfl (by show _ <= (σ.ev ++ [_]).length;rw [List.length_append];omega)
 | @ZwR a b p q=>exact h.of (ZaX q p (hd σ (li s a b)).n (drop1 (li s a b) σ)).2.2.2.2.2.2.2 (Zzp q p (hd σ (li s a b)).n (drop1 (li s a b) σ))
 | @ZwU a b p q=>have e:=K6 (s:=s) p q (drop1 (li s a b) σ);exact h.of e.2.2.2.2.1 (by rw [e.2.2.2.2.2];exact Nat.le_refl _)
 | ZwS=>exact h
 | Zql=>exact h
 | ZwT=>exact h
 | @ring w i=>
   refine h.of (K4 s w i σ).2.2.2.2.2.2.2 ?_;unfold rung;split
   ·show _ <= (σ.ev ++ [_]).length;rw [List.length_append];omega
   ·exact Nat.le_refl _
theorem Ok.acts (hS:Qu s) (h:Ok s B σ) (ha:Uz s σ τ) {B':Nat} (g:Gd s B' τ):Ok s B' τ:=by
 have:=ha.keep (P:=fun σ=>P1 s σ/\P2 s σ/\KI s σ/\SD σ) (fun _ _ ⟨a,b,c,d⟩ ac=>⟨a.act hS ac,b.act hS ac,c.act hS b ac,d.act ac⟩) ⟨h.p1,h.p2,h.ki,h.sd⟩;exact⟨g,this.1,this.2.1,this.2.2.1,this.2.2.2⟩
theorem Ok.head (h:Ok s B σ) (ha:a < mm s) (hb:b < mm s) (hl:σ.ld (li s a b) < (σ.sn (li s a b)).length):ZEK s a b (hd σ (li s a b))/\Zuq s (hd σ (li s a b)) σ:=by
 have hx:=h.p1.lets a b ha hb _ (ZCc hl);refine⟨hx,fun hk=>?_⟩
 have hh:(σ.sn (li s a b))[σ.ld (li s a b)]? =some (hd σ (li s a b)):=by
  unfold hd;rw [List.getD_eq_getElem?_getD,List.getElem?_eq_getElem hl];rfl
 obtain⟨k,e1,e2,e3,e4⟩:=h.ki.k1 _ _ _ hh hk;rw [e1,Int.toNat_natCast];exact⟨e3,fun m=>absurd (e4.1 m) (Nat.lt_irrefl _)⟩
theorem Zif (h:Gd s B σ) (p q:Nat):Gd s (B + 1) (kK p q σ):=
 ⟨(Wf.tell (σ:= {σ with sd:=σ.sd + 1}) ⟨h.wf.pot,h.wf.ld,h.wf.ws⟩ 1 p q σ.sd),⟨h.kn.srt,h.kn.rng⟩⟩
theorem Zib (h:Gd s B σ) (d p q n:Int):Gd s (B + 1) (tell d p q n σ):= ⟨h.wf.tell d p q n,⟨h.kn.srt,h.kn.rng⟩⟩
theorem Zuw (h:Gd s B σ) (ha:a < mm s) (hb:b < mm s) (x:Zd):Gd s (B + 1 + ew x) (send s a b x σ):= ⟨h.wf.send ha hb x,⟨h.kn.srt,h.kn.rng⟩⟩
theorem Zcg (hS:Qu s) (h:Ok s B σ) (hx:Zcs s x σ):Gd s (B + 4) (WI s x σ)/\Uz s σ (WI s x σ):=by
 unfold WI;rcases hx with⟨k,p,q,ep,eq,hp,hq,h1⟩ | ⟨k,p,q,ep,eq,hp,hq,h1⟩ | ⟨k,p,ep,hp,h1⟩ | ⟨k,a,b,ea,eb,ha,hb,hl⟩
 ·rw [if_pos k,ep,eq,Int.toNat_natCast,Int.toNat_natCast];by_cases e:pl s p=pl s q
  ·rw [if_pos e];exact⟨(Zzo (Zif h.gd p q) q p σ.sd).up (by omega),.one (.Zwl hp hq h1 e)⟩
  ·rw [if_neg e];exact⟨(Zuw (Zif h.gd p q) (hS.pl hp).2 (hS.pl hq).2 _).up (by show B + 1 + 1 + 1 <=B + 4;omega),.one (.Zwk hp hq h1 e)⟩
 ·rw [if_neg (by omega),if_pos k,ep,eq,Int.toNat_natCast,Int.toNat_natCast];by_cases e:pl s p=pl s q
  ·rw [if_pos e];exact⟨(ZuM hS (Zib h.gd 3 p q 0) hp hq).up (by omega),.one (.Zwc hp hq h1 e)⟩
  ·rw [if_neg e];exact⟨(Zuw (Zib h.gd 3 p q 0) (hS.pl hp).2 (hS.pl hq).2 _).up (by show B + 1 + 1 + 2 <=B + 4;omega),.one (.Zwb hp hq h1 e)⟩
 ·rw [if_neg (by omega),if_neg (by omega),if_pos k,ep,Int.toNat_natCast];exact⟨(Zir hS _ _ _ _ hp (KU.all hS.inn) h.gd h1).up (by omega),Zml hS _ _ _ hp (KU.all hS.inn) h1⟩
 ·rw [if_neg (by omega),if_neg (by omega),if_neg (by omega),ea,eb,Int.toNat_natCast,Int.toNat_natCast];obtain⟨hf,hD⟩:=h.head ha hb hl;exact⟨(Zqk hS h.gd ha hb hl hf.s hD).up (by omega),ZwQ hS ha hb hl hf.s hD⟩
theorem Zmy (hS:Qu s) (h:Ok s B σ) (k:x.act=4) (hx:Zcs s x σ):Gd s B (WI s x σ):=by
 unfold WI;rcases hx with⟨k',_⟩ | ⟨k',_⟩ | ⟨k',_⟩ | ⟨_,a,b,ea,eb,ha,hb,hl⟩
 ·omega
 ·omega
 ·omega
 ·rw [if_neg (by omega),if_neg (by omega),if_neg (by omega),ea,eb,Int.toNat_natCast,Int.toNat_natCast];obtain⟨hf,hD⟩:=h.head ha hb hl;exact Zqk hS h.gd ha hb hl hf.s hD
theorem P1.ZxS (h:P1 s σ):BeA s σ:=fun w hw x hx=>(h.bea w hw x hx).1
theorem step_ok (hS:Qu s) (h:Ok s B σ) (hx:Zcs s x σ):Ok s (B + 4) (stepW s x σ):=by
 obtain⟨g,ac⟩:=Zcg hS h hx;have o1:=h.acts hS ac g;exact o1.acts hS (Zew (mm s) (Nat.le_refl _)) (Zfj g o1.p1.ZxS (mm s) (Nat.le_refl _)).1
theorem Zzg (hS:Qu s) (h:Ok s B σ) (k:x.act=4) (hx:Zcs s x σ):Ok s B (stepW s x σ):=by
 have g:=Zmy hS h k hx;have o1:=h.acts hS (Zcg hS h hx).2 g;exact o1.acts hS (Zew (mm s) (Nat.le_refl _)) (Zfj g o1.p1.ZxS (mm s) (Nat.le_refl _)).1
theorem Zly (hS:Qu s) (h:Ok s B σ) (hx:Zcs s x σ):Uz s σ (stepW s x σ):= (Zcg hS h hx).2.trans (Zew (mm s) (Nat.le_refl _))
theorem Zsx (hF:1000000 <=F) (hS:Qu s) (hB:B <=600000) (h:Gd s B σ) (hb:BeA s σ):Zce F (KD s σ)=some (hal s (rings s (mm s) σ)):=by
 have h4:=hS.mm.2.2;unfold Zce;rw [show KD s σ= (tab (nn s) σ.st,(tab (nn s) fun j=>tab (mm s * mm s) (σ.ma j)),tab (nn s) σ.kn,tab (nn s) σ.wa,tab (mm s) σ.be,tab (mm s * mm s) (Jc σ),σ.sd,s.qG,s.Zh,σ.ev) from rfl];dsimp only;refine Xr (fun k=>((k:Int),KD s (rings s k σ))) rfl (n:=mm s) (by omega) (fun k hk next=>?_) (fun next=>?_)
 ·obtain⟨g1,g2⟩:=Zfj h hb k (by omega);have hl7:((rings s k σ).be k).length <=600000:=by have:=g1.wf.pot;have:=Ue (f:=fun m=>((rings s k σ).be m).length) hk;unfold Pot at *;omega
  unfold Zod;rw [show KD s (rings s k σ)= (tab (nn s) (rings s k σ).st,(tab (nn s) fun j=>tab (mm s * mm s) ((rings s k σ).ma j)),tab (nn s) (rings s k σ).kn,tab (nn s) (rings s k σ).wa,tab (mm s) (rings s k σ).be,tab (mm s * mm s) (Jc (rings s k σ)),(rings s k σ).sd,s.qG,s.Zh,(rings s k σ).ev) from rfl];dsimp only;rw [Zbt hS hk,Cq1,Znz];unfold ZGV;rw [show loop F (ZeJ F (k:Int)) ((hal s (rings s k σ)).Za.qV,(hal s (rings s k σ)).Za.qX,(hal s (rings s k σ)).Za.qZ,(hal s (rings s k σ)).Za.Zk,(hal s (rings s k σ)).Za.Zt,(hal s (rings s k σ)).Za.kQ,(hal s (rings s k σ)).Za.kK,(hal s (rings s k σ)).qK.qG,(hal s (rings s k σ)).qK.Zh,(hal s (rings s k σ)).kU)=some (hal s (rings s (k + 1) σ)) from Zwn hF hS hB hk _ F (rings s k σ) (by omega) (Nat.le_refl _) g1 g2];simp only [Bq0];rw [X9 (by omega)];rfl
 ·unfold Zod KD;dsimp only;rw [ZfJ hS,Cq0];rfl
theorem Zlx (hF:1000000 <=F) (hS:Qu s) (hB:B <=500000) (h:Ok s B σ) (hx:Zcs s x σ):Zxo F (hal s σ) x=some (hal s (stepW s x σ)):=by
 obtain⟨g,ac⟩:=Zcg hS h hx;have o1:=h.acts hS ac g;have fin:=Zsx (F:=F) hF hS (by omega) g o1.p1.ZxS;unfold stepW;have fw:=h.gd.wf.few (by omega);have hsd:=h.sd;have hev:=fw.ev;unfold Zxo;simp only [Xq];unfold WI at fin |-;rcases hx with⟨k,p,q,ep,eq,hp,hq,h1⟩ | ⟨k,p,q,ep,eq,hp,hq,h1⟩ | ⟨k,p,ep,hp,h1⟩ | ⟨k,a,b,ea,eb,ha,hb,hl⟩
 ·rw [if_pos k,ep,eq,Int.toNat_natCast,Int.toNat_natCast] at fin |-;have es:Yd (σ.sd + 1)=σ.sd + 1:=Zam (by have:=hsd.1;omega) (by have:=hsd.2;omega);rw [decide_eq_true k,Cq1,show(hal s σ).Za.kK=σ.sd from rfl,Zae fw];simp only [Bq0]
  have e5:Z6.mk (Ze.mk (hal s (tell 1 p q σ.sd σ)).Za.qV (hal s (tell 1 p q σ.sd σ)).Za.qX (hal s (tell 1 p q σ.sd σ)).Za.qZ (hal s (tell 1 p q σ.sd σ)).Za.Zk (hal s (tell 1 p q σ.sd σ)).Za.Zt (hal s (tell 1 p q σ.sd σ)).Za.kQ (Yd ((hal s (tell 1 p q σ.sd σ)).Za.kK + 1))) (hal s (tell 1 p q σ.sd σ)).qK (hal s (tell 1 p q σ.sd σ)).kU=hal s (kK p q σ):=by
   rw [show(hal s (tell 1 p q σ.sd σ)).Za.kK=σ.sd from rfl,es];rfl
  have gs:=Zif h.gd p q;rw [e5,WJ hS hp,WJ hS hq];simp only [Bq0];rw [show decide (((pl s p:Nat):Int)= ((pl s q:Nat):Int))=decide (pl s p=pl s q) by rw [<- Xq];exact WG _ _];by_cases e:pl s p=pl s q
  ·rw [if_pos e] at fin |-;rw [decide_eq_true e,Cq1,ZpO (gs.wf.few (by omega)) rfl hq];exact fin
  ·rw [if_neg e] at fin |-;rw [decide_eq_false e,Cq0,Zbj hS (gs.wf.few (by omega)) (hS.pl hp).2 (hS.pl hq).2];exact fin
 ·rw [if_neg (by omega),if_pos k,ep,eq,Int.toNat_natCast,Int.toNat_natCast] at fin |-;rw [decide_eq_false (by omega),Cq0,decide_eq_true k,Cq1,Zae fw];simp only [Bq0];have gs:=Zib h.gd 3 p q 0;rw [WJ hS hp,WJ hS hq];simp only [Bq0];rw [show decide (((pl s p:Nat):Int)= ((pl s q:Nat):Int))=decide (pl s p=pl s q) by rw [<- Xq];exact WG _ _];by_cases e:pl s p=pl s q
  ·rw [if_pos e] at fin |-;rw [decide_eq_true e,Cq1,ZlZ hS (gs.wf.few (by omega)) rfl rfl hp hq];exact fin
  ·rw [if_neg e] at fin |-;rw [decide_eq_false e,Cq0,Zbj hS (gs.wf.few (by omega)) (hS.pl hp).2 (hS.pl hq).2];exact fin
 ·rw [if_neg (by omega),if_neg (by omega),if_pos k,ep,Int.toNat_natCast] at fin |-;rw [decide_eq_false (by omega),Cq0,decide_eq_false (by omega),Cq0,decide_eq_true k,Cq1];unfold ZDr;have h8:nn s <=8:=hS.p2;rw [Zmk hF hS (nn s) _ _ F _ (by omega) hp (KU.all hS.inn) h.gd (by omega) h1];exact fin
 ·rw [if_neg (by omega),if_neg (by omega),if_neg (by omega),ea,eb,Int.toNat_natCast,Int.toNat_natCast] at fin |-;obtain⟨hf,hD⟩:=h.head ha hb hl;rw [decide_eq_false (by omega),Cq0,decide_eq_false (by omega),Cq0,decide_eq_false (by omega),Cq0,decide_eq_true k,Cq1,ZwP hF hS h.gd (by omega) ha hb hl hf.s hD];exact fin
end
end
section
section
variable {s:Zc} {σ τ υ:TS} {F B a b p q w i n d:Nat} {x:YP}
theorem ZfA {z:Int} (h:¬ ∃ k:Nat,z= (k:Int)/\k < nn s):(decide (z >=0) && decide (z < (s.Zh.length:Int)))=false:=Bool.eq_false_iff.2 fun e=>h ((ZlU s z).1 e)
theorem ZZB (h:σ.ld i <= (σ.sn i).length):(((Jc σ i).kG.length:Int)==0)=decide (¬ σ.ld i < (σ.sn i).length):=by
 have e:(Jc σ i).kG.length= (σ.sn i).length - σ.ld i:=by show((σ.sn i).drop (σ.ld i)).length=_;rw [List.length_drop]
 rw [Xq,e];congr 1;rw [eq_iff_iff];omega
theorem ZZA (h:σ.ld i <= (σ.sn i).length):decide (((Jc σ i).kG.length:Int) > 0)=decide (σ.ld i < (σ.sn i).length):=by
 have e:(Jc σ i).kG.length= (σ.sn i).length - σ.ld i:=by show((σ.sn i).drop (σ.ld i)).length=_;rw [List.length_drop]
 rw [e];congr 1;rw [eq_iff_iff];omega
theorem KC (hS:Qu s) {z:Int}:(0 <=z/\z < s.qG)↔∃ k:Nat,z= (k:Int)/\k < mm s:=by
 rw [hS.mm.1]
 constructor
 ·rintro⟨h1,h2⟩;exact⟨z.toNat,by omega,by omega⟩
 ·rintro⟨k,rfl,h⟩;omega
theorem ZN2 (hF:1000000 <=F) (hS:Qu s) (hB:B <=500000) (h:Ok s B σ):ZDD F (XZ s σ) x=ifc (Zcs s x σ) (some (XZ s (stepW s x σ),true)) (some (XZ s σ,false)):=by
 have fw:=h.gd.wf.few (by omega);have hsd:=h.sd;have hev:=fw.ev;unfold ZDD;by_cases k4:x.act=4
 ·rw [show(x.act==4)=true by rw [k4];rfl,Cq1,show(XZ s σ).s.qG=s.qG from rfl];by_cases hr:(0 <=x.a/\x.a < s.qG)/\(0 <=x.b/\x.b < s.qG)
  ·have:(!((((decide (x.a < 0)) || (decide (x.a >=s.qG))) || (decide (x.b < 0))) || (decide (x.b >=s.qG))))=true:=by
    rw [decide_eq_false (by omega),decide_eq_false (by omega),decide_eq_false (by omega),decide_eq_false (by omega)];rfl
   rw [this,Cq1];obtain⟨a,ea,ha⟩:= (KC hS).1 hr.1;obtain⟨b,eb,hb⟩:= (KC hS).1 hr.2;have hi:=KV ha hb;rw [ea,eb,UF hS ha hb,show(XZ s σ).w.kQ=tab (mm s * mm s) (Jc σ) from rfl,Z4 hi];simp only [Bq0];rw [ZZB (h.p2.ld _)];by_cases hl:σ.ld (li s a b) < (σ.sn (li s a b)).length
   ·have hA:Zcs s x σ:= .inr (.inr (.inr ⟨k4,a,b,ea,eb,ha,hb,hl⟩));obtain⟨g,ac⟩:=Zcg hS h hA;have o1:=h.acts hS ac g;obtain⟨hf,hD⟩:=h.head ha hb hl;rw [decide_eq_false (fun z=>z hl),Cq0,Z9 hA,Zqj hF hS h.gd (by omega) ha hb hl hf.s hD];simp only [Bq0]
    have ec:WI s x σ=Zcx s a b σ:=by
     unfold WI;rw [if_neg (by omega),if_neg (by omega),if_neg (by omega),ea,eb,Int.toNat_natCast,Int.toNat_natCast]
    rw [ec] at g o1;rw [ZgB hF hS (by omega) g o1.p1.ZxS];simp only [Bq0];unfold stepW;rw [ec]
   ·rw [decide_eq_true hl,Cq1,Z7];rintro(⟨k',_⟩ | ⟨k',_⟩ | ⟨k',_⟩ | ⟨_,a',b',e1,e2,_,_,h'⟩)
    ·omega
    ·omega
    ·omega
    ·have:a'=a:=by omega
     have:b'=b:=by omega
     subst a' b';exact hl h'
  ·have:(!((((decide (x.a < 0)) || (decide (x.a >=s.qG))) || (decide (x.b < 0))) || (decide (x.b >=s.qG))))=false:=by
    rw [Bool.not_eq_false',Bool.or_eq_true,Bool.or_eq_true,Bool.or_eq_true,decide_eq_true_eq,decide_eq_true_eq,decide_eq_true_eq,decide_eq_true_eq];omega
   rw [this,Cq0,Z7];rintro(⟨k',_⟩ | ⟨k',_⟩ | ⟨k',_⟩ | ⟨_,a',b',e1,e2,h1,h2,h'⟩)
   ·omega
   ·omega
   ·omega
   ·exact hr ⟨(KC hS).2 ⟨a',e1,h1⟩,(KC hS).2 ⟨b',e2,h2⟩⟩
 ·rw [show(x.act==4)=false by rw [Xq];exact decide_eq_false k4,Cq0];unfold Zxq;rw [show(XZ s σ).s=s from rfl];simp only [Bq0];by_cases hp:¬ ∃ p:Nat,x.a= (p:Int)/\p < nn s
  ·rw [ZfA hp];simp only [Bool.not_false,Bool.not_true,QL,Bq0,Bool.true_or,Bool.false_and,Cq1];rw [Z7];rintro(⟨_,p,q,e1,_,h1,_⟩ | ⟨_,p,q,e1,_,h1,_⟩ | ⟨_,p,e1,h1,_⟩ | ⟨k',_⟩)
   ·exact hp ⟨p,e1,h1⟩
   ·exact hp ⟨p,e1,h1⟩
   ·exact hp ⟨p,e1,h1⟩
   ·omega
  obtain⟨p,ep,hp⟩:=Classical.not_not.1 hp;rw [ep,Zfz hp];simp only [Bool.not_true,Bool.not_false,Qm,Bool.false_or];unfold Zj2;rw [show(XZ s σ).w.qV=tab (nn s) σ.st from rfl,Z4 hp];simp only [Bq0];rw [Xq (σ.st p)];by_cases h1:σ.st p ≠ 1
  ·rw [decide_eq_false h1];simp only [Bool.not_false,Bool.not_true,Bool.false_and,QL,Bq0,Bool.true_or,Cq1];rw [Z7];rintro(⟨_,p',q,e1,_,_,_,z⟩ | ⟨_,p',q,e1,_,_,_,z⟩ | ⟨_,p',e1,_,z⟩ | ⟨k',_⟩)
   ·have:p'=p:=by omega
    subst p';exact h1 z
   ·have:p'=p:=by omega
    subst p';exact h1 z
   ·have:p'=p:=by omega
    subst p';exact h1 z
   ·omega
  have h1:=Classical.not_not.1 h1;rw [decide_eq_true h1];simp only [Bool.not_true,Bool.not_false,Bool.true_and,Bool.false_or]
  have fin:∀ hA:Zcs s x σ,Zcf F (KO s (WI s x σ))=some (XZ s (stepW s x σ),true):=fun hA=>by
   obtain⟨g,ac⟩:=Zcg hS h hA;have o1:=h.acts hS ac g;unfold Zcf KO;dsimp only;rw [ZnI,ZgB hF hS (by omega) g o1.p1.ZxS];rfl
  by_cases k3:x.act=3
  ·rw [show(x.act !=3)=false by rw [k3];rfl,QL];simp only [Bq0,Bool.false_and,Cq0];rw [show(x.act==1)=false by rw [k3];rfl,Cq0,show(x.act==2)=false by rw [k3];rfl,Cq0,show(x.act==3)=true by rw [k3];rfl,Cq1];have hA:Zcs s x σ:= .inr (.inr (.inl ⟨k3,p,ep,hp,h1⟩))
   have ec:WI s x σ=Jg s (nn s) p σ:=by
    unfold WI;rw [if_neg (by omega),if_neg (by omega),if_pos k3,ep,Int.toNat_natCast]
   have fin:=fin hA;rw [ec] at fin;unfold ZDv;have h8:nn s <=8:=hS.p2;rw [Zrb hF hS (nn s) _ _ F _ (by omega) hp (KU.all hS.inn) h.gd (by omega),if_pos h1,Z9 hA];exact fin
  ·rw [show(x.act !=3)=true by rw [Zaa];exact decide_eq_true k3,Qm];simp only [Bq0,Bool.true_and];by_cases hq:¬ ∃ q:Nat,x.b= (q:Int)/\q < nn s
   ·rw [ZfA hq,Bool.not_false,Cq1,Z7];rintro(⟨_,p',q,_,e1,_,z,_⟩ | ⟨_,p',q,_,e1,_,z,_⟩ | ⟨k',_⟩ | ⟨k',_⟩)
    ·exact hq ⟨q,e1,z⟩
    ·exact hq ⟨q,e1,z⟩
    ·omega
    ·omega
   obtain⟨q,eq,hq⟩:=Classical.not_not.1 hq;rw [eq,Zfz hq,Bool.not_true,Cq0];by_cases k1:x.act=1
   ·rw [show(x.act==1)=true by rw [k1];rfl,Cq1];have hA:Zcs s x σ:= .inl ⟨k1,p,q,ep,eq,hp,hq,h1⟩
    have ec:WI s x σ= (if pl s p=pl s q then see q p σ.sd (kK p q σ) else send s (pl s p) (pl s q) ⟨1,(p:Int),(q:Int),σ.sd,[]⟩ (kK p q σ)):=by
     unfold WI;rw [if_pos k1,ep,eq,Int.toNat_natCast,Int.toNat_natCast]
    have fin:=fin hA;rw [ec] at fin;have es:Yd (σ.sd + 1)=σ.sd + 1:=Zam (by have:=hsd.1;omega) (by have:=hsd.2;omega);have w1:Few s 800000 {σ with sd:=σ.sd + 1}:= ⟨fw.ev,fw.sn,fw.be,fw.wa,fw.ld,fw.ws⟩
    rw [show(XZ s σ).w.kK=σ.sd from rfl,es,show Z5.mk s (Ze.mk (tab (nn s) σ.st) (XZ s σ).w.qX (XZ s σ).w.qZ (XZ s σ).w.Zk (XZ s σ).w.Zt (XZ s σ).w.kQ (σ.sd + 1)) (XZ s σ).kU=XZ s {σ with sd:=σ.sd + 1} from rfl,Zbh w1];simp only [Bq0];have gs:=Zif h.gd p q;rw [show XZ s (tell 1 (p:Int) (q:Int) σ.sd {σ with sd:=σ.sd + 1})=XZ s (kK p q σ) from rfl,Za7 hS hp,Za7 hS hq];simp only [Bq0];rw [WG,Z9 hA];by_cases e:pl s p=pl s q
    ·rw [if_pos e] at fin;rw [decide_eq_true e,Cq1,Zux (gs.wf.few (by omega)) hq hp];exact fin
    ·rw [if_neg e] at fin;rw [decide_eq_false e,Cq0,ZcQ hS (gs.wf.few (by omega)) (hS.pl hp).2 (hS.pl hq).2];exact fin
   ·rw [show(x.act==1)=false by rw [Xq];exact decide_eq_false k1,Cq0];by_cases k2:x.act=2
    ·rw [show(x.act==2)=true by rw [k2];rfl,Cq1];have hA:Zcs s x σ:= .inr (.inl ⟨k2,p,q,ep,eq,hp,hq,h1⟩)
     have ec:WI s x σ= (if pl s p=pl s q then note s p q (tell 3 p q 0 σ) else send s (pl s p) (pl s q) ⟨2,(p:Int),(q:Int),0,[]⟩ (tell 3 p q 0 σ)):=by
      unfold WI;rw [if_neg k1,if_pos k2,ep,eq,Int.toNat_natCast,Int.toNat_natCast]
     have fin:=fin hA;rw [ec] at fin;rw [Zbh fw];simp only [Bq0];have gs:=Zib h.gd 3 p q 0;rw [Za7 hS hp,Za7 hS hq];simp only [Bq0];rw [WG,Z9 hA];by_cases e:pl s p=pl s q
     ·rw [if_pos e] at fin;rw [decide_eq_true e,Cq1,Zqc hS (gs.wf.few (by omega)) hp hq];exact fin
     ·rw [if_neg e] at fin;rw [decide_eq_false e,Cq0,ZcQ hS (gs.wf.few (by omega)) (hS.pl hp).2 (hS.pl hq).2];exact fin
    ·rw [show(x.act==2)=false by rw [Xq];exact decide_eq_false k2,Cq0,show(x.act==3)=false by rw [Xq];exact decide_eq_false k3,Cq0,Z7];rintro(⟨k',_⟩ | ⟨k',_⟩ | ⟨k',_⟩ | ⟨k',_⟩)
     ·omega
     ·omega
     ·omega
     ·omega
theorem Zo8 (hS:Qu s) (h:Ok s B σ):ZDy (hal s σ) x=ifc (Zcs s x σ) (some true) (some false):=by
 unfold ZDy Zn9;rw [show(hal s σ).qK=s from rfl];simp only [Bq0]
 obtain⟨L,v,eL,hL⟩:∃ (L:Bool) (v:Int),((gd (decide (x.a >=0) && decide (x.a < (s.Zh.length:Int))) (ZF (hal s σ).Za.qV x.a) default)=some v/\(((decide (x.a >=0) && decide (x.a < (s.Zh.length:Int))) && (v==1))=L))/\(L=true↔∃ p:Nat,x.a= (p:Int)/\p < nn s/\σ.st p=1):=by
  by_cases hp:∃ p:Nat,x.a= (p:Int)/\p < nn s
  ·obtain⟨p,ep,hp⟩:=hp;refine⟨decide (σ.st p=1),σ.st p,⟨?_,?_⟩,?_⟩
   ·rw [ep,Zfz hp,Qm];exact Z4 hp
   ·rw [ep,Zfz hp,Bool.true_and,Xq]
   ·rw [decide_eq_true_eq]
    constructor
    ·exact fun z=>⟨p,ep,hp,z⟩
    ·rintro⟨p',e,_,z⟩;have:p'=p:=by omega
     subst this;exact z
  ·refine⟨false,default,⟨by rw [ZfA hp];rfl,by rw [ZfA hp];rfl⟩,?_⟩
   constructor
   ·intro z;cases z
   ·rintro⟨p,e,h1,_⟩;exact absurd ⟨p,e,h1⟩ hp
 rw [eL.1];simp only [Bq0]
 have j:∀ v13:Bool,(v13=true↔x.act=1\/x.act=2) ->ZgX (hal s σ) x (decide (x.a >=0) && decide (x.a < (s.Zh.length:Int))) v v13=ifc (Zcs s x σ) (some true) (some false):=fun v13 hv=>by
  unfold ZgX;rw [eL.2];by_cases k12:x.act=1\/x.act=2
  ·rw [hv.2 k12,Cq1];unfold Zn9;rw [show(hal s σ).qK=s from rfl];cases hLb:L with
   | false=>
     rw [QL];simp only [Bq0,Bool.false_and];have:¬ ∃ p:Nat,x.a= (p:Int)/\p < nn s/\σ.st p=1:=fun z=>by have:=hL.2 z;rw [hLb] at this;cases this
     rw [Z7];rintro(⟨_,p,q,e1,_,h1,_,z⟩ | ⟨_,p,q,e1,_,h1,_,z⟩ | ⟨_,p,e1,h1,z⟩ | ⟨k',_⟩)
     ·exact this ⟨p,e1,h1,z⟩
     ·exact this ⟨p,e1,h1,z⟩
     ·exact this ⟨p,e1,h1,z⟩
     ·omega
   | true=>
     rw [Qm];simp only [Bq0,Bool.true_and];obtain⟨p,ep,hp,h1⟩:=hL.1 hLb;by_cases hq:∃ q:Nat,x.b= (q:Int)/\q < nn s
     ·obtain⟨q,eq,hq⟩:=hq;rw [eq,Zfz hq,Z9];rcases k12 with k | k
      ·exact .inl ⟨k,p,q,ep,eq,hp,hq,h1⟩
      ·exact .inr (.inl ⟨k,p,q,ep,eq,hp,hq,h1⟩)
     ·rw [ZfA hq,Z7];rintro(⟨_,p',q,_,e1,_,z,_⟩ | ⟨_,p',q,_,e1,_,z,_⟩ | ⟨k',_⟩ | ⟨k',_⟩)
      ·exact hq ⟨q,e1,z⟩
      ·exact hq ⟨q,e1,z⟩
      ·omega
      ·omega
  ·have:v13=false:=Bool.eq_false_iff.2 fun z=>k12 (hv.1 z)
   rw [this,Cq0,Xq,Xq];by_cases k3:x.act=3
   ·rw [decide_eq_true k3,Cq1];cases hLb:L with
    | false=>
      have:¬ ∃ p:Nat,x.a= (p:Int)/\p < nn s/\σ.st p=1:=fun z=>by have:=hL.2 z;rw [hLb] at this;cases this
      rw [Z7];rintro(⟨k',_⟩ | ⟨k',_⟩ | ⟨_,p,e1,h1,z⟩ | ⟨k',_⟩)
      ·omega
      ·omega
      ·exact this ⟨p,e1,h1,z⟩
      ·omega
    | true=>
      obtain⟨p,ep,hp,h1⟩:=hL.1 hLb;rw [Z9 (.inr (.inr (.inl ⟨k3,p,ep,hp,h1⟩)))]
   ·rw [decide_eq_false k3,Cq0];by_cases k4:x.act=4
    ·rw [decide_eq_true k4,Cq1,show(hal s σ).qK.qG=s.qG from rfl];by_cases hr:((0 <=x.a/\x.a < s.qG)/\(0 <=x.b/\x.b < s.qG))/\x.a ≠ x.b
     ·have:((decide ((if x.b < x.a then x.b else x.a) >=0)) && (decide ((if x.b > x.a then x.b else x.a) < s.qG)) && (x.a !=x.b))=true:=by
       rw [Zaa,decide_eq_true hr.2,decide_eq_true (by split <;> omega),decide_eq_true (by split <;> omega)];rfl
      rw [this,Cq1];obtain⟨a,ea,ha⟩:= (KC hS).1 hr.1.1;obtain⟨b,eb,hb⟩:= (KC hS).1 hr.1.2;have hi:=KV ha hb;rw [ea,eb,UF hS ha hb,show(hal s σ).Za.kQ=tab (mm s * mm s) (Jc σ) from rfl,Z4 hi];simp only [Bq0];rw [ZZA (h.p2.ld _)];by_cases hl:σ.ld (li s a b) < (σ.sn (li s a b)).length
      ·rw [decide_eq_true hl,Z9 (.inr (.inr (.inr ⟨k4,a,b,ea,eb,ha,hb,hl⟩)))]
      ·rw [decide_eq_false hl,Z7];rintro(⟨k',_⟩ | ⟨k',_⟩ | ⟨k',_⟩ | ⟨_,a',b',e1,e2,_,_,h'⟩)
       ·omega
       ·omega
       ·omega
       ·have:a'=a:=by omega
        have:b'=b:=by omega
        subst a' b';exact hl h'
     ·have:((decide ((if x.b < x.a then x.b else x.a) >=0)) && (decide ((if x.b > x.a then x.b else x.a) < s.qG)) && (x.a !=x.b))=false:=by
       rw [Bool.eq_false_iff];intro z;rw [Ba0,Ba0,decide_eq_true_eq,decide_eq_true_eq,Zaa,decide_eq_true_eq] at z;obtain⟨⟨z1,z2⟩,z3⟩:=z;split at z1 <;> split at z2 <;> (apply hr;omega)
      rw [this,Cq0,Z7];rintro(⟨k',_⟩ | ⟨k',_⟩ | ⟨k',_⟩ | ⟨_,a',b',e1,e2,h1,h2,h'⟩)
      ·omega
      ·omega
      ·omega
      ·refine hr ⟨⟨(KC hS).2 ⟨a',e1,h1⟩,(KC hS).2 ⟨b',e2,h2⟩⟩,fun z=>?_⟩;have:a'=b':=by omega
       subst this;rw [h.p1.self a' h1] at h';simp at h'
    ·rw [decide_eq_false k4,Cq0,Z7];rintro(⟨k',_⟩ | ⟨k',_⟩ | ⟨k',_⟩ | ⟨k',_⟩)
     ·omega
     ·omega
     ·omega
     ·omega
 rw [Xq];by_cases k1:x.act=1
 ·rw [decide_eq_true k1,Cq1];exact j true ⟨fun _=>.inl k1,fun _=>rfl⟩
 ·rw [decide_eq_false k1,Cq0,Xq];exact j _ ⟨fun z=>.inr (of_decide_eq_true z),fun z=>decide_eq_true (z.resolve_left k1)⟩
end
end
section
def ts0:TS:= ⟨fun _=>1,fun _ _=>0,fun _=>[],fun _=>[],fun _=>[],fun _=>[],fun _=>0,0,[]⟩
noncomputable def Qi (s:Zc) (l:List YP):Nat ->TS×List Int
 | 0=>(ts0,[])
 | k + 1=>ifc (Zcs s (l.getD k default) (Qi s l k).1) (stepW s (l.getD k default) (Qi s l k).1,(Qi s l k).2 ++ [(k:Int)]) (Qi s l k)
section
variable {s:Zc} {σ τ υ:TS} {F B a b p q w i n d k:Nat} {l:List YP}
theorem ZuV (hS:Qu s):Yd (s.qG * s.qG)= ((mm s * mm s:Nat):Int):=by
 obtain⟨e,h1,h4⟩:=hS.mm;have h16:=Zcv hS;rw [e,<- Int.natCast_mul];exact Zam (by omega) (by omega)
theorem ZgG {α:Type} (z:α) {JO n:Nat} (h:JO * n <=100000):mkL z JO (n:Int) (n:Int)=some (tab n fun _=>z):=by
 unfold mkL;rw [decide_eq_true (show(0:Int) <= (n:Int) by omega),decide_eq_true (show(n:Int) <= (n:Int) by omega),Int.toNat_natCast,Nm0 h,ZFA];rfl
theorem Zt6 (hF:1000 <=F) (hS:Qu s):ZDG F s=some (hal s ts0):=by
 have h8:nn s <=8:=hS.p2;obtain⟨em,h1,h4⟩:=hS.mm;have h16:=Zcv hS;unfold ZDG;refine Xr (fun k=>((k:Int),tab k (fun _=>(1:Int)),tab k (fun _=>tab (mm s * mm s) fun _=>(0:Int)),tab k (fun _=>([]:List Int)),tab k (fun _=>([]:List Int)))) rfl (n:=nn s) (by omega) (fun k hk next=>?_) (fun next=>?_)
 ·unfold Zoh;dsimp only;rw [show((s.Zh.length:Nat):Int)= ((nn s:Nat):Int) from rfl,Yv hk,Cq1,app1 (by rw [Xt];omega) (by decide)];simp only [Bq0];rw [ZuV hS,ZgG _ (by omega)];simp only [Bq0];rw [app1 (by rw [Xt];omega) (by decide)];simp only [Bq0];rw [app1 (by rw [Xt];omega) (by decide)];simp only [Bq0];rw [X9 (by omega),Zbi,Zbi,Zbi]
 ·unfold Zoh;dsimp only;rw [show((s.Zh.length:Nat):Int)= ((nn s:Nat):Int) from rfl,YI,Cq0,ZuV hS];have e1:mkL ([]:List Zd) 24 s.qG s.qG=some (tab (mm s) fun _=>[]):=by rw [em];exact ZgG _ (by omega)
  rw [e1];simp only [Bq0];rw [ZgG _ (by omega)];rfl
theorem Zwg (hF:1000 <=F) (hS:Qu s):ZDE F s=some (XZ s ts0):=by
 have h8:nn s <=8:=hS.p2;obtain⟨em,h1,h4⟩:=hS.mm;have h16:=Zcv hS;unfold ZDE;refine Xr (fun k=>((k:Int),tab k (fun _=>(1:Int)),tab k (fun _=>tab (mm s * mm s) fun _=>(0:Int)),tab k (fun _=>([]:List Int)),tab k (fun _=>([]:List Int)))) rfl (n:=nn s) (by omega) (fun k hk next=>?_) (fun next=>?_)
 ·unfold Zof;dsimp only;rw [show((s.Zh.length:Nat):Int)= ((nn s:Nat):Int) from rfl,Yv hk,Cq1,app1 (by rw [Xt];omega) (by decide)];simp only [Bq0];rw [ZuV hS,ZgG _ (by omega)];simp only [Bq0];rw [app1 (by rw [Xt];omega) (by decide)];simp only [Bq0];rw [app1 (by rw [Xt];omega) (by decide)];simp only [Bq0];rw [X9 (by omega),Zbi,Zbi,Zbi]
 ·unfold Zof;dsimp only;rw [show((s.Zh.length:Nat):Int)= ((nn s:Nat):Int) from rfl,YI,Cq0,ZuV hS];have e1:mkL ([]:List Zd) 24 s.qG s.qG=some (tab (mm s) fun _=>[]):=by rw [em];exact ZgG _ (by omega)
  rw [e1];simp only [Bq0];rw [ZgG _ (by omega)];rfl
theorem Zgt {n:Nat} {f:Nat ->Nat} (h:∀ k,k < n ->f k=0):QF n f=0:=by rw [ZbS (g:=fun _=>0) h,ZiZ];simp
theorem ZZg (s:Zc):Pot s ts0=11 * nn s:=by
 have e1:QF (mm s * mm s) (lw ts0)=0:=Zgt fun k _=>rfl
 have e2:QF (mm s) (fun m=>(ts0.be m).length)=0:=Zgt fun k _=>rfl
 have e3:QF (nn s) (fun q=>2 * (ts0.wa q).length)=0:=Zgt fun k _=>rfl
 have e4:QF (nn s) (fun p=>sw (ts0.st p))=nn s * 11:= (ZbS (g:=fun _=>11) fun k _=>rfl).trans (ZiZ _ _);unfold Pot;rw [e1,e2,e3,e4];show 0 + 0 + 0 + 0 + nn s * 11=_;omega
theorem ok0 (hS:Qu s):Ok s 88 ts0:=by
 have h8:nn s <=8:=hS.p2;have nil:∀ {α:Type} (x:α),¬ x ∈ ([]:List α):=fun x h=>by cases h
 have no3:∀ p,¬ ts0.st p=3:=fun p h=>absurd h (by show ¬ ((1:Int)=3);decide)
 have kn:Kn s ts0:= ⟨fun q _=>List.Pairwise.nil,fun q _ x hx=>absurd hx (nil x)⟩
 have k1:KI s ts0:= ⟨fun i j x hx _=>by simp [ts0] at hx,fun i i' j j' x x' hx _ _ _ _=>by simp [ts0] at hx,fun p _ h=>absurd h (no3 p),fun p _ h=>absurd h (no3 p)⟩
 have w:Wf s 88 ts0:= ⟨by rw [ZZg];omega,fun i _=>Nat.le_refl _,fun q _ x hx=>absurd hx (nil x)⟩
 exact⟨⟨w,kn⟩,⟨fun a b _ _ x hx=>absurd hx (nil x),fun a _=>rfl,fun w _ x hx=>absurd hx (nil x),fun q _ x hx=>absurd hx (nil x)⟩,⟨fun i=>Nat.le_refl _,kn⟩,k1,⟨Int.le_refl _,Int.le_refl _⟩⟩
theorem Zfy (hS:Qu s):∀ k,Ok s (88 + 4 * k) (Qi s l k).1/\(Qi s l k).2.length <=k/\Uz s ts0 (Qi s l k).1:=by
 intro k
 induction k with
 | zero=>exact⟨ok0 hS,Nat.le_refl _,.refl⟩
 | succ k ih=>
   obtain⟨h1,h2,h3⟩:=ih;rw [Qi];by_cases hA:Zcs s (l.getD k default) (Qi s l k).1
   ·rw [Z9 hA];refine⟨?_,by rw [List.length_append,List.length_singleton];omega,h3.trans (Zly hS h1 hA)⟩;have:=step_ok hS h1 hA;exact⟨this.gd.up (by omega),this.p1,this.p2,this.ki,this.sd⟩
   ·rw [Z7 hA];exact⟨⟨h1.gd.up (by omega),h1.p1,h1.p2,h1.ki,h1.sd⟩,by omega,h3⟩
theorem ZwD (hF:1000000 <=F) (hS:Qu s) (hl:l.length <=100):ZDF F (hal s ts0) l=some (hal s (Qi s l l.length).1,(Qi s l l.length).2):=by
 unfold ZDF;refine Xr (fun k=>((Qi s l k).2,(k:Int),KD s (Qi s l k).1)) rfl (n:=l.length) (by omega) (fun k hk next=>?_) (fun next=>?_)
 ·obtain⟨h1,h2,_⟩:=Zfy (l:=l) hS k;rw [Qi];obtain⟨σ,hσ⟩:∃ σ,σ= (Qi s l k).1:= ⟨_,rfl⟩
  obtain⟨dn,hd⟩:∃ dn,dn= (Qi s l k).2:= ⟨_,rfl⟩
  rw [<- hd] at h2;rw [<- hσ] at h1 |-;unfold Zog;rw [show KD s σ= (tab (nn s) σ.st,(tab (nn s) fun j=>tab (mm s * mm s) (σ.ma j)),tab (nn s) σ.kn,tab (nn s) σ.wa,tab (mm s) σ.be,tab (mm s * mm s) (Jc σ),σ.sd,s.qG,s.Zh,σ.ev) from rfl];dsimp only;rw [Yv hk,Cq1,XY default hk];simp only [Bq0];rw [Znz,Zo8 hS h1];by_cases hA:Zcs s (l.getD k default) σ
  ·rw [Z9 hA,Z9 hA];simp only [Bq0,Cq1];rw [Zlx hF hS (by omega) h1 hA];simp only [Bq0];rw [<- hd,Zo6 (by rw [List.length_singleton];omega)];simp only [Bq0];unfold ZgZ;dsimp only;rw [X9 (by omega)];rfl
  ·rw [Z7 hA,Z7 hA];simp only [Bq0,Cq0];unfold ZgZ;dsimp only;rw [X9 (by omega),<- hσ];rfl
 ·unfold Zog KD;dsimp only;rw [YI,Cq0];rfl
end
end
section
section
variable {s:Zc} {σ τ υ:TS} {F B a b p q w i n d k:Nat}
theorem ZfL {l:List Zd} (hF:1000000 <=F) (hl:l.length <=900000) (hm:∀ x ∈ l,x.qX.length <=16):ZtG F l l=some true:=by
 unfold ZtG;rw [Wu,Cq0];refine Xr (fun k=>(k:Int)) rfl (n:=l.length) (by omega) (fun k hk next=>?_) (fun next=>?_)
 ·unfold Zoe;rw [Yv hk,Cq1,XY default hk];simp only [Bq0,Wu,Bool.or_self,Bool.not_false,Qm];rw [ZdV (by have:=hm _ (Qd (d:=default) hk);omega) (by have:=hm _ (Qd (d:=default) hk);omega)];simp only [Bq0,Bool.not_true,Bool.or_self,Cq0];rw [X9 (by omega)]
 ·unfold Zoe;rw [YI,Cq0]
theorem Zxx (x:Zq):ZaR x x=true:=by simp [ZaR]
theorem Zrl {l:List Zq} (hF:1000000 <=F) (hl:l.length <=900000):Zxr F l l=some true:=by
 unfold Zxr;rw [Wu,Cq0];refine Xr (fun k=>(k:Int)) rfl (n:=l.length) (by omega) (fun k hk next=>?_) (fun next=>?_)
 ·unfold Zos;rw [Yv hk,Cq1,XY default hk];simp only [Bq0,Zxx,Bool.not_true,Cq0];rw [X9 (by omega)]
 ·unfold Zos;rw [YI,Cq0]
theorem ZRu {i:Nat} (h1:1 <=mm s) (h:i < mm s * mm s):∃ a b,a < mm s/\b < mm s/\i=li s a b:=by
 refine⟨i / mm s,i % mm s,Nat.div_lt_of_lt_mul h,Nat.mod_lt _ (by omega),?_⟩;unfold li;rw [Nat.mul_comm];exact(Nat.div_add_mod _ _).symm
theorem Zwm (hF:1000000 <=F) (hS:Qu s) (h:Ok s B σ) (hB:B <=600000):ZtJ F (vw s σ) (vw s σ)=some true:=by
 have h8:nn s <=8:=hS.p2;have h16:=Zcv hS;obtain⟨_,h1,h4⟩:=hS.mm;have fw:=h.gd.wf.few (by omega);unfold ZtJ;simp only [Wu,Bool.or_self,Cq0];refine Xr (fun k=>(k:Int)) rfl (n:=nn s) (by omega) (fun k hk next=>?_) (fun next=>?_)
 ·unfold Zoy;rw [show(vw s σ).qV=tab (nn s) σ.st from rfl,Xt,Yv hk,Cq1,Z4 hk];simp only [Bq0,Wu,Cq0];rw [X9 (by omega)]
 unfold Zoy;rw [show(vw s σ).qV=tab (nn s) σ.st from rfl,Xt,YI,Cq0];refine Xr (fun k=>(k:Int)) rfl (n:=nn s) (by omega) (fun k hk next=>?_) (fun next=>?_)
 ·unfold Zox;rw [show(vw s σ).qX=Ut s σ.ma from rfl,show(Ut s σ.ma).length=nn s from Xt,Yv hk,Cq1,Zbs hk];simp only [Bq0];rw [ZdV (by rw [Xt];omega) (by rw [Xt];omega)];simp only [Bq0,Bool.not_true,Cq0];rw [X9 (by omega)]
 unfold Zox;rw [show(vw s σ).qX=Ut s σ.ma from rfl,show(Ut s σ.ma).length=nn s from Xt,YI,Cq0];refine Xr (fun k=>(k:Int)) rfl (n:=nn s) (by omega) (fun k hk next=>?_) (fun next=>?_)
 ·unfold Zow;have:=h.gd.kn.len hS hk;rw [show(vw s σ).qZ=tab (nn s) σ.kn from rfl,Xt,Yv hk,Cq1,Z4 hk];simp only [Bq0];rw [ZdV (by omega) (by omega)];simp only [Bq0,Bool.not_true,Cq0];rw [X9 (by omega)]
 unfold Zow;rw [show(vw s σ).qZ=tab (nn s) σ.kn from rfl,Xt,YI,Cq0];refine Xr (fun k=>(k:Int)) rfl (n:=nn s) (by omega) (fun k hk next=>?_) (fun next=>?_)
 ·unfold Zov;have:=fw.wa k hk;rw [show(vw s σ).Zk=tab (nn s) σ.wa from rfl,Xt,Yv hk,Cq1,Z4 hk];simp only [Bq0];rw [ZdV (by omega) (by omega)];simp only [Bq0,Bool.not_true,Cq0];rw [X9 (by omega)]
 unfold Zov;rw [show(vw s σ).Zk=tab (nn s) σ.wa from rfl,Xt,YI,Cq0];refine Xr (fun k=>(k:Int)) rfl (n:=mm s) (by omega) (fun k hk next=>?_) (fun next=>?_)
 ·unfold Zou;have:=fw.be k hk;rw [show(vw s σ).Zt=tab (mm s) σ.be from rfl,Xt,Yv hk,Cq1,Z4 hk];simp only [Bq0];rw [ZfL hF (by omega) (fun x hx=>by rw [(h.p1.bea k hk x hx).1.2.2];exact h16)];simp only [Bq0,Bool.not_true,Cq0];rw [X9 (by omega)]
 unfold Zou;rw [show(vw s σ).Zt=tab (mm s) σ.be from rfl,Xt,YI,Cq0];refine Xr (fun k=>(k:Int)) rfl (n:=mm s * mm s) (by omega) (fun k hk next=>?_) (fun next=>?_)
 ·unfold Zot;have:=fw.sn k hk;obtain⟨a,b,ha,hb,e⟩:=ZRu h1 hk;rw [show(vw s σ).kQ=tab (mm s * mm s) (Jc σ) from rfl,Xt,Yv hk,Cq1,Z4 hk];simp only [Bq0,Wu,Bool.not_false,Qm]
  rw [ZfL hF (by show((σ.sn k).drop _).length <=_;rw [List.length_drop];omega) (fun x hx=>by
   obtain⟨p,_,_,hm,_⟩:=h.p1.lets a b ha hb x (by rw [<- e];exact List.mem_of_mem_drop hx);exact hm)]
  simp only [Bq0,Bool.not_true,Bool.or_self,Cq0];rw [X9 (by omega)]
 unfold Zot;rw [show(vw s σ).kQ=tab (mm s * mm s) (Jc σ) from rfl,Xt,YI,Cq0]
theorem ZdM (hF:1000000 <=F):Zxs F (Ze.mk [] [] [] [] [] [] 0)=some true:=by
 obtain⟨F',rfl⟩:∃ F',F=F' + 1:= ⟨F - 1,by omega⟩
 rfl
end
end
section
def opn (s:Zc) (σ:TS) (k:Nat):List Nat:= (List.range k).filter fun i=>decide (σ.ld i < (σ.sn i).length)
def opens (s:Zc) (σ:TS):List Nat:=opn s σ (mm s * mm s)
def Zej (ls:List Nat) (picks:List Int) (r:Nat):Nat:=if r < picks.length then ls.getD ((picks.getD r 0).toNat % ls.length) 0 else ls.getD 0 0
def Zda (s:Zc) (i:Nat):YP:= ⟨4,((i / mm s:Nat):Int),((i % mm s:Nat):Int)⟩
noncomputable def drK (s:Zc) (picks:List Int) (σ:TS):Nat ->TS
 | 0=>σ
 | r + 1=>if opens s (drK s picks σ r)= [] then drK s picks σ r else stepW s (Zda s (Zej (opens s (drK s picks σ r)) picks r)) (drK s picks σ r)
section
variable {s:Zc} {σ τ υ:TS} {F B a b p q w i n d k r:Nat} {l:List YP} {picks:List Int}
theorem ZvS:∀ (d p:Nat) (σ:TS),(Zhc s d p σ).ld=σ.ld:=by
 intro d
 induction d with
 | zero=>intro p σ;rfl
 | succ d ih=>
   intro p σ;have e:= (Ko (s:=s) p σ).2.2.1;show(Zkd s (Zhc s d) p (X5 s p σ)).ld=_;unfold Zkd;split
   ·exact e
   ·split
    ·unfold Ww;by_cases c:(YF s p (Kc s (X5 s p σ) p) (X5 s p σ)).st (inn s (p:Int)).toNat=2/\Alo s (YF s p (Kc s (X5 s p σ) p) (X5 s p σ)) (inn s (p:Int)).toNat
     ·rw [Z9 c,ih];exact e
     ·rw [Z7 c];exact e
    ·exact e
theorem ZDf:∀ (d p:Nat) (σ:TS),(Jg s d p σ).ld=σ.ld:=by
 intro d
 induction d with
 | zero=>intro p σ;rfl
 | succ d ih=>
   intro p σ
   have h:(fk s (Jg s d) p (nn s) (UC p σ)).ld=σ.ld:=by
    refine Zdl _ (fun τ=>τ.ld=σ.ld) _ _ rfl fun τ x _ h=>?_
    unfold Zaz;split
    ·split
     ·rw [ih];exact h
     ·exact h
    ·split
     ·exact h
     ·exact h
   show(ZjK s p _).ld=_;unfold ZjK;by_cases c:(fk s (Jg s d) p (nn s) (UC p σ)).st p=2/\Alo s (fk s (Jg s d) p (nn s) (UC p σ)) p
   ·rw [Z9 c,ZvS];exact h
   ·rw [Z7 c];exact h
theorem ZAS:(Zcx s a b σ).ld=YE σ.ld (li s a b) (σ.ld (li s a b) + 1):=by
 unfold Zcx Zjt;split
 ·rw [(ZaX _ _ _ _).2.2.2.1];rfl
 ·split
  ·rw [(K6 _ _ _).2.2.2.1];rfl
  ·split
   ·split
    ·rw [ZDf];rfl
    ·rfl
   ·split
    ·unfold ZaZ Ww;by_cases c:(YF s (hd σ (li s a b)).kV.toNat (hd σ (li s a b)).qX (drop1 (li s a b) σ)).st (inn s ((hd σ (li s a b)).kV.toNat:Int)).toNat=2/\Alo s (YF s (hd σ (li s a b)).kV.toNat (hd σ (li s a b)).qX (drop1 (li s a b) σ)) (inn s ((hd σ (li s a b)).kV.toNat:Int)).toNat
     ·rw [Z9 c,ZvS];rfl
     ·rw [Z7 c];rfl
    ·rfl
theorem Zzw (w:Nat):∀ (n:Nat) (σ:TS),(Zbl s w n σ).ld=σ.ld:=by
 intro n
 induction n with
 | zero=>intro σ;rfl
 | succ n ih=>
   intro σ;rw [Zbl];split
   ·rfl
   ·rw [ih,(K4 _ _ _ _).2.1]
theorem Zzv:∀ k,(rings s k σ).ld=σ.ld:=by
 intro k
 induction k with
 | zero=>rfl
 | succ k ih=>rw [rings,Zzw,ih]
theorem ZAt:opn s σ (k + 1)=opn s σ k ++ (if σ.ld k < (σ.sn k).length then [k] else []):=by
 unfold opn;rw [List.range_succ,List.filter_append];congr 1;by_cases h:σ.ld k < (σ.sn k).length
 ·rw [if_pos h];simp [h]
 ·rw [if_neg h];simp [h]
theorem ZFO:(opn s σ k).length <=k:=by
 have:=List.length_filter_le (fun i=>decide (σ.ld i < (σ.sn i).length)) (List.range k);rw [List.length_range] at this;exact this
theorem Zbr:i ∈ opens s σ↔i < mm s * mm s/\σ.ld i < (σ.sn i).length:=by unfold opens opn;simp
theorem ZdL {ls:List Nat} (h:ls ≠ []):Zej ls picks r ∈ ls:=by
 have hl:0 < ls.length:=List.length_pos_iff.2 h;unfold Zej;split
 ·exact Qd (Nat.mod_lt _ hl)
 ·exact Qd hl
theorem Zb9 (hS:Qu s) (h:i ∈ opens s σ):Zcs s (Zda s i) σ:=by
 obtain⟨h1,h2⟩:=Zbr.1 h;have hm:=hS.mm.2.1;obtain⟨_,h1',_⟩:=hS.mm;refine .inr (.inr (.inr ⟨rfl,i / mm s,i % mm s,rfl,rfl,Nat.div_lt_of_lt_mul h1,Nat.mod_lt _ (by omega),?_⟩));have:li s (i / mm s) (i % mm s)=i:=by unfold li;rw [Nat.mul_comm];exact Nat.div_add_mod _ _
 rw [this];exact h2
theorem ZAT (hS:Qu s):(stepW s (Zda s i) σ).ld=YE σ.ld i (σ.ld i + 1):=by
 have:li s (i / mm s) (i % mm s)=i:=by unfold li;rw [Nat.mul_comm];exact Nat.div_add_mod _ _
 unfold stepW;rw [Zzv];unfold WI Zda;rw [if_neg (show ¬ ((4:Int)=1) by decide),if_neg (show ¬ ((4:Int)=2) by decide),if_neg (show ¬ ((4:Int)=3) by decide),Int.toNat_natCast,Int.toNat_natCast,ZAS,this]
def lds (s:Zc) (σ:TS):Nat:=QF (mm s * mm s) σ.ld
theorem Zhb (hS:Qu s) (h:Ok s B σ):∀ r,Ok s B (drK s picks σ r)/\Uz s σ (drK s picks σ r):=by
 intro r
 induction r with
 | zero=>exact⟨h,.refl⟩
 | succ r ih=>
   rw [drK];by_cases e:opens s (drK s picks σ r)= []
   ·rw [if_pos e];exact ih
   ·rw [if_neg e];have hA:=Zb9 (σ:=drK s picks σ r) hS (ZdL (picks:=picks) (r:=r) e);exact⟨Zzg hS ih.1 rfl hA,ih.2.trans (Zly hS ih.1 hA)⟩
theorem ZLm (h:Ok s B σ):lds s σ <=B:=by
 have h1:lds s σ <=QF (mm s * mm s) (lw σ):=ZFB fun k hk=>Nat.le_trans (h.gd.wf.ld k hk) (by unfold lw;omega)
 have:=h.gd.wf.pot;unfold Pot at this;omega
theorem ZvQ (hS:Qu s):∀ r,(∀ j,j < r ->opens s (drK s picks σ j) ≠ []) ->lds s (drK s picks σ r)=lds s σ + r:=by
 intro r
 induction r with
 | zero=>intro _;rfl
 | succ r ih=>
   intro hj;have e:=ih fun j hjr=>hj j (by omega)
   have hn:=hj r (by omega);rw [drK,if_neg hn];obtain⟨h1,_⟩:=Zbr.1 (ZdL (picks:=picks) (r:=r) hn);unfold lds at *;rw [ZAT hS];have:=ZpJ (f:= (drK s picks σ r).ld) (v:= (drK s picks σ r).ld (Zej (opens s (drK s picks σ r)) picks r) + 1) h1;omega
theorem ZN1 (hS:Qu s) (h:Ok s B σ) (picks:List Int):∃ n,n <=B/\opens s (drK s picks σ n)= []/\∀ j,j < n ->opens s (drK s picks σ j) ≠ []:=by
 by_cases hz:∃ n,n < B + 1/\opens s (drK s picks σ n)= []
 ·obtain⟨n,hn,e⟩:=hz;obtain⟨m,hm,c,hlt⟩:=ZbA (c:=fun i=>opens s (drK s picks σ i)= []) e;exact⟨m,by omega,c,hlt⟩
 ·have hall:∀ j,j < B + 1 ->opens s (drK s picks σ j) ≠ []:=fun j hj q=>hz ⟨j,hj,q⟩
  have:=ZvQ (picks:=picks) (σ:=σ) hS (B + 1) hall;have:=ZLm (Zhb (picks:=picks) hS h (B + 1)).1;omega
theorem ZuA {a b:Nat} (hb:0 < b) (ha:a <=1000000):ZsA (a:Int) (b:Int)=some ((a / b:Nat):Int):=by
 unfold ZsA;rw [beq_eq_false_iff_ne.2 (by omega),Cq0,<- Int.ofNat_tdiv];have:=Nat.div_le_self a b;generalize a / b=q at *;exact congrArg some (Zam (by omega) (by omega))
theorem Zig {a b:Nat} (hb:0 < b):Zja (a:Int) (b:Int)=some ((a % b:Nat):Int):=by
 unfold Zja;rw [beq_eq_false_iff_ne.2 (by omega),Cq0];rfl
theorem Zcc {l:List Nat} (h:k < l.length):ZF (l.map Int.ofNat) (k:Int)=some ((l.getD k 0:Nat):Int):=by
 rw [XY 0 (by rw [List.length_map];exact h)];simp [List.getD_eq_getElem?_getD,h]
theorem Zqa (hk:k < mm s * mm s) {β:Type} (next:List Int×Int ->Option β) {l1:List Int×Int ->Option β} (h16:mm s * mm s <=16) (hs:(σ.sn k).length <=800000)
 (e1:∀ v,l1 v=next v):
 ((ZF (tab (mm s * mm s) (Jc σ)) (k:Int)).bind fun x=>(bif decide ((x.kG.length:Int) > 0) then(app 8 ((opn s σ k).map Int.ofNat) [(k:Int)]).bind fun z=>l1 (z,Yd ((k:Int) + 1)) else l1 ((opn s σ k).map Int.ofNat,Yd ((k:Int) + 1))))=next ((opn s σ (k + 1)).map Int.ofNat,((k + 1:Nat):Int)):=by
 have hl:=ZFO (s:=s) (σ:=σ) (k:=k);rw [Z4 hk];simp only [Bq0];rw [show(Jc σ k).kG= (σ.sn k).drop (σ.ld k) from rfl,List.length_drop,ZAt];by_cases c:σ.ld k < (σ.sn k).length
 ·rw [decide_eq_true (by omega),Cq1,Zo6 (by rw [List.length_map,List.length_singleton];omega),if_pos c];simp only [Bq0];rw [e1,X9 (by omega),List.map_append];rfl
 ·rw [decide_eq_false (by omega),Cq0,if_neg c,e1,X9 (by omega),List.append_nil]
theorem Zi8 (hF:1000000 <=F) (hS:Qu s) (h:Ok s B σ) (hB:B <=500000) (hr:r <=500000) (hp:∀ x ∈ picks,0 <=x) (hpl:picks.length <=100) (next:_ ->Option (Ze×(List Zq)×Int×Int)):
 Zg5 F s picks ((r:Int),KD s σ) next=if opens s σ= [] then some (vw s σ,σ.ev,(r:Int),0) else next (((r + 1:Nat):Int),KD s (stepW s (Zda s (Zej (opens s σ) picks r)) σ)):=by
 have h16:=Zcv hS;obtain⟨em,h1,h4⟩:=hS.mm;have fw:=h.gd.wf.few (by omega);unfold Zg5 KD;dsimp only;refine Xr (fun k=>((opn s σ k).map Int.ofNat,(k:Int))) rfl (n:=mm s * mm s) (by omega) (fun k hk nx=>?_) (fun nx=>?_)
 ·unfold Zoo;dsimp only;rw [Xt,Yv hk,Cq1];exact Zqa hk nx h16 (fw.sn k hk) (l1:=fun v=>nx v) fun v=>rfl
 ·unfold Zoo;dsimp only;rw [Xt,YI,Cq0,List.length_map];show(bif((((opens s σ).length:Nat):Int)==0) then _ else(ZF ((opens s σ).map Int.ofNat) 0).bind _)=_;by_cases e:opens s σ= []
  ·rw [if_pos e,e];rfl
  ·have hl:0 < (opens s σ).length:=List.length_pos_iff.2 e;rw [if_neg e,beq_eq_false_iff_ne.2 (by omega),Cq0,show(0:Int)= ((0:Nat):Int) from rfl,Zcc hl];simp only [Bq0];have hm:=ZdL (picks:=picks) (r:=r) e
   have go:∀ v:Nat,v ∈ opens s σ ->Zg4 F s (r:Int) (tab (nn s) σ.st) (tab (nn s) fun j=>tab (mm s * mm s) (σ.ma j)) (tab (nn s) σ.kn) (tab (nn s) σ.wa) (tab (mm s) σ.be) (tab (mm s * mm s) (Jc σ)) σ.sd s.qG s.Zh σ.ev next (v:Int)=next (((r + 1:Nat):Int),KD s (stepW s (Zda s v) σ)):=fun v hv=>by
    have hv1:= (Zbr.1 hv).1;unfold Zg4;rw [em,ZuA (by omega) (by omega),Zig (by omega)];simp only [Bq0];rw [<- em,Znz,show YP.mk 4 ((v / mm s:Nat):Int) ((v % mm s:Nat):Int)=Zda s v from rfl,Zlx hF hS hB h (Zb9 hS hv)];simp only [Bq0];rw [X9 (by omega)];rfl
   by_cases c:r < picks.length
   ·rw [Yv c,Cq1,XY 0 c];simp only [Bq0];have h0:=hp _ (Qd (d:=0) c);obtain⟨y,hy⟩:∃ y:Nat,picks.getD r 0= (y:Int):= ⟨(picks.getD r 0).toNat,by omega⟩
    show(Zja (picks.getD r 0) (((opens s σ).length:Nat):Int)).bind _=_;unfold Zej at hm |-;rw [if_pos c] at hm |-;rw [hy] at hm |-;rw [Int.toNat_natCast] at hm |-;rw [Zig hl];simp only [Bq0];show(ZF ((opens s σ).map Int.ofNat) _).bind _=_;rw [Zcc (Nat.mod_lt _ hl)];simp only [Bq0];exact go _ hm
   ·rw [show decide ((r:Int) < (picks.length:Int))=false from decide_eq_false (by omega),Cq0];unfold Zej at hm |-;rw [if_neg c] at hm |-;exact go _ hm
end
end
section
section
variable {s:Zc} {σ τ υ:TS} {F B a b p q w i n d k r:Nat} {l:List YP} {picks:List Int}
theorem ZlG (hF:1000000 <=F) (hS:Qu s) (h:Ok s B σ) (hB:B <=500000) (hr:r <=500000) (hp:∀ x ∈ picks,0 <=x) (hpl:picks.length <=100) (next:_ ->Option (Ze×(List Zq)×Int)):
 Zg3 F s picks ((r:Int),KO s σ) next=if opens s σ= [] then some (vw s σ,σ.ev,(r:Int)) else next (((r + 1:Nat):Int),KO s (stepW s (Zda s (Zej (opens s σ) picks r)) σ)):=by
 have h16:=Zcv hS;obtain⟨em,h1,h4⟩:=hS.mm;have fw:=h.gd.wf.few (by omega);unfold Zg3 KO;dsimp only;refine Xr (fun k=>((opn s σ k).map Int.ofNat,(k:Int))) rfl (n:=mm s * mm s) (by omega) (fun k hk nx=>?_) (fun nx=>?_)
 ·unfold Zok;dsimp only;rw [Xt,Yv hk,Cq1];exact Zqa hk nx h16 (fw.sn k hk) (l1:=fun v=>nx v) fun v=>rfl
 ·unfold Zok;dsimp only;rw [Xt,YI,Cq0,List.length_map];show(bif((((opens s σ).length:Nat):Int)==0) then _ else(ZF ((opens s σ).map Int.ofNat) 0).bind _)=_;by_cases e:opens s σ= []
  ·rw [if_pos e,e];rfl
  ·have hl:0 < (opens s σ).length:=List.length_pos_iff.2 e;rw [if_neg e,beq_eq_false_iff_ne.2 (by omega),Cq0,show(0:Int)= ((0:Nat):Int) from rfl,Zcc hl];simp only [Bq0];have hm:=ZdL (picks:=picks) (r:=r) e
   have go:∀ v:Nat,v ∈ opens s σ ->Zg2 F s (r:Int) s.qG s.Zh (tab (nn s) σ.st) (tab (nn s) fun j=>tab (mm s * mm s) (σ.ma j)) (tab (nn s) σ.kn) (tab (nn s) σ.wa) (tab (mm s) σ.be) (tab (mm s * mm s) (Jc σ)) σ.sd σ.ev next (v:Int)=next (((r + 1:Nat):Int),KO s (stepW s (Zda s v) σ)):=fun v hv=>by
    have hv1:= (Zbr.1 hv).1;have eli:li s (v / mm s) (v % mm s)=v:=by unfold li;rw [Nat.mul_comm];exact Nat.div_add_mod _ _
    have ha:v / mm s < mm s:=Nat.div_lt_of_lt_mul hv1;have hb:v % mm s < mm s:=Nat.mod_lt _ (by omega);have hl:σ.ld (li s (v / mm s) (v % mm s)) < (σ.sn (li s (v / mm s) (v % mm s))).length:=by rw [eli];exact(Zbr.1 hv).2
    obtain⟨hf,hD⟩:=h.head ha hb hl;obtain⟨g,ac⟩:=Zcg hS h (Zb9 hS hv);have g:=Zmy hS h rfl (Zb9 hS hv);have o1:=h.acts hS ac g
    have ec:WI s (Zda s v) σ=Zcx s (v / mm s) (v % mm s) σ:=by
     unfold WI Zda;rw [if_neg (show ¬ ((4:Int)=1) by decide),if_neg (show ¬ ((4:Int)=2) by decide),if_neg (show ¬ ((4:Int)=3) by decide),Int.toNat_natCast,Int.toNat_natCast]
    rw [ec] at g o1;unfold Zg2;rw [em,ZuA (by omega) (by omega),Zig (by omega)];simp only [Bq0];rw [<- em,ZnI,Zqj hF hS h.gd (by omega) ha hb hl hf.s hD];simp only [Bq0];rw [ZgB hF hS (by omega) g o1.p1.ZxS];simp only [Bq0];rw [X9 (by omega)];unfold stepW;rw [ec];rfl
   by_cases c:r < picks.length
   ·rw [Yv c,Cq1,XY 0 c];simp only [Bq0];have h0:=hp _ (Qd (d:=0) c);obtain⟨y,hy⟩:∃ y:Nat,picks.getD r 0= (y:Int):= ⟨(picks.getD r 0).toNat,by omega⟩
    show(Zja (picks.getD r 0) (((opens s σ).length:Nat):Int)).bind _=_;unfold Zej at hm |-;rw [if_pos c] at hm |-;rw [hy] at hm |-;rw [Int.toNat_natCast] at hm |-;rw [Zig hl];simp only [Bq0];show(ZF ((opens s σ).map Int.ofNat) _).bind _=_;rw [Zcc (Nat.mod_lt _ hl)];simp only [Bq0];exact go _ hm
   ·rw [show decide ((r:Int) < (picks.length:Int))=false from decide_eq_false (by omega),Cq0];unfold Zej at hm |-;rw [if_neg c] at hm |-;exact go _ hm
theorem ZXD {k:Nat} (h:k < 9223372036854775807):Yd ((k:Int) + 1)= ((k + 1:Nat):Int):=Zam (by omega) (by omega)
theorem ZlV (hF:picks.length < F) (hl:picks.length <=9223372036854775807):ZtH F picks=ifc (∀ k,k < picks.length ->0 <=picks.getD k 0) (some (decide ((picks.length:Int) <=100))) (some false):=by
 unfold ZtH;refine Wv (fun k=>(k:Int)) rfl (fun k=>0 <=picks.getD k 0) (n:=picks.length) (by omega) (fun k hk next=>?_) (fun next=>?_)
 ·unfold Zom;rw [Yv hk,Cq1,XY 0 hk];simp only [Bq0];by_cases c:0 <=picks.getD k 0
  ·rw [Z9 c,decide_eq_false (by omega),Cq0,ZXD (by omega)]
  ·rw [Z7 c,decide_eq_true (by omega),Cq1]
 ·unfold Zom;rw [YI,Cq0]
theorem Zks:(∀ k,k < picks.length ->0 <=picks.getD k 0)↔∀ x ∈ picks,0 <=x:=by
 constructor
 ·intro h x hx;obtain⟨k,hk,e⟩:=List.getElem_of_mem hx;have:=h k hk;rw [List.getD_eq_getElem?_getD,List.getElem?_eq_getElem hk] at this;rw [<- e];exact this
 ·intro h k hk;exact h _ (Qd hk)
noncomputable def ZcD (s:Zc) (l:List YP) (picks:List Int) (n:Nat):TS:=drK s picks (Qi s l l.length).1 n
theorem ZtO (hF:1000000 <=F) (hS:Qu s) (hl:l.length <=100) (hp:∀ x ∈ picks,0 <=x) (hpl:picks.length <=100) {n:Nat} (hn:n <=500000) (he:opens s (ZcD s l picks n)= []) (hj:∀ j,j < n ->opens s (ZcD s l picks j) ≠ []):
 ZtI F s l picks=some (vw s (ZcD s l picks n),(ZcD s l picks n).ev,(n:Int),0):=by
 obtain⟨ok,dl,_⟩:=Zfy (l:=l) hS l.length;unfold ZtI;rw [Zki (by omega),Z9 hS];simp only [Bq0,Wu,Bool.false_or];rw [decide_eq_false (by omega),decide_eq_false (by omega)];simp only [Bool.or_self,Bool.not_false,Cq1];refine Xr (fun k=>(k:Int)) rfl (n:=picks.length) (by omega) (fun k hk next=>?_) (fun next=>?_)
 ·unfold ZeO ZDB;rw [Yv hk,Cq1,XY 0 hk];simp only [Bq0];rw [decide_eq_false (by have:=hp _ (Qd (d:=0) hk);omega),Cq0,X9 (by omega)]
 ·unfold ZeO;rw [YI,Cq0];unfold ZeN;rw [show decide ((-1:Int) >=0)=false from rfl,Cq0,Zt6 (by omega) hS];simp only [Bq0];rw [ZwD hF hS hl];simp only [Bq0];refine Xr (fun k=>((k:Int),KD s (ZcD s l picks k))) rfl (n:=n) (by omega) (fun k hk next=>?_) (fun next=>?_)
  ·have o:= (Zhb (picks:=picks) hS ok k).1;show Zg5 F s picks ((k:Int),KD s (drK s picks (Qi s l l.length).1 k)) next=_;rw [Zi8 hF hS o (by omega) (by omega) hp hpl,if_neg (show ¬ opens s (drK s picks (Qi s l l.length).1 k)= [] from hj k hk)];have:=hj k hk;unfold ZcD at *;rw [drK,if_neg this]
  ·have o:= (Zhb (picks:=picks) hS ok n).1;show Zg5 F s picks ((n:Int),KD s (drK s picks (Qi s l l.length).1 n)) next=_;rw [Zi8 hF hS o (by omega) (by omega) hp hpl,if_pos (show opens s (drK s picks (Qi s l l.length).1 n)= [] from he)];rfl
theorem Zxz (hF:1000000 <=F) (hS:Qu s) (hl:l.length <=100) (hp:∀ x ∈ picks,0 <=x) (hpl:picks.length <=100) {n:Nat} (hn:n <=500000) (he:opens s (ZcD s l picks n)= []) (hj:∀ j,j < n ->opens s (ZcD s l picks j) ≠ []):
 ZDK F s l picks=some (vw s (ZcD s l picks n),(ZcD s l picks n).ev,(n:Int)):=by
 obtain⟨ok,dl,_⟩:=Zfy (l:=l) hS l.length;unfold ZDK;rw [Zwg (by omega) hS];simp only [Bq0];refine Xr (fun k=>((k:Int),KO s (Qi s l k).1)) rfl (n:=l.length) (by omega) (fun k hk next=>?_) (fun next=>?_)
 ·obtain⟨h1,h2,_⟩:=Zfy (l:=l) hS k;rw [Qi];obtain⟨σ,hσ⟩:∃ σ,σ= (Qi s l k).1:= ⟨_,rfl⟩
  rw [<- hσ] at h1 |-;unfold Zol;rw [show KO s σ= (s.qG,s.Zh,tab (nn s) σ.st,(tab (nn s) fun j=>tab (mm s * mm s) (σ.ma j)),tab (nn s) σ.kn,tab (nn s) σ.wa,tab (mm s) σ.be,tab (mm s * mm s) (Jc σ),σ.sd,σ.ev) from rfl];dsimp only;rw [Yv hk,Cq1,XY default hk];simp only [Bq0];rw [ZnI,ZN2 hF hS (by omega) h1];by_cases hA:Zcs s (l.getD k default) σ
  ·rw [Z9 hA,Z9 hA];simp only [Bq0];rw [X9 (by omega)];rfl
  ·rw [Z7 hA,Z7 hA];simp only [Bq0];rw [X9 (by omega),<- hσ];rfl
 ·unfold Zol;rw [show KO s (Qi s l l.length).1= (s.qG,s.Zh,tab (nn s) (Qi s l l.length).1.st,(tab (nn s) fun j=>tab (mm s * mm s) ((Qi s l l.length).1.ma j)),tab (nn s) (Qi s l l.length).1.kn,tab (nn s) (Qi s l l.length).1.wa,tab (mm s) (Qi s l l.length).1.be,tab (mm s * mm s) (Jc (Qi s l l.length).1),(Qi s l l.length).1.sd,(Qi s l l.length).1.ev) from rfl];dsimp only;rw [YI,Cq0];refine Xr (fun k=>((k:Int),KO s (ZcD s l picks k))) rfl (n:=n) (by omega) (fun k hk next=>?_) (fun next=>?_)
  ·have o:= (Zhb (picks:=picks) hS ok k).1;show Zg3 F s picks ((k:Int),KO s (drK s picks (Qi s l l.length).1 k)) next=_;rw [ZlG hF hS o (by omega) (by omega) hp hpl,if_neg (show ¬ opens s (drK s picks (Qi s l l.length).1 k)= [] from hj k hk)];have:=hj k hk;unfold ZcD at *;rw [drK,if_neg this]
  ·have o:= (Zhb (picks:=picks) hS ok n).1;show Zg3 F s picks ((n:Int),KO s (drK s picks (Qi s l l.length).1 n)) next=_;rw [ZlG hF hS o (by omega) (by omega) hp hpl,if_pos (show opens s (drK s picks (Qi s l l.length).1 n)= [] from he)];rfl
theorem ZHd (hS:Qu s) (hl:l.length <=100) (picks:List Int):∃ n,n <=488/\opens s (ZcD s l picks n)= []/\(∀ j,j < n ->opens s (ZcD s l picks j) ≠ [])/\Ok s 488 (ZcD s l picks n)/\Uz s ts0 (ZcD s l picks n)/\Uz s (Qi s l l.length).1 (ZcD s l picks n)/\lds s (ZcD s l picks n)=lds s (Qi s l l.length).1 + n:=by
 obtain⟨ok,dl,ac⟩:=Zfy (l:=l) hS l.length;have ok:Ok s 488 (Qi s l l.length).1:= ⟨ok.gd.up (by omega),ok.p1,ok.p2,ok.ki,ok.sd⟩
 obtain⟨n,h1,h2,h3⟩:=ZN1 hS ok picks;obtain⟨o,a⟩:=Zhb (picks:=picks) hS ok n;exact⟨n,h1,h2,h3,o,ac.trans a,a,ZvQ hS n h3⟩
theorem ZxA (hF:1000000 <=F) (hpl:picks.length <=900000) (h:¬ (Qu s/\l.length <=100/\(∀ x ∈ picks,0 <=x)/\picks.length <=100)):
 ZtI F s l picks=some ((Ze.mk [] [] [] [] [] [] 0),[],0,2):=by
 unfold ZtI;rw [Zki (by omega)];by_cases hS:Qu s
 ·rw [Z9 hS];simp only [Bq0,Wu,Bool.false_or];by_cases h1:l.length <=100
  ·by_cases h2:picks.length <=100
   ·rw [decide_eq_false (by omega),decide_eq_false (by omega)];simp only [Bool.or_self,Bool.not_false,Cq1];have hn:¬ ∀ k,k < picks.length ->0 <=picks.getD k 0:=fun q=>h ⟨hS,h1,Zks.1 q,h2⟩
    have:=Wv (body:=ZeO F s l picks) (r1:=some ((Ze.mk [] [] [] [] [] [] 0),[],0,2)) (r2:=ZeN F s l picks (-1)) (s0:= (0:Int)) (fun k=>(k:Int)) rfl (fun k=>0 <=picks.getD k 0) (n:=picks.length) (F:=F) (by omega) (fun k hk next=>by
     unfold ZeO ZDB;rw [Yv hk,Cq1,XY 0 hk];simp only [Bq0];by_cases c:0 <=picks.getD k 0
     ·rw [Z9 c,decide_eq_false (by omega),Cq0,X9 (by omega)]
     ·rw [Z7 c,decide_eq_true (by omega),Cq1];unfold ZeN;rw [decide_eq_true (by omega),Cq1]) (fun next=>by
     unfold ZeO;rw [YI,Cq0])
    rw [this,Z7 hn]
   ·rw [decide_eq_true (show(picks.length:Int) > 100 by omega)];simp
  ·rw [decide_eq_true (show(l.length:Int) > 100 by omega)];simp
 ·rw [Z7 hS];rfl
end
theorem ZkB {F:Nat} (hF:1000000 <=F) (s:Zc) (l:List YP) (picks:List Int):f4L F s l picks=some true:=by
 unfold f4L ZGY;simp only [Bq0];by_cases h30:((!decide ((s.Zh.length:Int) <=30) || decide ((l.length:Int) > 120)) || decide ((picks.length:Int) > 120))=true
 ·rw [h30];rfl
 rw [Bool.eq_false_iff.2 h30,Cq0]
 have hpl:picks.length <=120:=by
  simp only [Bool.or_eq_true,decide_eq_true_eq] at h30;omega
 have f15:Zxu=some true:=rfl;rw [Zwj (by omega)];by_cases hg:Qu s/\l.length <=100/\(∀ x ∈ picks,0 <=x)/\picks.length <=100
 ·obtain⟨hS,hl,hp,hpl⟩:=hg;obtain⟨n,hn,he,hj,ok,_⟩:=ZHd hS hl picks;rw [ZtO hF hS hl hp hpl (by omega) he hj,Zxz hF hS hl hp hpl (by omega) he hj,ZlV (by omega) (by omega),Z9 (Zks.2 hp),Z9 hS];simp only [Bq0];rw [decide_eq_false (show ¬ (l.length:Int) > 100 by omega),decide_eq_true (show(picks.length:Int) <=100 by omega)];simp only [Bool.not_true,Bool.or_self,Bool.not_false,Qm,Bq0,Cq0,beq_self_eq_true];rw [Zwm hF hS ok (by omega)];simp only [Bq0,Bool.true_and,Qm];have hev:= (ok.gd.wf.few (by omega)).ev;rw [Zrl hF (by omega)];simp only [Bq0,Bool.true_and,Qm];rw [f15];rfl
 ·rw [ZxA hF (by omega) hg]
  have fin:∀ g:Bool,g=true ->(bif g then(gd (((2:Int))==2) (Zxs F (Ze.mk [] [] [] [] [] [] 0)) default).bind fun x34=>(gd (((((2:Int))==2) && x34) && ((([]:List Zq).length:Int)==0) && ((0:Int)==0)) (Zxu) default).bind fun x35=>some ((((((2:Int))==2) && x34) && ((([]:List Zq).length:Int)==0) && ((0:Int)==0)) && x35) else none)=some true:=fun g e=>by
   rw [e,Cq1,ZdM hF];rfl
  by_cases hS:Qu s
  ·rw [Z9 hS];simp only [Bq0,Bool.not_true,Bool.false_or];by_cases hl:l.length <=100
   ·rw [decide_eq_false (show ¬ (l.length:Int) > 100 by omega)];simp only [Bool.not_false,Qm,Bool.false_or]
    have:ZtH F picks=some false:=by
     rw [ZlV (by omega) (by omega)];by_cases c:∀ k,k < picks.length ->0 <=picks.getD k 0
     ·rw [Z9 c,decide_eq_false (fun q=>hg ⟨hS,hl,Zks.1 c,by omega⟩)]
     ·rw [Z7 c]
    rw [this];simp only [Bq0,Bool.not_false,Cq1,beq_self_eq_true,Qm];rw [ZdM hF];rfl
   ·rw [decide_eq_true (show(l.length:Int) > 100 by omega)];simp only [Bool.not_true,QL,Bq0,Bool.true_or,Cq1,beq_self_eq_true,Qm];rw [ZdM hF];rfl
  ·rw [Z7 hS];simp only [Bq0,Bool.not_false,Bool.true_or,Bool.not_true,QL,Cq1,beq_self_eq_true,Qm];rw [ZdM hF];rfl
end
end Go.Proofs.YtcnahmgekicbdaaGreat
end
