/- Part 15. -/
import Derived.Test.YtcnahmgekicbdaaGreatBa14
set_option linter.all false
set_option maxHeartbeats 2000000
section
namespace Go.Proofs.YtcnahmgekicbdaaGreat
open Go.Lf
section
section
variable {s:Zc} {σ τ υ:TS} {F B a b p q w i j n d r p0 q0:Nat} {x:Zd} {k:Int} {e:Zk}
theorem ZE3 (hS:X0 s) (hp:p < nn s):inn s (p:Int) ≠ (p:Int):=fun e=>by
 have:∀ k,up s k (p:Int)= (p:Int):=fun k=>by
  induction k with
  | zero=>rfl
  | succ k ih=>rw [Jk,ih,if_neg (by omega),e]
 have h:=Zb7 hS hp;rw [this] at h;omega
theorem ZLX (hS:X0 s) (kn:Kn s σ) (ki:KI s σ) (hk:q < nn s) (h3:σ.st q=3) (ac:Act s σ τ):τ.ma q=σ.ma q:=by
 have alive:∀ p,p < nn s ->0 <=inn s (p:Int) ->(σ.st p ≠ 3∨(p:Int) ∉ σ.kn (inn s (p:Int)).toNat) ->q ≠ (inn s (p:Int)).toNat:=fun p hp h0 c e=>by
  obtain⟨eq,hq⟩:=QD hS hp (by omega);have hk4:=ki.k4 q hk h3 p hp (by rw [e];exact eq);rw [e] at hk4;rcases c with c | c
  ·obtain⟨k,ek,_,_,hd⟩:=kn.rng _ hq _ hk4;have:p=k:=by omega
   subst this;exact c hd
  ·exact c hk4
 cases ac with
 | fall=>rfl
 | Ww=>rfl
 | @die p hp h2 hA=>
   have hqp:q ≠ p:=fun e=>by subst e;rw [h2] at h3;cases h3
   have hA:(Yk s p σ).ma q=σ.ma q:=by
    show Z5 (Zu s p (σ.wa p) (JJ p σ)).ma p _ q=_;rw [ZC hqp,(ZbW (s:=s) p (σ.wa p) (JJ p σ)).2.2.1];rfl
   unfold Uw;by_cases h0:inn s (p:Int) < 0
   ·rw [if_pos h0];exact hA
   ·rw [if_neg h0];split
    ·show Z5 (Yk s p σ).ma (inn s (p:Int)).toNat _ q=_;rw [ZC (alive p hp (by omega) (.inl (by rw [h2];decide)))];exact hA
    ·exact hA
 | ZcM=>rw [(Qo _ _ _ _).2.2.1];rfl
 | ZcL=>rfl
 | ZcI=>rw [(XR _ _ _).2.2.1];rfl
 | ZcH=>rfl
 | ZcP=>rw [(Qo _ _ _ _).2.2.1];rfl
 | ZcS=>rw [(XR _ _ _).2.2.1];rfl
 | ZcQ=>rfl
 | @Zbf a b p ha hb hl hk' hp hpn h0 hm h3' hn=>
   show Z5 σ.ma (inn s (p:Int)).toNat _ q=_;rw [ZC (alive p hpn h0 (.inr hn))]
 | ZcR=>rfl
 | ring=>rw [(Q9 _ _ _ _).2.2.2.2.1]
def Msg (s:Zc) (σ:TS) (q b w j:Nat):Prop:=∃ x:Zd,(σ.sn (li s b w))[j]? =some x∧x.kW=1∧x.kV= (q:Int)
theorem Msg.s1 (h:S1 σ τ):Msg s τ q b w j↔Msg s σ q b w j:=
 ⟨fun⟨x,h1,h2,h3⟩=>⟨x,(h _ _ _ h2).1 h1,h2,h3⟩,fun⟨x,h1,h2,h3⟩=>⟨x,(h _ _ _ h2).2 h1,h2,h3⟩⟩
theorem Msg.lt (h:Msg s σ q b w j):j < (σ.sn (li s b w)).length:=by
 obtain⟨x,h1,_⟩:=h;exact(Li0 h1).1
structure Mk (s:Zc) (σ:TS):Prop where
 m1:∀ q b w j,q < nn s ->b < mm s ->w < mm s ->b ≠ w ->σ.st q=3 ->Msg s σ q b w j ->(j:Int) < σ.ma q (li s b w)
 m2:∀ p k:Nat,p < nn s ->k < nn s ->(k:Int) ∈ σ.kn p ->∀ i,i < mm s * mm s ->σ.ma k i <=σ.ma p i
 l4:∀ (i j:Nat) (x:Zd),(σ.sn i)[j]? =some x ->x.kW=4 ->∀ k:Nat,x.kV= (k:Int) ->∀ i',i' < mm s * mm s ->x.qX.getD i' 0=σ.ma k i'
theorem ZyF {hS:X0 s} (hp:p < nn s) (h:Wth s r p) (hne:p ≠ r):∃ c:Nat,c < nn s∧inn s (c:Int)= (r:Int)∧Wth s c p:=by
 obtain⟨j,e⟩:=h
 induction j generalizing r with
 | zero=>exact absurd (by have:(p:Int)=r:=e;omega) hne
 | succ j ih=>
   rw [Jk] at e;by_cases h0:up s j (p:Int) < 0
   ·rw [if_pos h0] at e;omega
   ·rw [if_neg h0] at e;obtain⟨c,hc⟩:∃ c:Nat,up s j (p:Int)= (c:Int):= ⟨(up s j (p:Int)).toNat,by omega⟩
    refine⟨c,?_,by rw [← hc];exact e,j,hc⟩;have hok:=Zks hS.inn.rng hp (k:=j);rw [hc] at hok;have:=hok.2;show c < s.Ze.length;omega
theorem Mk.chain (hS:X0 s) (ki:KI s σ) (kn:Kn s σ) (h:Mk s σ) (hi:i < mm s * mm s):∀ (m q r:Nat),q < nn s ->r < nn s ->σ.st r=3 ->up s m (q:Int)= (r:Int) ->σ.ma q i <=σ.ma r i:=by
 intro m
 induction m with
 | zero=>intro q r hq hr _ e;have:q=r:=by have:(q:Int)=r:=e;omega
         rw [this];exact Int.le_refl _
 | succ m ih=>
   intro q r hq hr h3 e;have e':(if(q:Int) < 0 then(q:Int) else up s m (inn s (q:Int)))= (r:Int):=e;rw [if_neg (by omega)] at e';by_cases h0:inn s (q:Int) < 0
   ·rw [ZgJ h0] at e';omega
   ·obtain⟨eq,hq'⟩:=QD hS hq h0;rw [eq] at e';have h3':=Zgx hS kn ki hr h3 m _ hq' e';have h1:=ih _ r hq' hr h3 e';have h2:=h.m2 _ q hq' hq (ki.k4 _ hq' h3' q hq eq) i hi;omega
theorem ZEN (hb:b < mm s):li s a b / mm s=a∧li s a b % mm s=b:=by
 have:= (Wl hb).1 (show li s a b=a * mm s + b from rfl);exact⟨this.1,this.2⟩
theorem Mk.act (hS:X0 s) (h1:P1 s σ) (h2:P2 s σ) (ki:KI s σ) (hM:MB s σ) (h:Mk s σ) (ac:Act s σ τ):Mk s τ:=by
 have kn:=h2.kn;have fz:=fun q hq h3=>ZLX (q:=q) hS kn ki hq h3 ac
 have same:S1 σ τ ->S4 σ τ ->(∀ q,q < nn s ->τ.st q=3 ->σ.st q=3) ->τ.kn=σ.kn ->τ.ma=σ.ma ->Mk s τ:=fun c1 c4 c3 ck cm=>
  ⟨fun q b w j hq hb hw hne h3 hm=>by rw [cm];exact h.m1 q b w j hq hb hw hne (c3 q hq h3) ((Msg.s1 c1).1 hm),by rw [ck,cm];exact h.m2,fun i j x hx hk k hkp=>by rw [cm];exact h.l4 i j x ((c4 i j x hk).1 hx) hk k hkp⟩
 cases ac with
 | @fall p hp hst=>
   refine same (.refl' rfl) (.refl' rfl) (fun q _ h3=>?_) rfl rfl;have h3:Z5 σ.st p 2 q=3:=h3;by_cases e:q=p
   ·subst e;rw [Zt] at h3;cases h3
   ·rwa [ZC e] at h3
 | Ww=>exact same (.send (by show(3:Int) ≠ 1;decide)) (.send (by show(3:Int) ≠ 4;decide)) (fun _ _ z=>z) rfl rfl
 | @die p hp hst hA=>
   have sA:=QG (s:=s) p σ;have c1:S1 σ (Yk s p σ):=S1.Yk p;have c4:S4 σ (Yk s p σ):=S4.Yk p;have up:=SnM.Yk (s:=s) (σ:=σ) p
   have maP:∀ i,i < mm s * mm s ->(Yk s p σ).ma p i=if i / mm s=pl s p∧i % mm s < mm s∧i % mm s ≠ pl s p then(((Yk s p σ).sn i).length:Int) else σ.ma p i:=fun i _=>by
    show Z5 (Zu s p (σ.wa p) (JJ p σ)).ma p (ZcN s (Zu s p (σ.wa p) (JJ p σ)) p (mm s)) p i=_;rw [Zt];unfold ZcN;rw [(ZbW (s:=s) p (σ.wa p) (JJ p σ)).2.2.1];rfl
   have maQ:∀ q,q ≠ p ->(Yk s p σ).ma q=σ.ma q:=fun q e=>by
    show Z5 (Zu s p (σ.wa p) (JJ p σ)).ma p _ q=_;rw [ZC e,(ZbW (s:=s) p (σ.wa p) (JJ p σ)).2.2.1];rfl
   have ZOv:∀ i,i < mm s * mm s ->σ.ma p i <= (Yk s p σ).ma p i:=fun i hi=>by
    rw [maP i hi];split
    ·exact Int.le_trans (hM.ma p i hi) (Int.ofNat_le.2 (up i))
    ·exact Int.le_refl _
   have hA':Mk s (Yk s p σ):=by
    refine⟨fun q b w j hq hb hw hne h3 hm=>?_,fun q k hq hk hkn i hi=>?_,fun i j x hx hk k hkp i' hi'=>?_⟩
    ·by_cases e:q=p
     ·subst e;obtain⟨x,hx,hxk,hxp⟩:= (Msg.s1 c1).1 hm;have hlet:=h1.lets b w hb hw x (List.mem_of_getElem? hx)
      have hpb:pl s q=b:=by
       obtain⟨p',e1,_,_,c⟩:=hlet;have:p'=q:=by omega
       subst this;rcases c with⟨_,c,_⟩ | ⟨k,_⟩ | ⟨k,_⟩ | ⟨k,_⟩ | ⟨k,_⟩
       ·exact c
       all_goals omega
      obtain⟨d1,d2⟩:=ZEN (s:=s) (a:=b) hw;rw [maP _ (Wy hb hw),if_pos ⟨by rw [d1,hpb],by rw [d2];exact hw,by rw [d2,hpb];exact fun z=>hne z.symm⟩];exact Int.ofNat_lt.2 hm.lt
     ·rw [maQ q e];rw [sA.1,ZC e] at h3;exact h.m1 q b w j hq hb hw hne h3 ((Msg.s1 c1).1 hm)
    ·rw [sA.2.1] at hkn
     have hkd:σ.st k=3:=by
      obtain⟨k',ek,_,_,hd⟩:=kn.rng q hq _ hkn;have:k=k':=by omega
      rw [this];exact hd
     have hkp:k ≠ p:=fun e=>by subst e;rw [hst] at hkd;cases hkd
     rw [maQ k hkp];have:=h.m2 q k hq hk hkn i hi;by_cases e:q=p
     ·subst e;exact Int.le_trans this (ZOv i hi)
     ·rw [maQ q e];exact this
    ·have hx':= (c4 i j x hk).1 hx;obtain⟨k',e1,e2,e3,_⟩:=ki.k1 i j x hx' hk;have hkk:k=k':=by omega
     have hne:k ≠ p:=fun e=>by rw [← hkk,e,hst] at e3;cases e3
     rw [maQ k hne];exact h.l4 i j x hx' hk k hkp i' hi'
   have fz':=fz;unfold Uw at fz' ⊢;by_cases h0:inn s (p:Int) < 0
   ·rw [if_pos h0];exact hA'
   ·rw [if_neg h0] at fz' ⊢;obtain⟨eq,Ku⟩:=QD hS hp h0
    have hal:σ.st (inn s (p:Int)).toNat ≠ 3:=fun z=>by
     have:=ki.k4 _ Ku z p hp eq;obtain⟨k,ek,_,_,hd⟩:=kn.rng _ Ku _ this;have:p=k:=by omega
     subst this;rw [hst] at hd;cases hd
    have hpq:(inn s (p:Int)).toNat ≠ p:=fun z=>by
     have:=Zb7 hS hp;exact absurd (by rw [eq,z]:inn s (p:Int)= (p:Int)) (ZE3 hS hp)
    by_cases c:pl s (inn s (p:Int)).toNat=pl s p
    ·rw [if_pos c] at fz' ⊢;have mq:∀ q,q ≠ (inn s (p:Int)).toNat ->(YJ s p (Wx s (Yk s p σ) p) (Yk s p σ)).ma q= (Yk s p σ).ma q:=fun q e=>ZC e
     have mi:∀ i,i < mm s * mm s ->(YJ s p (Wx s (Yk s p σ) p) (Yk s p σ)).ma (inn s (p:Int)).toNat i=if(Yk s p σ).ma p i > (Yk s p σ).ma (inn s (p:Int)).toNat i then(Yk s p σ).ma p i else(Yk s p σ).ma (inn s (p:Int)).toNat i:=fun i hi=>by
      show Z5 (Yk s p σ).ma (inn s (p:Int)).toNat (mx _ _) (inn s (p:Int)).toNat i=_;rw [Zt];unfold mx;rw [Zck hi]
     refine⟨fun q b w j hq hb hw hne h3 hm=>?_,fun q k hq hk hkn i hi=>?_,fun i j x hx hk k hkp i' hi'=>?_⟩
     ·have e:q ≠ (inn s (p:Int)).toNat:=fun z=>by
       have h3:(Yk s p σ).st q=3:=h3;rw [sA.1,z,ZC hpq] at h3;exact hal h3
      rw [mq q e];exact hA'.m1 q b w j hq hb hw hne h3 hm
     ·have hkn':(k:Int) ∈ Z5 (Yk s p σ).kn (inn s (p:Int)).toNat (ins (p:Int) ((Yk s p σ).kn (inn s (p:Int)).toNat)) q:=hkn;have hki:k ≠ (inn s (p:Int)).toNat ->(YJ s p (Wx s (Yk s p σ) p) (Yk s p σ)).ma k i= (Yk s p σ).ma k i:=fun e=>by rw [mq k e]
      by_cases e:q= (inn s (p:Int)).toNat
      ·subst e;rw [Zt] at hkn';rcases U4.1 hkn' with z | z
       ·have:k=p:=by omega
        subst this;rw [mi i hi,hki (fun z=>hpq z.symm)];split <;> omega
       ·have hke:k ≠ (inn s (p:Int)).toNat:=fun zz=>by
         rw [sA.2.1] at z;obtain⟨k',ek,_,_,hd⟩:=kn.rng _ Ku _ z;have:k=k':=by omega
         rw [← this,zz] at hd;exact hal hd
        have:=hA'.m2 _ k hq hk z i hi;rw [mi i hi,hki hke];split <;> omega
      ·rw [ZC e] at hkn'
       have hke:k ≠ (inn s (p:Int)).toNat:=fun zz=>by
        rw [sA.2.1] at hkn';obtain⟨k',ek,_,_,hd⟩:=kn.rng q hq _ hkn';have:k=k':=by omega
        rw [← this,zz] at hd;exact hal hd
       rw [mq q e,hki hke];exact hA'.m2 q k hq hk hkn' i hi
     ·have hx':= (c4 i j x hk).1 hx;obtain⟨k',e1,e2,e3,_⟩:=ki.k1 i j x hx' hk;have hkk:k=k':=by omega
      have hne:k ≠ (inn s (p:Int)).toNat:=fun e=>by rw [← hkk,e] at e3;exact hal e3
      rw [mq k hne];exact hA'.l4 i j x hx hk k hkp i' hi'
    ·rw [if_neg c] at fz' ⊢;refine⟨fun q b w j hq hb hw hne h3 hm=>hA'.m1 q b w j hq hb hw hne h3 ((Msg.s1 (S1.send (by show(4:Int) ≠ 1;decide))).1 hm),hA'.m2,fun i j x hx hk k hkp i' hi'=>?_⟩;rcases XT.1 hx with hx | ⟨_,_,rfl⟩
     ·exact hA'.l4 i j x hx hk k hkp i' hi'
     ·have:p=k:=by have:(p:Int)=k:=hkp;omega
      subst this;exact Zck hi'
 | @ZcM p q hp hq hst e0=>
   have z:=Qo q p σ.sd (kK p q σ);exact same (.refl' z.2.2.2.2.1) (.refl' z.2.2.2.2.1) (fun q _ h3=>by rw [z.1] at h3;exact h3) z.2.1 z.2.2.1
 | @ZcL p q hp hq hst e0=>
   refine⟨fun q' b w j hq' hb hw hne h3 hm=>?_,h.m2,fun i j x hx hk k hkp=>?_⟩
   ·obtain⟨x,hx,hxk,hxp⟩:=hm;rcases XT.1 hx with hx | ⟨_,_,rfl⟩
    ·exact h.m1 q' b w j hq' hb hw hne h3 ⟨x,hx,hxk,hxp⟩
    ·have:p=q':=by have:(p:Int)=q':=hxp;omega
     subst this;have h3:σ.st p=3:=h3;rw [hst] at h3;cases h3
   ·rcases XT.1 hx with hx | ⟨_,_,rfl⟩
    ·exact h.l4 i j x hx hk k hkp
    ·exact absurd hk (by show ¬ (1:Int)=4;decide)
 | @ZcI p q=>
   have z:=XR (s:=s) p q (tell 3 p q 0 σ);exact same ((S1.refl' (σ:=σ) (τ:=tell 3 p q 0 σ) rfl).trans (.note p q)) ((S4.refl' (σ:=σ) (τ:=tell 3 p q 0 σ) rfl).trans (.note p q)) (fun q _ h3=>by rw [z.1] at h3;exact h3) z.2.1 z.2.2.1
 | @ZcH p q=>exact same ((S1.refl' (σ:=σ) (τ:=tell 3 p q 0 σ) rfl).trans (.send (by show(2:Int) ≠ 1;decide))) ((S4.refl' (σ:=σ) (τ:=tell 3 p q 0 σ) rfl).trans (.send (by show(2:Int) ≠ 4;decide))) (fun _ _ z=>z) rfl rfl
 | @ZcP a b p q=>
   have z:=Qo q p (hd σ (li s a b)).n (drop1 (li s a b) σ);exact same (.refl' z.2.2.2.2.1) (.refl' z.2.2.2.2.1) (fun q _ h3=>by rw [z.1] at h3;exact h3) z.2.1 z.2.2.1
 | @ZcS a b p q=>
   have z:=XR (s:=s) p q (drop1 (li s a b) σ);exact same ((S1.refl' (σ:=σ) (τ:=drop1 (li s a b) σ) rfl).trans (.note p q)) ((S4.refl' (σ:=σ) (τ:=drop1 (li s a b) σ) rfl).trans (.note p q)) (fun q _ h3=>by rw [z.1] at h3;exact h3) z.2.1 z.2.2.1
 | ZcQ=>exact same (.refl' rfl) (.refl' rfl) (fun _ _ z=>z) rfl rfl
 | @Zbf a b p ha hb hl hk hp hpn h0 hm h3 hn=>
   obtain⟨eq,Ku⟩:=QD hS hpn (by omega);have hal:σ.st (inn s (p:Int)).toNat ≠ 3:=fun z=>hn (ki.k4 _ Ku z p hpn eq)
   have hl4:=h.l4 _ _ _ (ZkJ hl) hk p hp;have mq:∀ q,q ≠ (inn s (p:Int)).toNat ->(YJ s p (hd σ (li s a b)).qX (drop1 (li s a b) σ)).ma q=σ.ma q:=fun q e=>ZC e
   have mi:∀ i,i < mm s * mm s ->(YJ s p (hd σ (li s a b)).qX (drop1 (li s a b) σ)).ma (inn s (p:Int)).toNat i=if σ.ma p i > σ.ma (inn s (p:Int)).toNat i then σ.ma p i else σ.ma (inn s (p:Int)).toNat i:=fun i hi=>by
    show Z5 σ.ma (inn s (p:Int)).toNat (mx _ _) (inn s (p:Int)).toNat i=_;rw [Zt];unfold mx;rw [hl4 i hi];rfl
   have hpq:p ≠ (inn s (p:Int)).toNat:=fun z=>by rw [← z] at hal;exact hal h3
   refine⟨fun q b w j hq hb hw hne h3 hm=>?_,fun q k hq hk hkn i hi=>?_,fun i j x hx hk k hkp i' hi'=>?_⟩
   ·have e:q ≠ (inn s (p:Int)).toNat:=fun z=>by
     have h3:σ.st q=3:=h3;rw [z] at h3;exact hal h3
    rw [mq q e];exact h.m1 q b w j hq hb hw hne h3 hm
   ·have hkn':(k:Int) ∈ Z5 σ.kn (inn s (p:Int)).toNat (ins (p:Int) (σ.kn (inn s (p:Int)).toNat)) q:=hkn;by_cases e:q= (inn s (p:Int)).toNat
    ·subst e;rw [Zt] at hkn';rcases U4.1 hkn' with z | z
     ·have:k=p:=by omega
      subst this;rw [mi i hi,mq k hpq];split <;> omega
     ·have hke:k ≠ (inn s (p:Int)).toNat:=fun zz=>by
       obtain⟨k',ek,_,_,hd⟩:=kn.rng _ Ku _ z;have:k=k':=by omega
       rw [← this,zz] at hd;exact hal hd
      have:=h.m2 _ k hq hk z i hi;rw [mi i hi,mq k hke];split <;> omega
    ·rw [ZC e] at hkn'
     have hke:k ≠ (inn s (p:Int)).toNat:=fun zz=>by
      obtain⟨k',ek,_,_,hd⟩:=kn.rng q hq _ hkn';have:k=k':=by omega
      rw [← this,zz] at hd;exact hal hd
     rw [mq q e,mq k hke];exact h.m2 q k hq hk hkn' i hi
   ·obtain⟨k',e1,e2,e3,_⟩:=ki.k1 i j x hx hk;have hkk:k=k':=by omega
    have hne:k ≠ (inn s (p:Int)).toNat:=fun e=>by rw [← hkk,e] at e3;exact hal e3
    rw [mq k hne];exact h.l4 i j x hx hk k hkp i' hi'
 | ZcR=>exact same (.refl' rfl) (.refl' rfl) (fun _ _ z=>z) rfl rfl
 | @ring w i=>
   have z:=Q9 s w i σ;exact same (.refl' z.2.2.2.2.2.1) (.refl' z.2.2.2.2.2.1) (fun q _ h3=>by rw [z.2.2.1] at h3;exact h3) z.2.2.2.1 z.2.2.2.2.1
end
end
section
structure Bel (s:Zc) (σ:TS):Prop where
 bl:∀ (a w jb:Nat) (x:Zd),a < mm s ->w < mm s ->(σ.sn (li s a w))[jb]? =some x ->x.kW=5 ->∀ r:Nat,x.kX= (r:Int) ->r < nn s ->σ.st r=3∧∀ q b j,q < nn s ->Wth s r q ->b < mm s ->b ≠ w ->Msg s σ q b w j ->(j:Int) < x.qX.getD (li s b w) 0∨(b=a∧j < jb)
 bw:∀ m,m < mm s ->∀ x ∈ σ.be m,∀ r:Nat,x.kX= (r:Int) ->r < nn s ->σ.st r=3∧∀ q b j,q < nn s ->Wth s r q ->b < mm s ->b ≠ m ->Msg s σ q b m j ->(j:Int) < x.qX.getD (li s b m) 0∨j < σ.ld (li s b m)
 hh:∀ e ∈ σ.ev,e.kZ=4 ->∀ y r:Nat,e.kV= (y:Int) ->e.kX= (r:Int) ->y < nn s ->r < nn s ->∀ q,q < nn s ->Wth s r q ->σ.st q=3∧∀ b j,b < mm s ->b ≠ pl s y ->Msg s σ q b (pl s y) j ->j < σ.ld (li s b (pl s y))
section
variable {s:Zc} {σ τ υ:TS} {F B a b p q w i j n d r p0 q0 y:Nat} {x:Zd} {k:Int} {e:Zk}
def S5 (σ τ:TS):Prop:=∀ (i j:Nat) (x:Zd),x.kW=5 ->((τ.sn i)[j]? =some x↔(σ.sn i)[j]? =some x)
theorem S5.refl' (h:τ.sn=σ.sn):S5 σ τ:=fun i j x _=>by rw [h]
theorem S5.send (hx:x.kW ≠ 5):S5 σ (Proofs.YtcnahmgekicbdaaGreat.send s a b x σ):=fun i j y hy=>by
 rw [XT];exact⟨fun z=>z.elim id fun w=>absurd (w.2.2 ▸ hy) hx,.inl⟩
theorem Bel.same (h:Bel s σ) (hm:∀ q b w j,q < nn s ->σ.st q=3 ->Msg s τ q b w j ->Msg s σ q b w j) (h5:S5 σ τ) (h3:∀ q,q < nn s ->σ.st q=3 ->τ.st q=3) (hl:∀ i,σ.ld i <=τ.ld i) (hb:∀ m,∀ x ∈ τ.be m,x ∈ σ.be m) (he:∀ e ∈ τ.ev,e.kZ=4 ->e ∈ σ.ev)
 (hd:∀ r q,r < nn s ->q < nn s ->σ.st r=3 ->Wth s r q ->σ.st q=3):Bel s τ:=by
 refine⟨fun a w jb x ha hw hx hk r hr hrn=>?_,fun m hm' x hx r hr hrn=>?_,fun e he' z y r hy hr hyn hrn q hq hW=>?_⟩
 ·obtain⟨c1,c2⟩:=h.bl a w jb x ha hw ((h5 _ _ _ hk).1 hx) hk r hr hrn;exact⟨h3 r hrn c1,fun q b j hq hW hb' hne hM=>c2 q b j hq hW hb' hne (hm q b w j hq (hd r q hrn hq c1 hW) hM)⟩
 ·obtain⟨c1,c2⟩:=h.bw m hm' x (hb m x hx) r hr hrn;exact⟨h3 r hrn c1,fun q b j hq hW hb' hne hM=>(c2 q b j hq hW hb' hne (hm q b m j hq (hd r q hrn hq c1 hW) hM)).imp id fun z=>Nat.lt_of_lt_of_le z (hl _)⟩
 ·obtain⟨c1,c2⟩:=h.hh e (he e he' z) z y r hy hr hyn hrn q hq hW;exact⟨h3 q hq c1,fun b j hb' hne hM=>Nat.lt_of_lt_of_le (c2 b j hb' hne (hm q b _ j hq c1 hM)) (hl _)⟩
def HB (s:Zc) (σ:TS) (r:Nat):Prop:=∀ q b w j,q < nn s ->Wth s r q ->b < mm s ->w < mm s ->b ≠ w ->Msg s σ q b w j ->(j:Int) < σ.ma r (li s b w)∨b=pl s r
theorem Bel.Y7 (hS:X0 s) (h:Bel s σ) (hy:y < nn s) (hr:r < nn s) (h3:σ.st r=3) (hB:HB s σ r):Bel s (Proofs.YtcnahmgekicbdaaGreat.Y7 s y r σ):=by
 unfold Proofs.YtcnahmgekicbdaaGreat.Y7;by_cases e:pl s y=pl s r
 ·rw [if_pos e];refine⟨h.bl,fun m hm x hx r' hr' hrn=>?_,h.hh⟩;have hx:x ∈ Z5 σ.be (pl s y) (σ.be (pl s y) ++ [⟨5,y,r,0,Wx s σ r⟩]) m:=hx;by_cases c:m=pl s y
  ·subst c;rw [Zt] at hx;rcases List.mem_append.1 hx with hx | hx
   ·exact h.bw _ hm x hx r' hr' hrn
   ·rw [List.mem_singleton.1 hx] at hr' ⊢;have:r=r':=by have:(r:Int)=r':=hr';omega
    subst this;refine⟨h3,fun q b j hq hW hb hne hM=>?_⟩;rcases hB q b _ j hq hW hb hm hne hM with z | z
    ·left;show(j:Int) < (Wx s σ r).getD (li s b (pl s y)) 0;rw [Zck (Wy hb hm)];exact z
    ·exact absurd z (by rw [← e];exact hne)
  ·rw [ZC c] at hx;exact h.bw m hm x hx r' hr' hrn
 ·rw [if_neg e];have mb:∀ q b w j,Msg s (Proofs.YtcnahmgekicbdaaGreat.send s (pl s r) (pl s y) ⟨5,y,r,0,Wx s σ r⟩ σ) q b w j ->Msg s σ q b w j:=fun q b w j hM=>(Msg.s1 (S1.send (by show(5:Int) ≠ 1;decide))).1 hM
  refine⟨fun a w jb x ha hw hx hk r' hr' hrn=>?_,fun m hm x hx r' hr' hrn=>?_,fun e he z y' r' hy' hr' hyn hrn q hq hW=>?_⟩
  ·rcases XT.1 hx with hx | ⟨e1,e2,rfl⟩
   ·obtain⟨c1,c2⟩:=h.bl a w jb x ha hw hx hk r' hr' hrn;exact⟨c1,fun q b j hq hW hb hne hM=>c2 q b j hq hW hb hne (mb q b w j hM)⟩
   ·have:r=r':=by have:(r:Int)=r':=hr';omega
    subst this;obtain⟨e3,e4⟩:=ZoN hw (hS.pl hy).2 e1;refine⟨h3,fun q b j hq hW hb hne hM=>?_⟩;have hM':=mb q b w j hM;rcases hB q b w j hq hW hb hw hne hM' with z | z
    ·left;show(j:Int) < (Wx s σ r).getD (li s b w) 0;rw [Zck (Wy hb hw)];exact z
    ·right;refine⟨by rw [z,e3],?_⟩;have:=hM'.lt;rw [e2,e3,← z];exact this
  ·obtain⟨c1,c2⟩:=h.bw m hm x hx r' hr' hrn;exact⟨c1,fun q b j hq hW hb hne hM=>c2 q b j hq hW hb hne (mb q b m j hM)⟩
  ·obtain⟨c1,c2⟩:=h.hh e he z y' r' hy' hr' hyn hrn q hq hW;exact⟨c1,fun b j hb hne hM=>c2 b j hb hne (mb q b _ j hM)⟩
theorem Zvd {ld:Nat ->Nat} {l:List Zd}:∀ k j,UC s ld w l k=some j ->rdy s ld w (l.getD j default):=by
 intro k
 induction k with
 | zero=>intro j h;cases h
 | succ k ih=>
   intro j h;rw [UC] at h;by_cases c:rdy s ld w (l.getD k default)∧∀ j,UC s ld w l k=some j ->Zdc s (l.getD j default) < Zdc s (l.getD k default)
   ·rw [Z6 c] at h;cases h;exact c.1
   ·rw [ZU c] at h;exact ih j h
theorem HB.dead (hS:X0 s) (ki:KI s σ) (kn:Kn s σ) (h:Mk s σ) (hr:r < nn s) (h3:σ.st r=3):HB s σ r:=fun q b w j hq ⟨m,e⟩ hb hw hne hM=>by
 have hq3:=Zgx hS kn ki hr h3 m q hq e;have h1:=h.m1 q b w j hq hb hw hne hq3 hM;have h2:=h.chain hS ki kn (Wy hb hw) m q r hq hr h3 e;left;omega
theorem ZEO (h1:P1 s σ) (hb:b < mm s) (hw:w < mm s) (hM:Msg s σ q b w j):pl s q=b:=by
 obtain⟨x,hx,hxk,hxp⟩:=hM;obtain⟨p',e1,_,_,c⟩:=h1.lets b w hb hw x (List.mem_of_getElem? hx);have:p'=q:=by omega
 subst this;rcases c with⟨_,c,_⟩ | ⟨k,_⟩ | ⟨k,_⟩ | ⟨k,_⟩ | ⟨k,_⟩
 ·exact c
 all_goals omega
theorem HB.dying (hS:X0 s) (h1:P1 s σ) (ki:KI s σ) (kn:Kn s σ) (h:Mk s σ) (hp:p < nn s) (hA:Alo s σ p):HB s σ p:=fun q b w j hq hW hb hw hne hM=>by
 by_cases e:q=p
 ·subst e;exact .inr (ZEO h1 hb hw hM).symm
 ·left;obtain⟨c,hc,hci,m,hm⟩:=ZyF (hS:=hS) hq hW e;have hkc:=hA c hc hci;obtain⟨c',ec,_,_,hd⟩:=kn.rng p hp _ hkc;have:c=c':=by omega
  subst this;have hq3:=Zgx hS kn ki hc hd m q hq hm;have h1':=h.m1 q b w j hq hb hw hne hq3 hM;have h2:=h.chain hS ki kn (Wy hb hw) m q c hq hc hd hm;have h3:=h.m2 p c hp hc hkc _ (Wy hb hw);omega
theorem HB.congr (h:HB s σ r) (h1:S1 σ τ) (h2:τ.ma=σ.ma):HB s τ r:=fun q b w j hq hW hb hw hne hM=>by rw [h2];exact h q b w j hq hW hb hw hne ((Msg.s1 h1).1 hM)
theorem Bel.Zu (hS:X0 s) (hr:r < nn s):∀ (l:List Int) (σ:TS),(∀ x ∈ l,∃ k:Nat,x= (k:Int)∧k < nn s) ->Bel s σ ->σ.st r=3 ->HB s σ r ->Bel s (Proofs.YtcnahmgekicbdaaGreat.Zu s r l σ):=by
 intro l
 induction l with
 | nil=>intro σ _ h _ _;exact h
 | cons x l ih=>
   intro σ hx h h3 hB;obtain⟨k,rfl,hk⟩:=hx x (by simp);have z:=ZcA (s:=s) k r σ;show Bel s (Proofs.YtcnahmgekicbdaaGreat.Zu s r l (Proofs.YtcnahmgekicbdaaGreat.Y7 s ((k:Int)).toNat r σ));rw [Int.toNat_natCast];exact ih _ (fun y hy=>hx y (by simp [hy])) (h.Y7 hS hk hr h3 hB) (by rw [z.1];exact h3) (hB.congr (.Y7 k r) z.2.2.1)
theorem Bel.note (hS:X0 s) (h:Bel s σ) (hy:y < nn s) (hr:r < nn s) (hB:σ.st r=3 ->HB s σ r):Bel s (Proofs.YtcnahmgekicbdaaGreat.note s y r σ):=by
 unfold Proofs.YtcnahmgekicbdaaGreat.note;by_cases e:σ.st r=3
 ·rw [if_pos e];exact h.Y7 hS hy hr e (hB e)
 ·rw [if_neg e];exact⟨h.bl,h.bw,h.hh⟩
theorem Bel.act (hS:X0 s) (h1:P1 s σ) (h2:P2 s σ) (h3:P3 s σ) (ki:KI s σ) (hMk:Mk s σ) (h:Bel s σ) (ac:Act s σ τ):Bel s τ:=by
 have kn:=h2.kn;have hd:∀ r q,r < nn s ->q < nn s ->σ.st r=3 ->Wth s r q ->σ.st q=3:=fun r q hr hq z ⟨m,e⟩=>Zgx hS kn ki hr z m q hq e
 have r0:∀ i,σ.ld i <=σ.ld i:=fun _=>Nat.le_refl _
 have b0:∀ m,∀ x ∈ σ.be m,x ∈ σ.be m:=fun _ _ z=>z
 have ev1:∀ (l:List Zk) (e:Zk),e.kZ ≠ 4 ->∀ y ∈ l ++ [e],y.kZ=4 ->y ∈ l:=fun l e he y hy z=>by
  rcases List.mem_append.1 hy with hy | hy
  ·exact hy
  ·rw [List.mem_singleton.1 hy] at z;exact absurd z he
 have ZID:∀ (ρ:TS) (p q:Nat) (n:Int),∀ y ∈ (see p q n ρ).ev,y.kZ=4 ->y ∈ ρ.ev:=fun ρ p q n y hy z=>by
  unfold see at hy;split at hy
  ·exact ev1 _ _ (by show(2:Int) ≠ 4;decide) y hy z
  ·exact hy
 cases ac with
 | @fall p hp hst=>
   refine h.same (fun q b w j _ _ hM=>hM) (.refl' rfl) (fun q _ z=>?_) r0 b0 (ev1 _ _ (by show(5:Int) ≠ 4;decide)) hd;show Z5 σ.st p 2 q=3;rw [ZC (fun e=>by subst e;rw [hst] at z;cases z)];exact z
 | Ww=>exact h.same (fun q b w j _ _ hM=>(Msg.s1 (S1.send (by show(3:Int) ≠ 1;decide))).1 hM) (.send (by show(3:Int) ≠ 5;decide)) (fun _ _ z=>z) r0 b0 (fun _ z _=>z) hd
 | @die p hp hst hA=>
   have sA:=QG (s:=s) p σ
   have st3:∀ q,q < nn s ->σ.st q=3 ->Z5 σ.st p 3 q=3:=fun q _ z=>by
    by_cases e:q=p
    ·subst e;exact Zt _ _ _
    ·rw [ZC e];exact z
   have c0:Bel s (JJ p σ):=h.same (fun q b w j _ _ hM=>hM) (.refl' rfl) st3 r0 b0 (ev1 _ _ (by show(6:Int) ≠ 4;decide)) hd
   have cA:Bel s (Yk s p σ):=by
    have:=Bel.Zu hS hp (σ.wa p) (JJ p σ) (h1.ws p hp) c0 (Zt _ _ _) ((HB.dying hS h1 ki kn hMk hp hA).congr (.refl' rfl) rfl);exact⟨this.bl,this.bw,this.hh⟩
   unfold Uw;split
   ·exact cA
   ·split
    ·exact⟨cA.bl,cA.bw,cA.hh⟩
    ·have mb:∀ q b w j,Msg s (send s (pl s p) (pl s (inn s (p:Int)).toNat) ⟨4,(p:Int),0,0,Wx s (Yk s p σ) p⟩ (Yk s p σ)) q b w j ->Msg s (Yk s p σ) q b w j:=fun q b w j hM=>(Msg.s1 (S1.send (by show(4:Int) ≠ 1;decide))).1 hM
     refine⟨fun a w jb x ha hw hx hk r hr hrn=>?_,fun m hm x hx r hr hrn=>?_,fun e he z y r hy hr hyn hrn q hq hW=>?_⟩
     ·obtain⟨c1,c2⟩:=cA.bl a w jb x ha hw ((S5.send (by show(4:Int) ≠ 5;decide) _ _ _ hk).1 hx) hk r hr hrn;exact⟨c1,fun q b j hq hW hb hne hM=>c2 q b j hq hW hb hne (mb q b w j hM)⟩
     ·obtain⟨c1,c2⟩:=cA.bw m hm x hx r hr hrn;exact⟨c1,fun q b j hq hW hb hne hM=>c2 q b j hq hW hb hne (mb q b m j hM)⟩
     ·obtain⟨c1,c2⟩:=cA.hh e he z y r hy hr hyn hrn q hq hW;exact⟨c1,fun b j hb hne hM=>c2 b j hb hne (mb q b _ j hM)⟩
 | @ZcM p q hp hq hst e0=>
   have z:=Qo q p σ.sd (kK p q σ);refine h.same (fun q b w j _ _ hM=>(Msg.s1 (S1.refl' z.2.2.2.2.1)).1 hM) (.refl' z.2.2.2.2.1) (fun q _ hq3=>by rw [z.1];exact hq3) (by rw [z.2.2.2.1];exact r0) (by rw [z.2.2.2.2.2.1];exact b0) (fun y hy h4=>?_) hd;exact ev1 σ.ev _ (by show(1:Int) ≠ 4;decide) y (ZID (kK p q σ) q p σ.sd y hy h4) h4
 | @ZcL p q hp hq hst e0=>
   refine h.same (fun q' b w j _ h3' hM=>?_) (.send (by show(1:Int) ≠ 5;decide)) (fun _ _ z=>z) r0 b0 (ev1 _ _ (by show(1:Int) ≠ 4;decide)) hd;obtain⟨x,hx,hk,hxp⟩:=hM;rcases XT.1 hx with hx | ⟨_,_,rfl⟩
   ·exact⟨x,hx,hk,hxp⟩
   ·have:p=q':=by have:(p:Int)=q':=hxp;omega
    subst this;rw [hst] at h3';cases h3'
 | @ZcI p q hp hq hst e0=>
   have c:Bel s (tell 3 p q 0 σ):=h.same (fun q b w j _ _ hM=>hM) (.refl' rfl) (fun _ _ z=>z) r0 b0 (ev1 _ _ (by show(3:Int) ≠ 4;decide)) hd;exact c.note hS hp hq fun z=>(HB.dead hS ki kn hMk hq z).congr (.refl' rfl) rfl
 | @ZcH p q hp hq hst e0=>exact h.same (fun q b w j _ _ hM=>(Msg.s1 ((S1.refl' (σ:=σ) (τ:=tell 3 p q 0 σ) rfl).trans (S1.send (by show(2:Int) ≠ 1;decide)))).1 hM) (.send (by show(2:Int) ≠ 5;decide)) (fun _ _ z=>z) r0 b0 (ev1 _ _ (by show(3:Int) ≠ 4;decide)) hd
 | @ZcP a b p q=>
   have z:=Qo q p (Proofs.YtcnahmgekicbdaaGreat.hd σ (li s a b)).n (drop1 (li s a b) σ);refine h.same (fun q b w j _ _ hM=>(Msg.s1 (S1.refl' z.2.2.2.2.1)).1 hM) (.refl' z.2.2.2.2.1) (fun q _ hq3=>by rw [z.1];exact hq3) (by rw [z.2.2.2.1];exact U3 _) (by rw [z.2.2.2.2.2.1];exact b0) (fun y hy h4=>ZID (drop1 (li s a b) σ) _ _ _ y hy h4) hd
 | @ZcS a b p q ha hb hl hk hp hq hpn Ku=>
   have c:Bel s (drop1 (li s a b) σ):=h.same (fun q b w j _ _ hM=>hM) (.refl' rfl) (fun _ _ z=>z) (U3 _) b0 (fun _ z _=>z) hd;exact c.note hS hpn Ku fun z=>(HB.dead hS ki kn hMk Ku z).congr (.refl' rfl) rfl
 | ZcQ=>exact h.same (fun q b w j _ _ hM=>hM) (.refl' rfl) (fun _ _ z=>z) (U3 _) b0 (fun _ z _=>z) hd
 | Zbf=>exact h.same (fun q b w j _ _ hM=>hM) (.refl' rfl) (fun _ _ z=>z) (U3 _) b0 (fun _ z _=>z) hd
 | @ZcR a b ha hb hl hk=>
   have c:Bel s (drop1 (li s a b) σ):=h.same (fun q b w j _ _ hM=>hM) (.refl' rfl) (fun _ _ z=>z) (U3 _) b0 (fun _ z _=>z) hd;refine⟨c.bl,fun m hm x hx r hr hrn=>?_,c.hh⟩;have hx:x ∈ Z5 σ.be b (σ.be b ++ [Proofs.YtcnahmgekicbdaaGreat.hd σ (li s a b)]) m:=hx;by_cases e:m=b
   ·subst e;rw [Zt] at hx;rcases List.mem_append.1 hx with hx | hx
    ·exact c.bw m hm x hx r hr hrn
    ·rw [List.mem_singleton.1 hx] at hr ⊢;obtain⟨c1,c2⟩:=h.bl a m _ _ ha hb (ZkJ hl) hk r hr hrn;refine⟨c1,fun q b' j hq hW hb' hne hM=>(c2 q b' j hq hW hb' hne hM).imp id fun⟨e1,e2⟩=>?_⟩;show j < Z5 σ.ld (li s a m) (σ.ld (li s a m) + 1) (li s b' m);rw [e1,Zt];omega
   ·rw [ZC e] at hx;exact c.bw m hm x hx r hr hrn
 | @ring w i hw hpk=>
   have z:=Q9 s w i σ;have hi:i < (σ.be w).length:=Zcf _ _ hpk;have mb:∀ q b w' j,Msg s (rung s w i σ) q b w' j ->Msg s σ q b w' j:=fun q b w' j hM=>(Msg.s1 (S1.refl' z.2.2.2.2.2.1)).1 hM
   have c:Bel s {σ with be:=Z5 σ.be w (Zbi (σ.be w) i)}:=h.same (fun q b w j _ _ hM=>hM) (.refl' rfl) (fun _ _ z=>z) r0 (fun m x hx=>by
    have hx:x ∈ Z5 σ.be w (Zbi (σ.be w) i) m:=hx;by_cases e:m=w
    ·subst e;rw [Zt] at hx;exact ZbT hx
    ·rwa [ZC e] at hx) (fun _ z _=>z) hd
   unfold rung;split
   ·refine⟨c.bl,c.bw,fun e he h4 y r hy hr hyn hrn q hq hW=>?_⟩;have he:e ∈ σ.ev ++ [⟨4,((σ.be w).getD i default).kV,((σ.be w).getD i default).kX,0⟩]:=he;rcases List.mem_append.1 he with he | he
    ·exact c.hh e he h4 y r hy hr hyn hrn q hq hW
    ·rw [List.mem_singleton.1 he] at hy hr;have hy:((σ.be w).getD i default).kV= (y:Int):=hy;have hr:((σ.be w).getD i default).kX= (r:Int):=hr;have hmem:=XG (d:=default) hi;obtain⟨p',e1,_,e2⟩:=h3 w hw _ hmem;have:p'=y:=by omega
     subst this;obtain⟨c1,c2⟩:=h.bw w hw _ hmem r hr hrn;refine⟨hd r q hrn hq c1 hW,fun b j hb hne hM=>?_⟩;rw [e2] at hne hM ⊢;rcases c2 q b j hq hW hb hne hM with z1 | z1
     ·have hrd:rdy s σ.ld w ((σ.be w).getD i default):=Zvd _ _ hpk;have:=hrd b hb hne;show j < σ.ld (li s b w);omega
     ·exact z1
   ·exact c
end
end
section
structure RuO (s:Zc) (σ:TS):Prop where
 told:∀ e ∈ σ.ev,Told s e
 ok:∀ k,k < σ.ev.length ->UB s (σ.ev.take k) (σ.ev.getD k default)=0
section
variable {s:Zc} {σ τ υ:TS} {F B a b p q w i j n d r p0 q0 y:Nat} {x:Zd} {k:Int} {e:Zk} {l:List Z8} {picks:List Int} {L:List Zk}
theorem RuO.congr (h:RuO s σ) (he:τ.ev=σ.ev):RuO s τ:= ⟨by rw [he];exact h.told,by rw [he];exact h.ok⟩
theorem RuO.add (h:RuO s σ) (he:τ.ev=σ.ev ++ [e]) (ht:Told s e) (hr:UB s σ.ev e=0):RuO s τ:=by
 refine⟨fun y hy=>?_,fun k hk=>?_⟩
 ·rw [he] at hy;rcases List.mem_append.1 hy with hy | hy
  ·exact h.told y hy
  ·rw [List.mem_singleton.1 hy];exact ht
 ·rw [he] at hk ⊢;rw [List.length_append,List.length_singleton] at hk;by_cases c:k < σ.ev.length
  ·rw [List.take_append_of_le_length (by omega)]
   have:(σ.ev ++ [e]).getD k default=σ.ev.getD k default:=by
    rw [List.getD_eq_getElem?_getD,List.getElem?_append_left c,← List.getD_eq_getElem?_getD]
   rw [this];exact h.ok k c
  ·have:k=σ.ev.length:=by omega
   subst this;rw [List.take_append_of_le_length (Nat.le_refl _),List.take_length]
   have:(σ.ev ++ [e]).getD σ.ev.length default=e:=by
    rw [List.getD_eq_getElem?_getD,List.getElem?_append_right (Nat.le_refl _),Nat.sub_self];rfl
   rw [this];exact hr
theorem KM (hp:p < nn s):Pl s (p:Int):= ⟨p,rfl,hp⟩
theorem KP (h:EvS s σ) (hp:p < nn s) (h1:σ.st p=1):c3 σ.ev 5 (p:Int) 0=0:=by rw [h.e5 p hp,YO (fun z=>z h1)]
theorem ZBt (n:Int) (h5:c3 L 5 (p:Int) 0=0) (hk:k1 L ⟨1,p,q,n⟩=0):UB s L ⟨1,p,q,n⟩=0:=by
 unfold UB;rw [hk];show(bif((1:Int) !=6) && decide (c3 L 5 (p:Int) 0 > 0) then _ else _)=_;rw [h5];rfl
theorem ZBs (n:Int) (h5:c3 L 5 (p:Int) 0=0) (hk:0 < k1 L ⟨2,p,q,n⟩) (hk2:k2 L ⟨2,p,q,n⟩=0) (hs:Zmk s L ⟨2,p,q,n⟩=false):UB s L ⟨2,p,q,n⟩=0:=by
 unfold UB;rw [hk2,hs,decide_eq_false (show ¬ k1 L ⟨2,p,q,n⟩=0 by omega)];show(bif((2:Int) !=6) && decide (c3 L 5 (p:Int) 0 > 0) then _ else _)=_;rw [h5];rfl
theorem ZBr (h5:c3 L 5 (p:Int) 0=0) (o:Int):UB s L ⟨3,p,o,0⟩=0:=by
 unfold UB;show(bif((3:Int) !=6) && decide (c3 L 5 (p:Int) 0 > 0) then _ else _)=_;rw [h5];rfl
theorem ZIM (h5:c3 L 5 (p:Int) 0=0):UB s L ⟨5,p,0,0⟩=0:=by
 unfold UB;show(bif((5:Int) !=6) && decide (c3 L 5 (p:Int) 0 > 0) then _ else _)=_;rw [h5];rfl
theorem ZIN (h5:c3 L 5 (p:Int) 0=0) (h6:c3 L 6 (q:Int) 0 ≠ 0) (hc:c3 L 4 (p:Int) (q:Int) < c3 L 3 (p:Int) (q:Int)):UB s L ⟨4,p,q,0⟩=0:=by
 unfold UB;show(bif((4:Int) !=6) && decide (c3 L 5 (p:Int) 0 > 0) then(1:Int) else bif false then _ else bif false then _ else bif false then _ else bif true then(bif decide (c3 L 6 (q:Int) 0=0) || decide (c3 L 4 (p:Int) (q:Int) >=c3 L 3 (p:Int) (q:Int)) then 4 else 0) else 0)=_;rw [h5,decide_eq_false h6,decide_eq_false (show ¬ c3 L 4 (p:Int) (q:Int) >=c3 L 3 (p:Int) (q:Int) by omega)];rfl
theorem ZIL (h5:c3 L 5 (p:Int) 0 ≠ 0) (h6:c3 L 6 (p:Int) 0=0) (hk:ZqQ s L (p:Int)=false):UB s L ⟨6,p,0,0⟩=0:=by
 unfold UB;show(bif false && _ then(1:Int) else bif false then _ else bif false then _ else bif true then(bif(decide (c3 L 5 (p:Int) 0=0) || decide (c3 L 6 (p:Int) 0 > 0)) || ZqQ s L (p:Int) then 3 else 0) else _)=_;rw [hk,h6,decide_eq_false h5];rfl
theorem ZlA {α:Type} {f:α ->Bool} {l:List α} (h:∀ x ∈ l,f x=false):l.countP f=0:=by
 rw [List.countP_eq_zero];intro x hx;rw [h x hx];decide
theorem ZxL (y:Nat):(atW s (y:Int)).toNat=pl s y:=by unfold atW pl;rw [Int.toNat_natCast];rfl
theorem Zqj (hS:X0 s) (hR:EvR s σ) (hB:Bel s σ) (hq:q < nn s) (hp:p < nn s) (hM:σ.st p ≠ 3∨∃ b j,b < mm s∧b ≠ pl s q∧Msg s σ p b (pl s q) j∧¬ j < σ.ld (li s b (pl s q))) (n:Int):Zmk s σ.ev ⟨2,q,p,n⟩=false:=by
 unfold Zmk;rw [List.any_eq_false];intro e he z;simp only [Ba0,beq_iff_eq] at z;obtain⟨⟨z1,z2⟩,z3⟩:=z;obtain⟨⟨y,ey,hy⟩,⟨r,er,hr⟩⟩:=hR e he;rw [ey] at z2;rw [er,Int.toNat_natCast,Int.toNat_natCast] at z3;have hW:= (ZgH hS.inn (show p < s.Ze.length from hp)).1 z3;have hpl:pl s y=pl s q:=by rw [← ZxL,← ZxL,z2]
 obtain⟨c1,c2⟩:=hB.hh e he z1 y r ey er hy hr p hp hW;rcases hM with hM | ⟨b,j,hb,hne,hMs,hn⟩
 ·exact hM c1
 ·rw [hpl] at c2;exact hn (c2 b j hb hne hMs)
theorem RuO.act (hS:X0 s) (h1:P1 s σ) (h2:P2 s σ) (h3:P3 s σ) (ki:KI s σ) (hR:EvR s σ) (hE:EvS s σ) (hN:Num σ) (ZLB:Bal s σ) (hB:Bel s σ) (h:RuO s σ) (ac:Act s σ τ):RuO s τ:=by
 have kn:=h2.kn
 have ZIC:∀ (ρ:TS) (q p:Nat) (n:Int),RuO s ρ ->q < nn s ->p < nn s ->0 <=n ->(ρ.st q=1 ->UB s ρ.ev ⟨2,q,p,n⟩=0) ->RuO s (see q p n ρ):=fun ρ q p n hρ hq hp hn hr=>by
  unfold see;split
  ·rename_i hst;exact hρ.add (e:= ⟨2,q,p,n⟩) rfl ⟨KM hq,hn,.inl ⟨.inr rfl,KM hp⟩⟩ (hr hst)
  ·exact hρ
 cases ac with
 | @fall p hp hst=>exact h.add (e:= ⟨5,p,0,0⟩) rfl ⟨KM hp,Int.le_refl _,.inr (.inr ⟨.inl rfl,rfl,rfl⟩)⟩ (ZIM (KP hE hp hst))
 | Ww=>exact h.congr rfl
 | @die p hp hst hA=>
   have sA:=QG (s:=s) p σ
   have hA':RuO s (Yk s p σ):=by
    refine h.add (e:= ⟨6,p,0,0⟩) sA.2.2.2.2.1 ⟨KM hp,Int.le_refl _,.inr (.inr ⟨.inr rfl,rfl,rfl⟩)⟩ (ZIL ?_ ?_ ?_)
    ·rw [hE.e5 p hp,Jv (by rw [hst];decide)];decide
    ·rw [hE.e6 p hp,YO (by rw [hst];decide)]
    ·unfold ZqQ;rw [List.any_eq_false];intro q hq z;simp only [Ba0,beq_iff_eq,decide_eq_true_eq] at z;have hq':q < nn s:=List.mem_range.1 hq;obtain⟨k',ek,_,_,hd⟩:=kn.rng p hp _ (hA q hq' z.1);have:q=k':=by omega
     subst this;have:=z.2;rw [hE.e6 q hq',Jv hd] at this;cases this
   unfold Uw;split
   ·exact hA'
   ·split
    ·exact hA'.congr rfl
    ·exact hA'.congr rfl
 | @ZcM p q hp hq hst e0=>
   have k0:∀ (m:Int),k1 σ.ev ⟨1,p,q,σ.sd⟩=0:=fun _=>ZlA fun x hx=>by
    by_cases z:x.kZ=1
    ·have:= (hN.n1 x hx (.inl z)).2;rw [show(x.n== (⟨1,p,q,σ.sd⟩:Zk).n)=false from beq_eq_false_iff_ne.2 (by show x.n ≠ σ.sd;omega)];simp
    ·rw [show(x.kZ==1)=false from beq_eq_false_iff_ne.2 z];simp
   have c1:RuO s (kK p q σ):=h.add (e:= ⟨1,p,q,σ.sd⟩) rfl ⟨KM hp,hN.n0,.inl ⟨.inl rfl,KM hq⟩⟩ (ZBt _ (KP hE hp hst) (k0 0));refine ZIC (kK p q σ) q p σ.sd c1 hq hp hN.n0 fun Zf4=>?_
   have ev:(kK p q σ).ev=σ.ev ++ [⟨1,p,q,σ.sd⟩]:=rfl;have Zf4:σ.st q=1:=Zf4;refine ZBs _ ?_ ?_ ?_ ?_
   ·rw [ev,Zab,KP hE hq Zf4,YO (fun z=>by have:(1:Int)=5:=z.1;omega)]
   ·rw [ev];unfold k1;rw [List.countP_append];simp
   ·rw [ev]
    exact ZlA fun x hx=>by
     by_cases z:x.kZ=2
     ·rcases List.mem_append.1 hx with hx | hx
      ·have:= (hN.n1 x hx (.inr z)).2;rw [show(x.n== (⟨2,q,p,σ.sd⟩:Zk).n)=false from beq_eq_false_iff_ne.2 (by show x.n ≠ σ.sd;omega)];simp
      ·rw [List.mem_singleton.1 hx] at z;exact absurd z (by show ¬ (1:Int)=2;decide)
     ·rw [show(x.kZ==2)=false from beq_eq_false_iff_ne.2 z];rfl
   ·have:=Zqj (n:=σ.sd) hS hR hB hq hp (.inl (by rw [hst];decide));rw [ev];unfold Zmk at this ⊢;rw [List.any_append,this];simp
 | @ZcL p q hp hq hst e0=>
   have k0:k1 σ.ev ⟨1,p,q,σ.sd⟩=0:=ZlA fun x hx=>by
    by_cases z:x.kZ=1
    ·have:= (hN.n1 x hx (.inl z)).2;rw [show(x.n== (⟨1,p,q,σ.sd⟩:Zk).n)=false from beq_eq_false_iff_ne.2 (by show x.n ≠ σ.sd;omega)];simp
    ·rw [show(x.kZ==1)=false from beq_eq_false_iff_ne.2 z];simp
   exact h.add (e:= ⟨1,p,q,σ.sd⟩) rfl ⟨KM hp,hN.n0,.inl ⟨.inl rfl,KM hq⟩⟩ (ZBt _ (KP hE hp hst) k0)
 | @ZcI p q hp hq hst e0=>exact(h.add (τ:=tell 3 p q 0 σ) (e:= ⟨3,p,q,0⟩) rfl ⟨KM hp,Int.le_refl _,.inr (.inl ⟨.inl rfl,KM hq,rfl⟩)⟩ (ZBr (KP hE hp hst) q)).congr (XR (s:=s) p q (tell 3 p q 0 σ)).2.2.2.2.2
 | @ZcH p q hp hq hst e0=>exact h.add (e:= ⟨3,p,q,0⟩) rfl ⟨KM hp,Int.le_refl _,.inr (.inl ⟨.inl rfl,KM hq,rfl⟩)⟩ (ZBr (KP hE hp hst) q)
 | @ZcP a b p q ha hb hl hk hpe hqe hp hq=>
   have hg:=ZkJ hl;obtain⟨n1,n2,e,he,e1,e2,e3,e4⟩:=hN.n5 _ _ _ hg hk;refine ZIC (drop1 (li s a b) σ) q p _ (h.congr rfl) hq hp n1 fun hst=>?_
   have hst:σ.st q=1:=hst;have hlet:=h1.lets a b ha hb _ (ZbL hl)
   have hpq:pl s p=a∧pl s q=b:=by
    obtain⟨p',hp',_,_,c⟩:=hlet;have:p'=p:=by omega
    subst this;rcases c with⟨k,c1,q',hq',_,c2⟩ | ⟨k,_⟩ | ⟨k,_⟩ | ⟨k,_⟩ | ⟨k,_⟩
    ·have:q'=q:=by omega
     subst this;exact⟨c1,c2⟩
    all_goals omega
   have hab:a ≠ b:=fun z=>by
    subst z;have:=h1.self a ha;rw [this] at hl;simp at hl
   refine ZBs (L:=σ.ev) _ (KP hE hq hst) ?_ ?_ ?_
   ·show 0 < σ.ev.countP _;rw [List.countP_pos_iff];refine⟨e,he,?_⟩;rw [e1,e4,e2,e3,hpe,hqe];simp
   ·exact ZlA fun x hx=>by
     by_cases z:x.kZ=2
     ·have hne:x.n ≠ (hd σ (li s a b)).n:=fun z'=>by
       have:=hN.n3 x hx z _ _ _ hg hk z'.symm;omega
      rw [show(x.n== (⟨2,q,p,(hd σ (li s a b)).n⟩:Zk).n)=false from beq_eq_false_iff_ne.2 hne];simp
     ·rw [show(x.kZ==2)=false from beq_eq_false_iff_ne.2 z];rfl
   ·refine Zqj hS hR hB hq hp (.inr ⟨a,σ.ld (li s a b),ha,by rw [hpq.2];exact hab,?_,?_⟩) _
    ·rw [hpq.2];exact⟨_,hg,hk,hpe⟩
    ·rw [hpq.2];omega
 | @ZcS a b p q=>exact h.congr (XR (s:=s) p q (drop1 (li s a b) σ)).2.2.2.2.2
 | ZcQ=>exact h.congr rfl
 | Zbf=>exact h.congr rfl
 | ZcR=>exact h.congr rfl
 | @ring w i hw hpk=>
   have hi:i < (σ.be w).length:=Zcf _ _ hpk;have hmem:=XG (d:=default) hi;obtain⟨p,hpe,hp,hpw⟩:=h3 w hw _ hmem;obtain⟨⟨_,⟨q,hqe,hq⟩,_⟩,hk⟩:=h1.bea w hw _ hmem
   have hb1:0 < bb s σ p q:=by
    have hc:=ZvF (k:=5) (p:=p) (q:=q) hi;rw [Jv ⟨hk,hpe,hqe⟩] at hc;unfold bb;rw [hpw];omega
   have hd3:=ZLB.dead p q hp hq (by omega);have hle:=ZLB.le p q hp hq;unfold ec at hle;unfold rung;rw [hpe,hqe,Int.toNat_natCast];split
   ·rename_i hst;refine h.add (e:= ⟨4,p,q,0⟩) rfl ⟨KM hp,Int.le_refl _,.inr (.inl ⟨.inr rfl,KM hq,rfl⟩)⟩ (ZIN (KP hE hp hst) ?_ (by omega));rw [hE.e6 q hq,Jv hd3];decide
   ·exact h.congr rfl
structure Ztm (s:Zc) (σ:TS):Prop where
 p1:P1 s σ
 p2:P2 s σ
 p3:P3 s σ
 ki:KI s σ
 er:EvR s σ
 es:EvS s σ
 nu:Num σ
 ba:Bal s σ
 mb:MB s σ
 Wx:Mk s σ
 be:Bel s σ
 ru:RuO s σ
theorem Ztm.act (hS:X0 s) (h:Ztm s σ) (ac:Act s σ τ):Ztm s τ:=
 ⟨h.p1.act hS ac,h.p2.act hS ac,h.p3.act h.p1 ac,h.ki.act hS h.p2 ac,h.er.act hS h.p1 ac,h.es.act ac,h.nu.act ac,h.ba.act hS h.p1 h.p2 h.p3 ac,h.mb.act ac,h.Wx.act hS h.p1 h.p2 h.ki h.mb ac,h.be.act hS h.p1 h.p2 h.p3 h.ki h.Wx ac,h.ru.act hS h.p1 h.p2 h.p3 h.ki h.er h.es h.nu h.ba h.be ac⟩
theorem inv0 (hS:X0 s):Ztm s ts0:=by
 have h0:=ok0 hS;have nil:∀ {α:Type} (x:α),¬ x ∈ ([]:List α):=fun x h=>by cases h
 have sn:∀ (i j:Nat) (x:Zd),¬ (ts0.sn i)[j]? =some x:=fun i j x h=>by simp [ts0] at h
 exact⟨h0.p1,h0.p2,fun w _ x hx=>absurd hx (nil x),h0.ki,fun e he=>absurd he (nil e),⟨fun p _=>.inl rfl,fun p _=>rfl,fun p _=>rfl,fun e he=>absurd he (nil e)⟩,
  ⟨Int.le_refl _,fun e he=>absurd he (nil e),fun i j x hx=>absurd hx (sn i j x),fun i j x i' j' x' hx=>absurd hx (sn i j x),fun e he=>absurd he (nil e)⟩,
  ⟨fun p q _ _=>Nat.le_refl 0,fun p q _ _ _=>rfl,fun p q _ _ z=>absurd z (Nat.lt_irrefl 0),fun p q _ _ _=>rfl⟩,
  ⟨fun p i _=>by show(0:Int) <=0;omega,fun j x hx=>absurd hx (nil x),fun m x hx=>absurd hx (nil x)⟩,
  ⟨fun q b w j _ _ _ _ _ hM=>absurd hM.choose_spec.1 (sn _ _ _),fun p k _ _ hk=>absurd hk (nil _),fun i j x hx=>absurd hx (sn i j x)⟩,
  ⟨fun a w jb x _ _ hx=>absurd hx (sn _ _ _),fun m _ x hx=>absurd hx (nil x),fun e he=>absurd he (nil e)⟩,
  ⟨fun e he=>absurd he (nil e),fun k hk=>absurd hk (Nat.not_lt_zero _)⟩⟩
theorem ZvH (hS:X0 s) (h:Ji s ts0 σ):Ztm s σ:=h.keep (P:=Ztm s) (fun _ _ h ac=>h.act hS ac) (inv0 hS)
end
end
section
def hst (s:Zc) (r:Nat) (a:Int) (m:List (X5×Bool)):Nat ->List (X5×Bool)
 | 0=>m
 | v + 1=>if ZeC s r v then Zhp (hst s r a m v) ⟨a,(v:Int)⟩ true else hst s r a m v
def hmp (s:Zc) (l:List Zk):Nat ->List (X5×Bool)
 | 0=>[]
 | k + 1=>if(l.getD k default).kZ=4 then hst s (l.getD k default).kX.toNat (atW s (l.getD k default).kV) (hmp s l k) (nn s) else hmp s l k
section
variable {s:Zc} {σ τ υ:TS} {F B a b p q w i j n d r v k:Nat} {l:List Z8} {picks:List Int} {L:List Zk}
theorem Zzq (r:Nat) (a:Int) (m:List (X5×Bool)) (b:Int) (v:Nat):∀ n,Zhr (hst s r a m n) ⟨b,(v:Int)⟩=Zhr m ⟨b,(v:Int)⟩∨(b=a∧ZeC s r v=true):=by
 intro n
 induction n with
 | zero=>exact .inl rfl
 | succ n ih=>
   rw [hst];by_cases c:ZeC s r n=true
   ·rw [if_pos c,Zr9];by_cases e:(⟨b,(v:Int)⟩:X5)= ⟨a,(n:Int)⟩
    ·right;injection e with e1 e2
     have:v=n:=by omega
     subst this;exact⟨e1,c⟩
    ·rw [if_neg e];exact ih
   ·rw [if_neg c];exact ih
theorem ZzD (L:List Zk) (b:Int) (v:Nat):∀ k,k <=L.length ->Zhr (hmp s L k) ⟨b,(v:Int)⟩=none∨∃ x ∈ L.take k,x.kZ=4∧atW s x.kV=b∧ZeC s x.kX.toNat v=true:=by
 intro k
 induction k with
 | zero=>intro _;exact .inl rfl
 | succ k ih=>
   intro hk
   have ht:L.take (k + 1)=L.take k ++ [L.getD k default]:=by
    rw [List.getD_eq_getElem?_getD,List.getElem?_eq_getElem (by omega)];simp
   have ih':=ih (by omega);have up:(∃ x ∈ L.take k,x.kZ=4∧atW s x.kV=b∧ZeC s x.kX.toNat v=true) ->∃ x ∈ L.take (k + 1),x.kZ=4∧atW s x.kV=b∧ZeC s x.kX.toNat v=true:=fun⟨x,hx,z⟩=>⟨x,by rw [ht];exact List.mem_append.2 (.inl hx),z⟩
   rw [hmp];by_cases c:(L.getD k default).kZ=4
   ·rw [if_pos c];rcases Zzq (s:=s) (L.getD k default).kX.toNat (atW s (L.getD k default).kV) (hmp s L k) b v (nn s) with z | ⟨z1,z2⟩
    ·rw [z];exact ih'.imp id up
    ·exact .inr ⟨_,by rw [ht];exact List.mem_append.2 (.inr (by simp)),c,z1.symm,z2⟩
   ·rw [if_neg c];exact ih'.imp id up
theorem Zuv {e:Zk} (h:UB s L e=0) (hd:e.kZ ≠ 6):c3 L 5 e.kV 0=0:=by
 unfold UB at h;rcases Nat.eq_zero_or_pos (c3 L 5 e.kV 0) with z | z
 ·exact z
 ·rw [decide_eq_true (show c3 L 5 e.kV 0 > 0 from z),show(e.kZ !=6)=true by simp [hd]] at h;cases h
theorem ZDb {e:Zk} (h:UB s L e=0) (hd:e.kZ=2):Zmk s L e=false:=by
 have h1:=Zuv h (by rw [hd];decide);unfold UB at h;rw [h1,hd] at h;cases c:Zmk s L e with
 | false=>rfl
 | true=>
   exfalso;rw [c] at h;have h:(bif decide (k1 L e=0) || decide (k2 L e > 0) then(2:Int) else 5)=0:=h;generalize (decide (k1 L e=0) || decide (k2 L e > 0))=bb at h;cases bb
   ·exact absurd h (by decide)
   ·exact absurd h (by decide)
theorem Zqf (hk:k < L.length) (d p q:Int):c3 (L.take (k + 1)) d p q=c3 (L.take k) d p q + one ((L.getD k default).kZ=d∧(L.getD k default).kV=p∧(L.getD k default).kX=q):=by
 have ht:L.take (k + 1)=L.take k ++ [L.getD k default]:=by
  rw [List.getD_eq_getElem?_getD,List.getElem?_eq_getElem hk];simp
 rw [ht,Zab]
def fln (L:List Zk) (k:Nat) (p:Nat):Bool:=decide (c3 (L.take k) 5 (p:Int) 0 > 0)
theorem ZwP (hk:k < L.length) (h:(L.getD k default).kZ ≠ 5):fln L (k + 1)=fln L k:=by
 funext p;unfold fln;rw [Zqf hk,YO (fun z=>h z.1)];rfl
theorem ZwQ (hk:k < L.length) (h:(L.getD k default).kZ=5) (hp:(L.getD k default).kV= (p:Int)) (ho:(L.getD k default).kX=0):fln L (k + 1)=Z5 (fln L k) p true:=by
 funext q;unfold fln;rw [Zqf hk];by_cases c:q=p
 ·subst c;rw [Zt,Jv ⟨h,hp,ho⟩,decide_eq_true (by omega)]
 ·rw [ZC c,YO (fun z=>c (by have:=z.2.1;omega))];rfl
end
theorem Ziw (s:Zc) (l:List Z8) (picks:List Int) (hpl:picks.length <=9223372036854775807):f6L (1000000 + picks.length) s l picks=some true:=by
 obtain⟨F,eF⟩:∃ F,F=1000000 + picks.length:= ⟨_,rfl⟩
 have hF:1000000 <=F:=by omega
 rw [← eF];unfold f6L;obtain⟨g,hg,hgt⟩:=ZwI (s:=s) (l:=l) hF (pp:= [picks]) (by simp) (fun x hx=>by rw [List.mem_singleton.1 hx];exact⟨by omega,hpl⟩);rw [hg];simp only [Bq0];cases g with
 | false=>rfl
 | true=>
 have hG:=hgt rfl picks (by simp);have hS:=hG.1;have h8:nn s <=8:=hS.p2;obtain⟨n,hn,he,ok,ac,ac2,e2,hdr⟩:=Zpr hF hG;rw [hdr];simp only [Bool.not_true,Cq0,Bq0];obtain⟨σ,hσ⟩:∃ σ,σ=WS s l picks n:= ⟨_,rfl⟩
 rw [← hσ] at he ok ac ac2 e2 ⊢;have hI:=ZvH hS ac;have hev:σ.ev.length <=9000:=by have:=ok.gd.wf.pot;unfold Pot at this;omega
 rw [show((s.Ze.length:Nat):Int)= ((nn s:Nat):Int) from rfl,Zkx false (by omega)];simp only [Bq0];refine XI (fun k=>((k:Int),tab (nn s) (fln σ.ev k),hmp s σ.ev k)) ?_ (n:=σ.ev.length) (by omega) (fun k hk next=>?_) (fun next=>?_)
 ·show(((0:Nat):Int),tab (nn s) (fln σ.ev 0),hmp s σ.ev 0)=_
  rfl
 ·obtain⟨e,hee⟩:∃ e,e=σ.ev.getD k default:= ⟨_,rfl⟩
  have hmem:e ∈ σ.ev:=by rw [hee];exact XG hk
  have hru:=hI.ru.ok k hk;have htold:=hI.ru.told e hmem;obtain⟨⟨p,ep,hp⟩,⟨q,eq,hq⟩⟩:=hI.er e hmem;rw [← hee] at hru;unfold Zrd;dsimp only;rw [Y0 hk,Cq1,Qx default hk,← hee];simp only [Bq0];rw [ep,eq,Yu hp];simp only [Bq0]
  have c1:(fln σ.ev k p && (e.kZ !=6))=false:=by
   by_cases d6:e.kZ=6
   ·rw [d6];simp
   ·have:=Zuv hru d6;rw [ep] at this;unfold fln;rw [this];rfl
  rw [c1,Cq0,XE (show p < s.Ze.length from hp)];simp only [Bq0];have hat:(spt s p).at_=atW s (p:Int):=rfl;by_cases d5:e.kZ=5
  ·rw [show(e.kZ==5)=true by rw [d5];rfl,Cq1];have ho:=hI.es.z5 e hmem (.inl d5);unfold Zc2;dsimp only;rw [Qt (by omega),Qn,ZwQ hk (by rw [← hee];exact d5) (by rw [← hee];exact ep) (by rw [← hee];exact ho),hmp,← hee,if_neg (by rw [d5];decide)]
  ·rw [show(e.kZ==5)=false from beq_eq_false_iff_ne.2 d5,Cq0];have hf:fln σ.ev (k + 1)=fln σ.ev k:=ZwP hk (by rw [← hee];exact d5);by_cases d2:e.kZ=2
   ·rw [show(e.kZ==2)=true by rw [d2];rfl,Cq1];have ZFe:=ZDb hru d2
    have hnone:Zhr (hmp s σ.ev k) ⟨(spt s p).at_,(q:Int)⟩=none:=by
     rcases ZzD (s:=s) σ.ev (spt s p).at_ q k (by omega) with z | ⟨x,hx,z1,z2,z3⟩
     ·exact z
     ·exfalso;unfold Zmk at ZFe;rw [List.any_eq_false] at ZFe;refine ZFe x hx ?_;rw [z1,z2,ep,eq,hat,Int.toNat_natCast,z3];simp
    unfold ZEK;rw [hnone];simp only [Bq0,Option.getD_none,Cq0];unfold Zc2;dsimp only;rw [Qt (by omega),hf,hmp,← hee,if_neg (by rw [d2];decide)]
   ·rw [show(e.kZ==2)=false from beq_eq_false_iff_ne.2 d2,Cq0];by_cases d4:e.kZ=4
    ·rw [show(e.kZ==4)=true by rw [d4];rfl,Cq1];refine XI (fun v=>((v:Int),hst s q (spt s p).at_ (hmp s σ.ev k) v)) rfl (n:=nn s) (by omega) (fun v hv nx=>?_) (fun nx=>?_)
     ·unfold Zrc;dsimp only;rw [show((s.Ze.length:Nat):Int)= ((nn s:Nat):Int) from rfl,Y0 hv,Cq1,eq,lies (by omega) hS (show v < s.Ze.length from hv) q];simp only [Bq0];rw [hst];by_cases c:ZeC s q v=true
      ·rw [c,Cq1,if_pos rfl];unfold ZjM;rw [Qt (by omega)]
      ·rw [Bool.eq_false_iff.2 c,Cq0,if_neg (by decide)];unfold ZjM;rw [Qt (by omega)]
     ·unfold Zrc;dsimp only;rw [show((s.Ze.length:Nat):Int)= ((nn s:Nat):Int) from rfl,Y9,Cq0];unfold Zc2;dsimp only;rw [Qt (by omega),hf,hmp,← hee,if_pos d4,ep,eq,Int.toNat_natCast,hat]
    ·rw [show(e.kZ==4)=false from beq_eq_false_iff_ne.2 d4,Cq0];unfold Zc2;dsimp only;rw [Qt (by omega),hf,hmp,← hee,if_neg d4]
 ·unfold Zrd;dsimp only;rw [Y9,Cq0];rfl
end
end Go.Proofs.YtcnahmgekicbdaaGreat
end
