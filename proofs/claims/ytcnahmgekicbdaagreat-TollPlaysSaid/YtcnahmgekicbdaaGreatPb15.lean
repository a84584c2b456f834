/- Part 15. -/
import Derived.Test.YtcnahmgekicbdaaGreatPb14
set_option linter.all false
set_option maxHeartbeats 2000000
section
namespace Go.Proofs.YtcnahmgekicbdaaGreat
open Go.Lf
section
theorem Xz {β γ:Type} {body:γ ->(γ ->Option β) ->Option β} {r:Option β} {s0:γ} (S:Nat ->γ) (h0:S 0=s0) {n F:Nat} (hF:n < F) (hb:∀ k,k < n ->∀ next,body (S k) next=next (S (k + 1))) (he:∀ next,body (S n) next=r):loop F body s0=r:=h0 ▸ Zvd S hF hb he
theorem QO {α:Type} {l:List α} {k:Nat} {d:α} (h:k < l.length):l.getD k d ∈ l:=by
 rw [List.getD_eq_getElem?_getD,List.getElem?_eq_getElem h];exact List.getElem_mem h
theorem Qi {α:Type} {l:List α} {k:Nat} (d:α) (h:k < l.length):ZL l (k:Int)=some (l.getD k d):=by
 rw [ZLt h,List.getD_eq_getElem?_getD,List.getElem?_eq_getElem h];rfl
theorem KP (a b:Int):(a !=b)=decide (a ≠ b):=by
 by_cases h:a=b <;> simp [h]
theorem Xl (a b:Int):(a==b)=decide (a=b):=by
 by_cases h:a=b <;> simp [h]
theorem ZcL {c:Nat ->Prop} {n:Nat} (h:c n):∃ m,m <=n/\c m/\∀ k,k < m ->¬ c k:=by
 induction n using Nat.strongRecOn with
 | _ n ih=>
   by_cases hz:∃ j,j < n/\c j
   ·obtain⟨j,h1,h2⟩:=hz;obtain⟨m,q1,q2,q3⟩:=ih j h1 h2;exact⟨m,by omega,q2,q3⟩
   ·exact⟨n,Nat.le_refl _,h,fun k hk q=>hz ⟨k,hk,q⟩⟩
theorem ZJr:∀ (n:Nat) (f:Nat ->Nat),(∀ i,i <=n ->f i < n) ->∃ i j,i < j/\j <=n/\f i=f j:=by
 intro n
 induction n with
 | zero=>intro f h;exact absurd (h 0 (Nat.le_refl _)) (Nat.not_lt_zero _)
 | succ n ih=>
   intro f h;by_cases hz:∃ i,i <=n/\f i=f (n + 1)
   ·obtain⟨i,h1,h2⟩:=hz;exact⟨i,n + 1,by omega,Nat.le_refl _,h2⟩
   ·have hne:∀ i,i <=n ->f i ≠ f (n + 1):=fun i hi q=>hz ⟨i,hi,q⟩
    have hl:=h (n + 1) (Nat.le_refl _)
    obtain⟨i,j,h1,h2,h3⟩:=ih (fun i=>if f i < f (n + 1) then f i else f i - 1) (fun i hi=>by
     have:=h i (by omega);have:=hne i hi;by_cases q:f i < f (n + 1)
     ·rw [if_pos q];omega
     ·rw [if_neg q];omega)
    refine⟨i,j,h1,by omega,?_⟩;have a1:=hne i (by omega);have a2:=hne j h2;by_cases q1:f i < f (n + 1) <;> by_cases q2:f j < f (n + 1)
    ·rwa [if_pos q1,if_pos q2] at h3
    ·rw [if_pos q1,if_neg q2] at h3;omega
    ·rw [if_neg q1,if_pos q2] at h3;omega
    ·rw [if_neg q1,if_neg q2] at h3;omega
section
variable {β γ:Type} {R:β ->Prop}
end
theorem Zdg (k:Nat):decide ((k:Int) >=0)=true:=decide_eq_true (by omega)
noncomputable def ifc {α:Sort _} (c:Prop) (a b:α):α:=@ite α c (Classical.propDecidable c) a b
theorem Yk {α:Sort _} {c:Prop} (h:c) {a b:α}:ifc c a b=a:=by unfold ifc;exact if_pos h
theorem Z7 {α:Sort _} {c:Prop} (h:¬ c) {a b:α}:ifc c a b=b:=by unfold ifc;exact if_neg h
theorem KM {β γ:Type} {body:γ ->(γ ->Option β) ->Option β} {r1 r2:Option β} {s0:γ} (S:Nat ->γ) (h0:S 0=s0) (c:Nat ->Prop) {n F:Nat} (hF:n < F)
 (hb:∀ k,k < n ->∀ next,body (S k) next=ifc (c k) (next (S (k + 1))) r1) (he:∀ next,body (S n) next=r2):loop F body s0=ifc (∀ k,k < n ->c k) r2 r1:=by
 by_cases hall:∀ k,k < n ->c k
 ·rw [Yk hall];exact Xz S h0 hF (fun k hk next=>by rw [hb k hk,Yk (hall k hk)]) he
 ·rw [Z7 hall];have hz:∃ k,k < n/\¬ c k:=Classical.byContradiction fun q=>hall fun p hp=>Classical.byContradiction fun q2=>q ⟨p,hp,q2⟩
  obtain⟨k0,hk0⟩:=hz;obtain⟨m,_,hm,hlt⟩:=ZcL (c:=fun k=>k < n/\¬ c k) hk0;exact Xz S h0 (n:=m) (by omega) (fun k hk next=>by rw [hb k (by omega),Yk (Classical.byContradiction fun q=>hlt k hk ⟨by omega,q⟩)]) (fun next=>by rw [hb m hm.1,Z7 hm.2])
theorem Kh {α:Type} {l:List α} {k:Nat} {d:α} (h:k < l.length):l.getD k d=l[k]:=by
 rw [List.getD_eq_getElem?_getD,List.getElem?_eq_getElem h];rfl
theorem ZnH {xs ys:List Int} (h:xs.length + ys.length <=1000000):app 8 xs ys=some (xs ++ ys):=ZsL h (by decide)
end
section
def inn (w:Zc) (q:Int):Int:= (w.Zh.getD q.toNat default).Xw
def up (w:Zc):Nat ->Int ->Int
 | 0,q=>q
 | k + 1,q=>if q < 0 then q else up w k (inn w q)
theorem Zq1 {w:Zc} {q:Int} (h:q < 0) (k:Nat):up w k q=q:=by
 cases k with
 | zero=>rfl
 | succ k=>show(if q < 0 then q else _)=q;rw [if_pos h]
theorem U5 (w:Zc) (k:Nat) (q:Int):up w (k + 1) q=if up w k q < 0 then up w k q else inn w (up w k q):=by
 induction k generalizing q with
 | zero=>rfl
 | succ k ih=>
   show(if q < 0 then q else up w (k + 1) (inn w q))=_;by_cases h:q < 0
   ·rw [if_pos h,Zq1 h,if_pos h]
   ·rw [if_neg h,ih];show _=if(if q < 0 then q else up w k (inn w q)) < 0 then _ else _
    rw [if_neg h];show _=if _ then(if q < 0 then q else up w k (inn w q)) else inn w (if q < 0 then q else up w k (inn w q))
    rw [if_neg h]
theorem up_add (w:Zc) (a b:Nat) (q:Int):up w (a + b) q=up w b (up w a q):=by
 induction a generalizing q with
 | zero=>rw [Nat.zero_add];rfl
 | succ a ih=>
   rw [show a + 1 + b= (a + b) + 1 by omega];show(if q < 0 then q else up w (a + b) (inn w q))=up w b (if q < 0 then q else up w a (inn w q));by_cases h:q < 0
   ·rw [if_pos h,if_pos h,Zq1 h]
   ·rw [if_neg h,if_neg h,ih]
theorem U6 {w:Zc} {q:Int} {a:Nat} (h:up w a q < 0) {b:Nat} (hb:a <=b):up w b q < 0:=by
 obtain⟨d,rfl⟩:∃ d,b=a + d:= ⟨b - a,by omega⟩
 rw [up_add,Zq1 h];exact h
def okN (w:Zc) (q:Int):Prop:=-1 <=q/\q < (w.Zh.length:Int)
instance (w:Zc) (q:Int):Decidable (okN w q):=by unfold okN;infer_instance
structure Inn (w:Zc):Prop where
 rng:∀ p:Nat,p < w.Zh.length ->okN w (inn w p)
 acy:∀ p:Nat,p < w.Zh.length ->up w w.Zh.length p < 0
theorem Inn.up {w:Zc} (h:Inn w) {q:Int} (hq:okN w q) (k:Nat):okN w (up w k q):=by
 induction k with
 | zero=>exact hq
 | succ k ih=>
   rw [U5];by_cases h2:Proofs.YtcnahmgekicbdaaGreat.up w k q < 0
   ·rw [if_pos h2];exact ih
   ·rw [if_neg h2];have:=h.rng (Proofs.YtcnahmgekicbdaaGreat.up w k q).toNat (by have:=ih.2;omega)
    rwa [Int.toNat_of_nonneg (by omega)] at this
theorem ZnN {w:Zc} (hr:∀ p:Nat,p < w.Zh.length ->okN w (inn w p)):(∀ p:Nat,p < w.Zh.length ->up w w.Zh.length p < 0)↔∀ p:Nat,p < w.Zh.length ->∀ j,j <=w.Zh.length ->up w (j + 1) p ≠ (p:Int):=by
 constructor
 ·intro h p hp j hj e
  have:∀ m:Nat,up w (m * (j + 1)) p= (p:Int):=fun m=>by
   induction m with
   | zero=>rw [Nat.zero_mul];rfl
   | succ m ih=>rw [Nat.succ_mul,up_add,ih,e]
  have h2:=U6 (h p hp) (b:=w.Zh.length * (j + 1)) (Nat.le_mul_of_pos_right _ (by omega));rw [this] at h2;omega
 ·intro h p hp;rcases Int.lt_or_le (up w w.Zh.length p) 0 with q | q
  ·exact q
  ·exfalso
   have hk:∀ k,k <=w.Zh.length ->0 <=up w k p:=fun k hk=>by
    rcases Int.lt_or_le (up w k p) 0 with z | z
    ·have:=U6 z hk;omega
    ·exact z
   have hok:∀ k,okN w (up w k p):=fun k=>by
    induction k with
    | zero=>exact⟨by show(-1:Int) <= (p:Int);omega,by show(p:Int) < _;omega⟩
    | succ k ih=>
      rw [U5];by_cases h2:up w k p < 0
      ·rw [if_pos h2];exact ih
      ·rw [if_neg h2];have:=hr (up w k p).toNat (by have:=ih.2;omega)
       rwa [Int.toNat_of_nonneg (by omega)] at this
   obtain⟨i,j,h1,h2,h3⟩:=ZJr w.Zh.length (fun k=>(up w k p).toNat) fun k hk'=>by
    have:= (hok k).2;have:=hk k hk';omega
   have e:up w i p=up w j p:=by have:=hk i (by omega);have:=hk j h2;omega
   have hi:=hk i (by omega);have:=h (up w i p).toNat (by have:= (hok i).2;omega) (j - i - 1) (by omega);apply this;rw [Int.toNat_of_nonneg hi,show j - i - 1 + 1=j - i by omega,<- up_add,show i + (j - i)=j by omega,e]
theorem ZbB {w:Zc} {q:Int} (h:okN w q) (h2:¬ q < 0):∃ k:Nat,q= (k:Int)/\k < w.Zh.length:= ⟨q.toNat,by omega,by have:=h.2;omega⟩
def spt (w:Zc) (p:Nat):ZV:=w.Zh.getD p default
theorem X5 {w:Zc} {p:Nat} (hp:p < w.Zh.length):ZL w.Zh (p:Int)=some (spt w p):=Qi default hp
theorem QE (w:Zc) (p:Nat):(spt w p).Xw=inn w (p:Int):=by unfold spt inn;rw [Int.toNat_natCast]
def KA (w:Zc) (d v:Nat):Prop:=∀ k,k < w.Zh.length ->∀ j,d <=j ->up w j (k:Int) ≠ (v:Int)
theorem KA.all {w:Zc} (hi:Inn w) {v:Nat}:KA w w.Zh.length v:=fun k hk j hj q=>by
 have:=U6 (hi.acy k hk) hj;omega
theorem ZDF {w:Zc} {x k v j:Nat} (h1:up w j (x:Int)= (k:Int)) (h2:inn w (k:Int)= (v:Int)):up w (j + 1) (x:Int)= (v:Int):=by
 rw [U5,h1,if_neg (by omega),h2]
theorem KA.kid {w:Zc} {d v k:Nat} (h:KA w (d + 1) v) (h2:inn w (k:Int)= (v:Int)):KA w d k:=fun x hx j hj q=>h x hx (j + 1) (by omega) (ZDF q h2)
theorem ZyF {w:Zc} (hi:Inn w) {v j:Nat} (hv:v < w.Zh.length) (hj:0 < j):up w j (v:Int) ≠ (v:Int):=by
 intro e
 have h:∀ m,up w (m * j) (v:Int)= (v:Int):=by
  intro m
  induction m with
  | zero=>rw [Nat.zero_mul];rfl
  | succ m ih=>rw [Nat.succ_mul,up_add,ih,e]
 have:=h w.Zh.length;have h2:=U6 (hi.acy v hv) (show w.Zh.length <=w.Zh.length * j from Nat.le_mul_of_pos_right _ hj);omega
structure QJ (s:Zc):Prop where
 m1:1 <=s.qG
 m2:s.qG <=4
 p1:1 <=s.Zh.length
 p2:s.Zh.length <=8
 at_:∀ p,p < s.Zh.length ->0 <= (spt s p).at_/\(spt s p).at_ < s.qG
 inn:Inn s
def Ends (s:Zc) (p:Nat):Prop:=∃ m,m <=s.Zh.length/\up s (m + 1) (p:Int) < 0
section
variable {F:Nat} {s:Zc}
theorem Zrq (hr:∀ p:Nat,p < s.Zh.length ->okN s (inn s p)) {p:Nat} (hp:p < s.Zh.length):∀ k,okN s (up s k (p:Int)):=by
 intro k
 induction k with
 | zero=>exact⟨by show(-1:Int) <= (p:Int);omega,by show(p:Int) < _;omega⟩
 | succ k ih=>
   rw [U5];by_cases h2:up s k p < 0
   ·rw [if_pos h2];exact ih
   ·rw [if_neg h2];obtain⟨j,e,hj⟩:=ZbB ih h2;rw [e];exact hr j hj
theorem ZpY (hr:∀ p:Nat,p < s.Zh.length ->okN s (inn s p)):(∀ p,p < s.Zh.length ->Ends s p)↔∀ p:Nat,p < s.Zh.length ->up s s.Zh.length (p:Int) < 0:=by
 constructor
 ·intro h;refine(ZnN hr).2 fun p hp j hj e=>?_
  obtain⟨m,hm,he⟩:=h p hp
  have:∀ k:Nat,up s (k * (j + 1)) p= (p:Int):=fun k=>by
   induction k with
   | zero=>rw [Nat.zero_mul];rfl
   | succ k ih=>rw [Nat.succ_mul,up_add,ih,e]
  have h2:=U6 he (b:= (m + 1) * (j + 1)) (Nat.le_mul_of_pos_right _ (by omega));rw [this] at h2;omega
 ·intro h p hp;exact⟨s.Zh.length,Nat.le_refl _,U6 (h p hp) (by omega)⟩
theorem Zsx (hF:1000 <=F) (h8:s.Zh.length <=8) (hr:∀ p:Nat,p < s.Zh.length ->okN s (inn s p)) {p:Nat} (hp:p < s.Zh.length) (v30:Int) (next:Int×Int ->Option Int):
 loop F (ZiY s (p:Int) next) (inn s (p:Int),v30,0,false)=ifc (Ends s p) (next (((p + 1:Nat):Int),v30)) (some 2):=by
 have e0:(inn s (p:Int),v30,(0:Int),false)= (up s (0 + 1) p,v30,((0:Nat):Int),false):=by
  rw [U5];show _= (if((p:Int)) < 0 then _ else _,_);rw [if_neg (by omega)];rfl
 obtain⟨m,hm,hs,hlt⟩:=ZcL (c:=fun k=>s.Zh.length <=k\/up s (k + 1) p < 0) (n:=s.Zh.length) (.inl (by omega))
 have hj:∀ j,j < m ->j < s.Zh.length/\¬ up s (j + 1) p < 0:=fun j hj=>by
  have:=hlt j hj;exact⟨Classical.byContradiction fun z=>this (.inl (by omega)),fun q=>this (.inr q)⟩
 refine Xz (fun j=>(up s (j + 1) p,v30,(j:Int),false)) e0.symm (n:=m) (by omega) (fun j hjm nx=>?_) (fun nx=>?_)
 ·obtain⟨a1,a2⟩:=hj j hjm;obtain⟨k,e,hk⟩:=ZbB (Zrq hr hp (j + 1)) a2;unfold ZiY;dsimp only;rw [U5 s (j + 1),if_neg a2,e,Zdg,Cq1,Qe (by omega),decide_eq_false (by omega),X5 hk];simp only [Cq0,Bool.not_true,Bq0];rw [QE]
 ·unfold ZiY;dsimp only;by_cases h2:up s (m + 1) p < 0
  ·rw [decide_eq_false (show ¬ up s (m + 1) p >=0 by omega),Cq0,Yk ⟨m,hm,h2⟩];unfold Zga;dsimp only;rw [Cq0,Qe (by omega)]
  ·have hml:m=s.Zh.length:=by rcases hs with z | z;· omega
                              ·exact absurd z h2
   obtain⟨k,e,hk⟩:=ZbB (Zrq hr hp (m + 1)) h2
   have hne:¬ Ends s p:=by
    rintro⟨j,h1,h3⟩;have:=U6 h3 (show j + 1 <=m + 1 by omega);exact h2 this
   rw [e,Zdg,Cq1,Qe (by omega),decide_eq_true (show((m + 1:Nat):Int) > (s.Zh.length:Int) by omega),Z7 hne]
   rfl
theorem ZyV (hF:1000 <=F) (h8:s.Zh.length <=8) (hr:∀ p:Nat,p < s.Zh.length ->okN s (inn s p)) {p:Nat} (hp:p < s.Zh.length) (next:Int ->Option Bool):
 loop F (Zi1 s (p:Int) next) (inn s (p:Int),0)=ifc (∀ j,j <=s.Zh.length ->up s (j + 1) p ≠ (p:Int)) (next ((p + 1:Nat):Int)) (some false):=by
 have hok:=Zrq hr hp
 have e0:(inn s (p:Int),(0:Int))= (up s (0 + 1) p,((0:Nat):Int)):=by
  rw [U5];show _= (if((p:Int)) < 0 then _ else _,_);rw [if_neg (by omega)];rfl
 obtain⟨m,hm,hs,hlt⟩:=ZcL (c:=fun k=>s.Zh.length < k\/up s (k + 1) p < 0\/up s (k + 1) p= (p:Int)) (n:=s.Zh.length + 1) (.inl (by omega))
 have hj:∀ j,j < m ->j <=s.Zh.length/\¬ up s (j + 1) p < 0/\up s (j + 1) p ≠ (p:Int):=fun j hj=>by
  have:=hlt j hj;exact⟨Classical.byContradiction fun z=>this (.inl (by omega)),fun q=>this (.inr (.inl q)),fun q=>this (.inr (.inr q))⟩
 refine Xz (fun j=>(up s (j + 1) p,(j:Int))) e0.symm (n:=m) (by omega) (fun j hjm nx=>?_) (fun nx=>?_)
 ·obtain⟨a1,a2,a3⟩:=hj j hjm;obtain⟨k,e,hk⟩:=ZbB (hok (j + 1)) a2;unfold Zi1;dsimp only;rw [U5 s (j + 1),if_neg a2];rw [e] at a3 |-;rw [decide_eq_true (show(j:Int) <= (s.Zh.length:Int) by omega),Zdg,Bool.and_self,Cq1,Xl,decide_eq_false a3,Cq0,X5 hk];simp only [Bq0];rw [Qe (by omega),QE]
 ·unfold Zi1;dsimp only;by_cases h1:s.Zh.length < m
  ·rw [decide_eq_false (show ¬ (m:Int) <= (s.Zh.length:Int) by omega),Bool.false_and,Cq0,Qe (by omega),Yk fun j q1=>(hj j (by omega)).2.2]
  ·by_cases h2:up s (m + 1) p < 0
   ·rw [decide_eq_false (show ¬ up s (m + 1) p >=0 by omega),Bool.and_false,Cq0,Qe (by omega),Yk];intro j q1 q2;rcases Nat.lt_or_ge j m with z | z
    ·exact(hj j z).2.2 q2
    ·have:=U6 h2 (show m + 1 <=j + 1 by omega);omega
   ·have h3:up s (m + 1) p= (p:Int):=by
     rcases hs with z | z | z
     ·exact absurd z h1
     ·exact absurd z h2
     ·exact z
    rw [decide_eq_true (show(m:Int) <= (s.Zh.length:Int) by omega),h3,Zdg,Bool.and_self,Cq1,Xl,decide_eq_true rfl,Cq1,Z7 fun z=>z m (by omega) h3]
def Rng (s:Zc) (p:Nat):Prop:= (0 <= (spt s p).at_/\(spt s p).at_ < s.qG)/\okN s (inn s (p:Int))
def Bnd (s:Zc):Prop:=1 <=s.qG/\s.qG <=4/\1 <=s.Zh.length/\s.Zh.length <=8
theorem Zhy (s:Zc):((((decide (s.qG < 1)) || (decide (s.qG > 4))) || (decide ((s.Zh.length:Int) < 1))) || (decide ((s.Zh.length:Int) > 8)))=true↔¬ Bnd s:=by
 unfold Bnd;simp only [Bool.or_eq_true,decide_eq_true_eq];omega
theorem Zam:QJ s↔Bnd s/\(∀ p,p < s.Zh.length ->Rng s p)/\∀ p:Nat,p < s.Zh.length ->up s s.Zh.length (p:Int) < 0:=
 ⟨fun h=>⟨⟨h.m1,h.m2,h.p1,h.p2⟩,fun p hp=>⟨h.at_ p hp,h.inn.rng p hp⟩,h.inn.acy⟩,fun h=>⟨h.1.1,h.1.2.1,h.1.2.2.1,h.1.2.2.2,fun p hp=>(h.2.1 p hp).1,⟨fun p hp=>(h.2.1 p hp).2,h.2.2⟩⟩⟩
theorem ZuP (hF:1000 <=F) (s:Zc):ZvU F s=ifc (QJ s) (some true) (some false):=by
 unfold ZvU;rcases Classical.em (¬ Bnd s) with hb | hb
 ·rw [(Zhy s).2 hb,Cq1,Z7 fun z=>hb (Zam.1 z).1]
 have hb:=Classical.not_not.1 hb;rw [Bool.eq_false_iff.2 fun z=>(Zhy s).1 z hb,Cq0];have h8:=hb.2.2.2
 have e1:=KM (body:=Zi2 F s) (r1:=some false) (r2:=loop F (Zgd F s) 0) (s0:= (0:Int)) (fun k=>(k:Int)) rfl (Rng s) (n:=s.Zh.length) (F:=F) (by omega) (fun k hk next=>by
  unfold Zi2;rw [YF hk,Cq1,X5 hk];simp only [Bq0];rw [QE];by_cases r:Rng s k
  ·have r1:=r.1.1;have r2:=r.1.2;have r3:=r.2.1;have r4:=r.2.2;rw [Yk r,decide_eq_false (by omega),decide_eq_false (by omega),decide_eq_false (by omega),decide_eq_false (by omega)];simp only [Bool.or_self,Cq0];rw [Qe (by omega)]
  ·rw [Z7 r]
   have:((((decide ((spt s k).at_ < 0)) || (decide ((spt s k).at_ >=s.qG))) || (decide (inn s (k:Int) < (-1)))) || (decide (inn s (k:Int) >= (s.Zh.length:Int))))=true:=by
    rw [<- Bool.not_eq_false];intro z;simp only [Bool.or_eq_false_iff,decide_eq_false_iff_not] at z;exact r ⟨⟨by omega,by omega⟩,by omega,by omega⟩
   rw [this,Cq1]) (fun next=>by
  unfold Zi2;rw [Xk,Cq0])
 rw [e1];by_cases hr:∀ p,p < s.Zh.length ->Rng s p
 ·have hr':∀ p:Nat,p < s.Zh.length ->okN s (inn s p):=fun p hp=>(hr p hp).2
  have e2:=KM (body:=Zgd F s) (r1:=some false) (r2:=some true) (s0:= (0:Int)) (fun k=>(k:Int)) rfl (fun p:Nat=>∀ j,j <=s.Zh.length ->up s (j + 1) p ≠ (p:Int)) (n:=s.Zh.length) (F:=F) (by omega) (fun k hk next=>by
   unfold Zgd;rw [YF hk,Cq1,X5 hk];simp only [Bq0];rw [QE];exact ZyV hF h8 hr' hk next) (fun next=>by
   unfold Zgd;rw [Xk,Cq0])
  rw [Yk hr,e2];by_cases ha:∀ p:Nat,p < s.Zh.length ->up s s.Zh.length (p:Int) < 0
  ·rw [Yk (Zam.2 ⟨hb,hr,ha⟩),Yk ((ZnN hr').1 ha)]
  ·rw [Z7 fun z=>ha (Zam.1 z).2.2,Z7 fun z=>ha ((ZnN hr').2 z)]
 ·rw [Z7 hr,Z7 fun z=>hr (Zam.1 z).2.1]
theorem Zsw (hF:1000 <=F) (s:Zc):ZBJ F s=ifc (QJ s) (some 0) (some 2):=by
 unfold ZBJ;rcases Classical.em (¬ Bnd s) with hb | hb
 ·rw [(Zhy s).2 hb,Cq1,Z7 fun z=>hb (Zam.1 z).1]
 have hb:=Classical.not_not.1 hb;rw [Bool.eq_false_iff.2 fun z=>(Zhy s).1 z hb,Cq0];have h8:=hb.2.2.2
 have e1:=KM (body:=ZiZ F s) (r1:=some 2) (r2:=loop F (Zgb F s) (0,0)) (s0:= (0:Int)) (fun k=>(k:Int)) rfl (Rng s) (n:=s.Zh.length) (F:=F) (by omega) (fun k hk next=>by
  unfold ZiZ ZmU;rw [YF hk,Cq1,X5 hk];simp only [Bq0];rw [QE];by_cases r1:0 <= (spt s k).at_/\(spt s k).at_ < s.qG
  ·rw [decide_eq_false (show ¬ (spt s k).at_ < 0 by omega),decide_eq_false (show ¬ (spt s k).at_ >=s.qG by omega)];simp only [Bool.or_self,Bool.not_false,Bool.true_and,Bool.false_or];by_cases r2:inn s (k:Int)=-1
   ·rw [r2,WQ,Jj];simp only [Bq0,Bool.false_and,Cq0];rw [Qe (by omega),Yk ⟨r1,by rw [r2];unfold okN;omega⟩]
   ·rw [KP,decide_eq_true r2,Qn];simp only [Bq0,Bool.true_and];by_cases r3:0 <=inn s (k:Int)/\inn s (k:Int) < (s.Zh.length:Int)
    ·rw [decide_eq_true (show inn s (k:Int) >=0 from r3.1),decide_eq_true r3.2,Bool.and_self,Bool.not_true,Cq0,Qe (by omega),Yk ⟨r1,by unfold okN;omega⟩]
    ·have:(decide (inn s (k:Int) >=0) && decide (inn s (k:Int) < (s.Zh.length:Int)))=false:=by
      rw [<- Bool.not_eq_true];intro z;simp only [Ba0,decide_eq_true_eq] at z;exact r3 ⟨z.1,z.2⟩
     rw [this,Bool.not_false,Cq1,Z7];rintro⟨_,a,b⟩;exact r3 ⟨by omega,b⟩
  ·have:(decide ((spt s k).at_ < 0) || decide ((spt s k).at_ >=s.qG))=true:=by
    rw [<- Bool.not_eq_false];intro z;simp only [Bool.or_eq_false_iff,decide_eq_false_iff_not] at z;exact r1 ⟨by omega,by omega⟩
   rw [this];simp only [Bool.not_true,Bool.false_and,Jj,Bq0,Bool.true_or,Cq1];rw [Z7 fun z=>r1 z.1]) (fun next=>by
  unfold ZiZ;rw [Xk,Cq0])
 rw [e1];by_cases hr:∀ p,p < s.Zh.length ->Rng s p
 ·have hr':∀ p:Nat,p < s.Zh.length ->okN s (inn s p):=fun p hp=>(hr p hp).2
  have e2:=KM (body:=Zgb F s) (r1:=some 2) (r2:=some 0) (s0:= ((0:Int),(0:Int))) (fun k=>((k:Int),(0:Int))) rfl (Ends s) (n:=s.Zh.length) (F:=F) (by omega) (fun k hk next=>by
   unfold Zgb;dsimp only;rw [YF hk,Cq1,X5 hk];simp only [Bq0];rw [QE];exact Zsx hF h8 hr' hk 0 next) (fun next=>by
   unfold Zgb;dsimp only;rw [Xk,Cq0])
  rw [Yk hr,e2];by_cases ha:∀ p:Nat,p < s.Zh.length ->up s s.Zh.length (p:Int) < 0
  ·rw [Yk (Zam.2 ⟨hb,hr,ha⟩),Yk ((ZpY hr').2 ha)]
  ·rw [Z7 fun z=>ha (Zam.1 z).2.2,Z7 fun z=>ha ((ZpY hr').1 z)]
 ·rw [Z7 hr,Z7 fun z=>hr (Zam.1 z).2.1]
end
end
section
def arK (s:Zc) (p:Nat) (k:Nat):List Int:= (List.range k).map fun j=>up s (j + 1) (p:Int)
theorem ZCe (s:Zc) (p k:Nat):arK s p (k + 1)=arK s p k ++ [up s (k + 1) (p:Int)]:=by
 unfold arK;rw [List.range_succ,List.map_append];rfl
theorem Zuu (s:Zc) (p k:Nat):(arK s p k).length=k:=by unfold arK;rw [List.length_map,List.length_range]
section
variable {F:Nat} {s:Zc}
theorem ZkQ (s:Zc) (p:Int):(decide (p >=0) && decide (p < (s.Zh.length:Int)))=true↔∃ k:Nat,p= (k:Int)/\k < s.Zh.length:=by
 rw [Ba0,decide_eq_true_eq,decide_eq_true_eq]
 constructor
 ·rintro⟨a,b⟩;exact⟨p.toNat,by omega,by omega⟩
 ·rintro⟨k,rfl,h⟩;omega
theorem ZeI {k:Nat} (h:k < s.Zh.length):(decide ((k:Int) >=0) && decide ((k:Int) < (s.Zh.length:Int)))=true:= (ZkQ s k).2 ⟨k,rfl,h⟩
theorem up1 {p:Nat}:up s (0 + 1) (p:Int)=inn s (p:Int):=by
 rw [U5];show(if((p:Int)) < 0 then _ else _)=_;rw [if_neg (by omega)];rfl
theorem Za6 {l:List Int} (h:l.length < F) (h2:l.length <=1000000):Zj8 F l l=some true:=by
 unfold Zj8;rw [WQ,Cq0];refine Xz (fun k=>(k:Int)) rfl (n:=l.length) h (fun k hk next=>?_) (fun next=>?_)
 ·unfold Zm4;rw [YF hk,Cq1,Qi 0 hk];simp only [Bq0];rw [WQ,Cq0,Qe (by omega)]
 ·unfold Zm4;rw [Xk,Cq0]
end
end
section
section
variable {F:Nat} {w:Zc} {d p o n:Int}
def c3 (l:List Zv) (d p o:Int):Nat:=l.countP fun x=>((x.kZ==d) && (x.kV==p)) && (x.kX==o)
end
end
section
def k1 (l:List Zv) (e:Zv):Nat:=l.countP fun x=>((x.kZ==1) && (x.n==e.n)) && ((e.kZ==1) || ((x.kV==e.kX) && (x.kX==e.kV)))
def k2 (l:List Zv) (e:Zv):Nat:=l.countP fun x=>(x.kZ==2) && (x.n==e.n)
section
variable {F:Nat} {w:Zc}
theorem Zy2 (hF:100000 <=F) (h8:w.Zh.length <=8) (p:Int):Zse F w p=some (((List.range w.Zh.length).filter fun q:Nat=>inn w (q:Int)==p).map Int.ofNat):=by
 unfold Zse;refine Xz (fun k=>(((List.range k).filter fun q:Nat=>inn w (q:Int)==p).map Int.ofNat,(k:Int))) rfl (n:=w.Zh.length) (by omega) (fun k hk next=>?_) (fun next=>?_)
 ·have hl:=List.length_filter_le (fun q:Nat=>inn w (q:Int)==p) (List.range k);rw [List.length_range] at hl;unfold ZmK ZiR;dsimp only;rw [YF hk,Cq1,X5 hk];simp only [Bq0];rw [QE,List.range_succ,List.filter_append,List.map_append,Qe (by omega),List.filter_cons,List.filter_nil];cases h:(inn w (k:Int)==p) with
  | true=>
    rw [Cq1,if_pos rfl,ZnH (by rw [List.length_map,List.length_singleton];omega)];rfl
  | false=>rw [Cq0,if_neg (by decide),List.map_nil,List.append_nil]
 ·unfold ZmK;dsimp only;rw [Xk,Cq0]
end
end
section
section
variable {F:Nat} {w:Zc}
end
end
section
def tab {α:Type} (n:Nat) (f:Nat ->α):List α:= (List.range n).map f
def YE {α:Type} (f:Nat ->α) (k:Nat) (v:α):Nat ->α:=fun j=>if j=k then v else f j
theorem Ye {α:Type} (f:Nat ->α) (k:Nat) (v:α):YE f k v k=v:=if_pos rfl
theorem Xg {α:Type} {f:Nat ->α} {k j:Nat} {v:α} (h:j ≠ k):YE f k v j=f j:=if_neg h
theorem ZfV {α:Type} (f:Nat ->α) (k:Nat):YE f k (f k)=f:=by funext j;unfold YE;by_cases h:j=k <;> simp [h]
theorem Zvx {α:Type} (f:Nat ->α) (k:Nat) (v w:α):YE (YE f k v) k w=YE f k w:=by funext j;unfold YE;by_cases h:j=k <;> simp [h]
section
variable {α:Type} {n k:Nat} {f g:Nat ->α} {v:α}
theorem Xy:(tab n f).length=n:=by simp [tab]
theorem Zg8 (h:k < n):(tab n f)[k]? =some (f k):=by simp [tab,h]
theorem Z4 (h:k < n):ZL (tab n f) (k:Int)=some (f k):=by rw [ZcJ,Zg8 h]
theorem XD:ZE (tab n f) (k:Int) v=tab n (YE f k v):=by
 unfold ZE;apply List.ext_getElem?;intro j;rw [Int.toNat_natCast,List.getElem?_set,Xy];by_cases hj:j < n
 ·rw [Zg8 hj,Zg8 hj];unfold YE;by_cases e:k=j
  ·subst e;simp [hj]
  ·rw [if_neg e,if_neg (fun q=>e q.symm)]
 ·rw [List.getElem?_eq_none (by rw [Xy];omega),List.getElem?_eq_none (by rw [Xy];omega)];by_cases e:k=j
  ·subst e;simp [hj]
  ·rw [if_neg e]
theorem Ww (h:∀ k,k < n ->f k=g k):tab n f=tab n g:=by
 unfold tab;exact List.map_congr_left fun k hk=>h k (List.mem_range.1 hk)
theorem ZaT:tab (n + 1) f=tab n f ++ [f n]:=by simp [tab,List.range_succ]
end
theorem ZDG {α:Type} (n:Nat) (x:α):List.replicate n x=tab n fun _=>x:=by
 apply List.ext_getElem?;intro j;by_cases hj:j < n
 ·rw [Zg8 hj,List.getElem?_replicate,if_pos hj]
 ·rw [List.getElem?_eq_none (by simp;omega),List.getElem?_eq_none (by rw [Xy];omega)]
structure TS where
 st:Nat ->Int
 ma:Nat ->Nat ->Int
 kn:Nat ->List Int
 wa:Nat ->List Int
 be:Nat ->List Zd
 sn:Nat ->List Zd
 ld:Nat ->Nat
 sd:Int
 ev:List Zv
section
variable (s:Zc)
def nn:Nat:=s.Zh.length
def mm:Nat:=s.qG.toNat
def pl (p:Nat):Nat:= (spt s p).at_.toNat
def li (a b:Nat):Nat:=a * mm s + b
def Jq (σ:TS) (i:Nat):Zg:= ⟨(σ.ld i:Int),(σ.sn i).drop (σ.ld i)⟩
def vw (σ:TS):Ze:= ⟨tab (nn s) σ.st,tab (nn s) fun p=>tab (mm s * mm s) (σ.ma p),tab (nn s) σ.kn,tab (nn s) σ.wa,tab (mm s) σ.be,tab (mm s * mm s) (Jq σ),σ.sd⟩
def hal (σ:TS):Z6:= ⟨vw s σ,s,σ.ev⟩
def XY (σ:TS):Z5:= ⟨s,vw s σ,σ.ev⟩
def tell (d p q n:Int) (σ:TS):TS:= {σ with ev:=σ.ev ++ [⟨d,p,q,n⟩]}
def send (a b:Nat) (x:Zd) (σ:TS):TS:= {σ with sn:=YE σ.sn (li s a b) (σ.sn (li s a b) ++ [x])}
def wait (m:Nat) (x:Zd) (σ:TS):TS:= {σ with be:=YE σ.be m (σ.be m ++ [x])}
def Ke (σ:TS) (p:Nat):List Int:=tab (mm s * mm s) (σ.ma p)
def JG (p q:Nat) (σ:TS):TS:=if pl s p=pl s q then wait (pl s p) ⟨5,p,q,0,Ke s σ q⟩ σ else send s (pl s q) (pl s p) ⟨5,p,q,0,Ke s σ q⟩ σ
def see (p q:Nat) (n:Int) (σ:TS):TS:=if σ.st p=1 then tell 2 p q n σ else σ
def note (p q:Nat) (σ:TS):TS:=if σ.st q=3 then JG s p q σ else{σ with wa:=YE σ.wa q (σ.wa q ++ [(p:Int)])}
structure Few (B:Nat) (σ:TS):Prop where
 ev:σ.ev.length <=B
 sn:∀ i,i < mm s * mm s ->(σ.sn i).length <=B
 be:∀ m,m < mm s ->(σ.be m).length <=B
 wa:∀ q,q < nn s ->(σ.wa q).length <=B
 ld:∀ i,i < mm s * mm s ->σ.ld i <= (σ.sn i).length
 ws:∀ q,q < nn s ->∀ x ∈ σ.wa q,∃ k:Nat,x= (k:Int)/\k < nn s
end
section
variable {s:Zc} {σ:TS} {a b p q k B:Nat}
theorem QJ.mm (h:QJ s):s.qG= (Proofs.YtcnahmgekicbdaaGreat.mm s:Int)/\1 <=Proofs.YtcnahmgekicbdaaGreat.mm s/\Proofs.YtcnahmgekicbdaaGreat.mm s <=4:=by
 have:=h.m1;have:=h.m2;unfold Proofs.YtcnahmgekicbdaaGreat.mm;omega
theorem QJ.pl (h:QJ s) (hp:p < nn s):(spt s p).at_= (Proofs.YtcnahmgekicbdaaGreat.pl s p:Int)/\Proofs.YtcnahmgekicbdaaGreat.pl s p < Proofs.YtcnahmgekicbdaaGreat.mm s:=by
 have:=h.at_ p hp;have:=h.mm.1;unfold Proofs.YtcnahmgekicbdaaGreat.pl;omega
theorem KD (ha:a < mm s) (hb:b < mm s):li s a b < mm s * mm s:=by
 unfold li;have:(a + 1) * mm s <=mm s * mm s:=Nat.mul_le_mul_right _ ha;rw [Nat.add_mul,Nat.one_mul] at this;omega
theorem Ut (hS:QJ s) (ha:a < mm s) (hb:b < mm s):Yd (Yd ((a:Int) * s.qG) + (b:Int))= ((li s a b:Nat):Int):=by
 obtain⟨e,h1,h4⟩:=hS.mm;have hl:=KD ha hb;have h16:mm s * mm s <=16:=Nat.mul_le_mul h4 h4;have hm:a * mm s <=li s a b:=by unfold li;omega
 rw [e];have e1:(a:Int) * ((mm s:Nat):Int)= ((a * mm s:Nat):Int):=by rw [Int.natCast_mul]
 have e3:Yd ((a * mm s:Nat):Int)= ((a * mm s:Nat):Int):=Zbn (by omega) (by omega);have e2:((a * mm s:Nat):Int) + (b:Int)= ((li s a b:Nat):Int):=by unfold li;omega
 rw [e1,e3,e2];exact Zbn (by omega) (by omega)
theorem Wo (hS:QJ s) (hp:p < nn s):Kv (hal s σ) (p:Int)=some (pl s p:Int):=by
 unfold Kv;show(ZL s.Zh (p:Int)).bind _=_;rw [X5 hp];simp only [Bq0];rw [(hS.pl hp).1]
theorem ZaL (hS:QJ s) (hp:p < nn s):Kw (XY s σ) (p:Int)=some (pl s p:Int):=by
 unfold Kw;show(ZL s.Zh (p:Int)).bind _=_;rw [X5 hp];simp only [Bq0];rw [(hS.pl hp).1]
theorem KT (h:Few s 800000 σ) (d p q n:Int):Zj6 (hal s σ) d p q n=some (hal s (tell d p q n σ)):=by
 unfold Zj6;show(app 32 σ.ev _).bind _=_;rw [app1 (by have:=h.ev;omega) (by decide)];rfl
theorem ZaS (h:Few s 800000 σ) (d p q n:Int):Zj7 (XY s σ) d p q n=some (XY s (tell d p q n σ)):=by
 unfold Zj7;show(app 32 σ.ev _).bind _=_;rw [app1 (by have:=h.ev;omega) (by decide)];rfl
theorem ZoR (h:Few s B σ) (ha:a < mm s) (hb:b < mm s) (x:Zd):tab (mm s * mm s) (YE (Jq σ) (li s a b) ⟨(σ.ld (li s a b):Int),(σ.sn (li s a b)).drop (σ.ld (li s a b)) ++ [x]⟩)=tab (mm s * mm s) (Jq (send s a b x σ)):=by
 refine Ww fun k hk=>?_
 by_cases e:k=li s a b
 ·subst e;rw [Ye];show _= (⟨_,(YE σ.sn (li s a b) _ (li s a b)).drop _⟩:Zg);rw [Ye];show _= (⟨_,(σ.sn (li s a b) ++ [x]).drop (σ.ld (li s a b))⟩:Zg);rw [List.drop_append_of_le_length (h.ld _ hk)];rfl
 ·rw [Xg e];show _= (⟨_,(YE σ.sn (li s a b) _ k).drop _⟩:Zg);rw [Xg e];rfl
theorem ZaU (hS:QJ s) (h:Few s 800000 σ) (ha:a < mm s) (hb:b < mm s) (x:Zd):ZmI (hal s σ) (a:Int) (b:Int) x=some (hal s (send s a b x σ)):=by
 unfold ZmI;show(ZL (tab (mm s * mm s) (Jq σ)) (Yd (Yd ((a:Int) * s.qG) + (b:Int)))).bind _=_;have hl:=KD ha hb;rw [Ut hS ha hb,Z4 hl];simp only [Bq0];have:((Jq σ (li s a b)).kG).length <=900000:=by have:=h.sn _ hl;unfold Jq;simp;omega
 rw [app1 this (by decide)];simp only [Bq0];show some (Z6.mk (Ze.mk _ _ _ _ _ (ZE (tab (mm s * mm s) (Jq σ)) (Yd (Yd ((a:Int) * s.qG) + (b:Int))) _) _) _ _)=_;rw [Ut hS ha hb,XD,show(Jq σ (li s a b)).Zt= (σ.ld (li s a b):Int) from rfl,show(Jq σ (li s a b)).kG= (σ.sn (li s a b)).drop (σ.ld (li s a b)) from rfl,ZoR h ha hb x];rfl
theorem Zcj (hS:QJ s) (h:Few s 800000 σ) (ha:a < mm s) (hb:b < mm s) (x:Zd):ZmS (XY s σ) (a:Int) (b:Int) x=some (XY s (send s a b x σ)):=by
 unfold ZmS;show(ZL (tab (mm s * mm s) (Jq σ)) (Yd (Yd ((a:Int) * s.qG) + (b:Int)))).bind _=_;have hl:=KD ha hb;rw [Ut hS ha hb,Z4 hl];simp only [Bq0];have:((Jq σ (li s a b)).kG).length <=900000:=by have:=h.sn _ hl;unfold Jq;simp;omega
 rw [app1 this (by decide)];simp only [Bq0];show some (Z5.mk _ (Ze.mk _ _ _ _ _ (ZE (tab (mm s * mm s) (Jq σ)) (Yd (Yd ((a:Int) * s.qG) + (b:Int))) _) _) _)=_;rw [Ut hS ha hb,XD,show(Jq σ (li s a b)).Zt= (σ.ld (li s a b):Int) from rfl,show(Jq σ (li s a b)).kG= (σ.sn (li s a b)).drop (σ.ld (li s a b)) from rfl,ZoR h ha hb x];rfl
theorem Zkw (h:Few s 800000 σ) (ha:a < mm s) (x:Zd):Zlm (hal s σ) (a:Int) x=some (hal s (wait a x σ)):=by
 unfold Zlm;show(ZL (tab (mm s) σ.be) (a:Int)).bind _=_;rw [Z4 ha];simp only [Bq0];rw [app1 (by have:=h.be a ha;omega) (by decide)];simp only [Bq0];show(ZL (tab (mm s) σ.be) (a:Int)).bind (fun _=>some (Z6.mk (Ze.mk _ _ _ _ (ZE (tab (mm s) σ.be) (a:Int) _) _ _) _ _))=_;rw [Z4 ha,XD];rfl
theorem ZeQ (hS:QJ s) (hq:q < nn s):app 8 ([]:List Int) (Ke s σ q)=some (Ke s σ q):=by
 have:(Ke s σ q).length <=16:=by unfold Ke;rw [Xy];exact Nat.mul_le_mul hS.mm.2.2 hS.mm.2.2
 rw [ZnH (by simp;omega)];rfl
theorem Wm (a b:Nat):(((a:Int))== ((b:Int)))=decide (a=b):=by
 rw [Xl];by_cases h:a=b
 ·subst h;simp
 ·rw [decide_eq_false h,decide_eq_false (by omega)]
theorem Zlt (hS:QJ s) (h:Few s 800000 σ) (hp:p < nn s) (hq:q < nn s):ZvJ (hal s σ) (p:Int) (q:Int)=some (hal s (JG s p q σ)):=by
 unfold ZvJ ZgG;show(ZL (tab (nn s) fun p=>tab (mm s * mm s) (σ.ma p)) (q:Int)).bind _=_;rw [Z4 hq];simp only [Bq0];rw [show app 8 ([]:List Int) (tab (mm s * mm s) (σ.ma q))=some (Ke s σ q) from ZeQ hS hq];simp only [Bq0];rw [Wo hS hp,Wo hS hq];simp only [Bq0];rw [Wm];unfold JG;by_cases e:pl s p=pl s q
 ·rw [decide_eq_true e,Cq1,if_pos e,Zkw h (hS.pl hp).2];rfl
 ·rw [decide_eq_false e,Cq0,if_neg e,ZaU hS h (hS.pl hq).2 (hS.pl hp).2];rfl
theorem Zqr (hS:QJ s) (h:Few s 800000 σ) (hp:p < nn s) (hq:q < nn s):ZvL (XY s σ) (p:Int) (q:Int)=some (XY s (JG s p q σ)):=by
 unfold ZvL;show(ZL (tab (nn s) fun p=>tab (mm s * mm s) (σ.ma p)) (q:Int)).bind _=_;rw [Z4 hq];simp only [Bq0];rw [show app 8 ([]:List Int) (tab (mm s * mm s) (σ.ma q))=some (Ke s σ q) from ZeQ hS hq];simp only [Bq0];rw [ZaL hS hp,ZaL hS hq];simp only [Bq0];rw [Wm];unfold JG;by_cases e:pl s p=pl s q
 ·rw [decide_eq_true e,Cq1,if_pos e];show(ZL (tab (mm s) σ.be) (pl s p:Int)).bind _=_;have ha:= (hS.pl hp).2;rw [Z4 ha];simp only [Bq0];rw [app1 (by have:=h.be _ ha;omega) (by decide)];simp only [Bq0];show(ZL (tab (mm s) σ.be) (pl s p:Int)).bind (fun _=>some (Z5.mk _ (Ze.mk _ _ _ _ (ZE (tab (mm s) σ.be) (pl s p:Int) _) _ _) _))=_;rw [Z4 ha,XD];rfl
 ·rw [decide_eq_false e,Cq0,if_neg e,Zcj hS h (hS.pl hq).2 (hS.pl hp).2];rfl
theorem Zs8 (h:Few s 800000 σ) (hp:p < nn s) (hq:q < nn s) (n:Int):ZvP (XY s σ) (p:Int) (q:Int) n=some (XY s (see p q n σ)):=by
 unfold ZvP ZiW;show((ZL (tab (nn s) σ.st) (p:Int)).bind _).bind _=_;rw [Z4 hp];simp only [Bq0];unfold see;rw [Xl];by_cases e:σ.st p=1
 ·rw [decide_eq_true e,Cq1,if_pos e,ZaS h];rfl
 ·rw [decide_eq_false e,Cq0,if_neg e]
theorem Zol (h:Few s 800000 σ) {x:Zd} (hx:x.kX= (p:Int)) (hp:p < nn s):ZvN (hal s σ) x=some (hal s (if σ.st p=1 then tell 2 p x.kV x.n σ else σ)):=by
 unfold ZvN;rw [hx];show(ZL (tab (nn s) σ.st) (p:Int)).bind _=_;rw [Z4 hp];simp only [Bq0];rw [Xl];by_cases e:σ.st p=1
 ·rw [decide_eq_true e,Cq1,if_pos e,KT h];rfl
 ·rw [decide_eq_false e,Cq0,if_neg e]
theorem ZoL (hS:QJ s) (h:Few s 800000 σ) (hp:p < nn s) (hq:q < nn s):ZvO (XY s σ) (p:Int) (q:Int)=some (XY s (note s p q σ)):=by
 unfold ZvO;show(ZL (tab (nn s) σ.st) (q:Int)).bind _=_;rw [Z4 hq];simp only [Bq0];unfold note;rw [Xl];by_cases e:σ.st q=3
 ·rw [decide_eq_true e,Cq1,if_pos e,Zqr hS h hp hq];rfl
 ·rw [decide_eq_false e,Cq0,if_neg e];show(ZL (tab (nn s) σ.wa) (q:Int)).bind _=_;rw [Z4 hq];simp only [Bq0];rw [app1 (by have:=h.wa _ hq;omega) (by decide)];simp only [Bq0];show(ZL (tab (nn s) σ.wa) (q:Int)).bind (fun _=>some (Z5.mk _ (Ze.mk _ _ _ (ZE (tab (nn s) σ.wa) (q:Int) _) _ _ _) _))=_;rw [Z4 hq,XD];rfl
theorem ZkU (hS:QJ s) (h:Few s 800000 σ) {x:Zd} (hx:x.kV= (p:Int)) (hy:x.kX= (q:Int)) (hp:p < nn s) (hq:q < nn s):ZvM (hal s σ) x=some (hal s (note s p q σ)):=by
 unfold ZvM;rw [hx,hy];show(ZL (tab (nn s) σ.st) (q:Int)).bind _=_;rw [Z4 hq];simp only [Bq0];unfold note;rw [Xl];by_cases e:σ.st q=3
 ·rw [decide_eq_true e,Cq1,if_pos e,Zlt hS h hp hq];rfl
 ·rw [decide_eq_false e,Cq0,if_neg e];show(ZL (tab (nn s) σ.wa) (q:Int)).bind _=_;rw [Z4 hq];simp only [Bq0];rw [app1 (by have:=h.wa _ hq;omega) (by decide)];simp only [Bq0];show(ZL (tab (nn s) σ.wa) (q:Int)).bind (fun _=>some (Z6.mk (Ze.mk _ _ _ (ZE (tab (nn s) σ.wa) (q:Int) _) _ _ _) _ _))=_;rw [Z4 hq,XD];rfl
end
end
section
def Alo (s:Zc) (σ:TS) (p:Nat):Prop:=∀ k:Nat,k < nn s ->inn s (k:Int)= (p:Int) ->(k:Int) ∈ σ.kn p
def ins (k:Int) (l:List Int):List Int:=l.takeWhile (fun x=>decide (x < k)) ++ k::l.dropWhile (fun x=>decide (x < k))
def mx (f:Nat ->Int) (l:List Int) (i:Nat):Int:=if l.getD i 0 > f i then l.getD i 0 else f i
theorem ZFK:∀ (l:List Int) (a b:Int),l.Pairwise (· < ·) ->(∀ x ∈ l,a <=x/\x < b) ->(l.length:Int) <=max 0 (b - a):=by
 intro l
 induction l with
 | nil=>intro a b _ _;simp;omega
 | cons x xs ih=>
   intro a b h1 h2;obtain⟨p1,p2⟩:=List.pairwise_cons.1 h1;have:=ih (x + 1) b p2 fun y hy=>⟨by have:=p1 y hy;omega,(h2 y (by simp [hy])).2⟩
   have:=h2 x (by simp);rw [List.length_cons];omega
section
variable {s:Zc} {σ:TS} {F p k q:Nat}
theorem Zy6 {l:List Int} (hF:1000 <=F) (hl:l.length <=500) (x:Int):∃ r,ZpN F l x=some r/\(r >=0↔x ∈ l):=by
 unfold ZpN;by_cases hz:∃ j,j < l.length/\l.getD j 0=x
 ·obtain⟨j,hj⟩:=hz;obtain⟨m,_,⟨hm,hx⟩,hlt⟩:=ZcL (c:=fun j=>j < l.length/\l.getD j 0=x) hj;refine⟨(m:Int),Xz (fun k=>(k:Int)) rfl (n:=m) (by omega) (fun k hk next=>?_) (fun next=>?_),?_⟩
  ·unfold Zdh;rw [YF (show k < l.length by omega),Cq1,Qi 0 (show k < l.length by omega)];simp only [Bq0];rw [Xl,decide_eq_false (fun e=>hlt k hk ⟨by omega,e.symm⟩),Cq0,Qe (by omega)]
  ·unfold Zdh;rw [YF hm,Cq1,Qi 0 hm];simp only [Bq0];rw [Xl,decide_eq_true hx.symm,Cq1]
  ·exact⟨fun _=>by rw [<- hx];exact QO hm,fun _=>by omega⟩
 ·refine⟨-1,Xz (fun k=>(k:Int)) rfl (n:=l.length) (by omega) (fun k hk next=>?_) (fun next=>?_),?_⟩
  ·unfold Zdh;rw [YF hk,Cq1,Qi 0 hk];simp only [Bq0];rw [Xl,decide_eq_false (fun e=>hz ⟨k,hk,e.symm⟩),Cq0,Qe (by omega)]
  ·unfold Zdh;rw [Xk,Cq0]
  ·refine⟨fun h=>by omega,fun h=>?_⟩;obtain⟨j,hj,e⟩:=List.getElem_of_mem h;exact absurd ⟨j,hj,by rw [Kh hj];exact e⟩ hz
theorem contains_eq {l:List Int} (hF:1000 <=F) (hl:l.length <=500) (x:Int):ZvI F l x=some (decide (x ∈ l)):=by
 obtain⟨r,h1,h2⟩:=Zy6 (F:=F) hF hl x;unfold ZvI;rw [h1];simp only [Bq0];congr 1;by_cases h:x ∈ l
 ·rw [decide_eq_true h,decide_eq_true (h2.2 h)]
 ·rw [decide_eq_false h,decide_eq_false fun q=>h (h2.1 q)]
theorem ZkX (hF:1000 <=F) (hp:p < nn s) (hl:(σ.kn p).length <=500) (x:Int):ZvK F (XY s σ) (p:Int) x=some (decide (x ∈ σ.kn p)):=by
 unfold ZvK;show(ZL (tab (nn s) σ.kn) (p:Int)).bind _=_;rw [Z4 hp];simp only [Bq0]
 have e:=KM (body:=ZiQ x (σ.kn p)) (r1:=some true) (r2:=some false) (s0:= (0:Int)) (fun k=>(k:Int)) rfl (fun k=>(σ.kn p).getD k 0 ≠ x) (n:= (σ.kn p).length) (F:=F) (by omega) (fun k hk next=>by
  unfold ZiQ;rw [YF hk,Cq1,Qi 0 hk];simp only [Bq0];rw [Xl];by_cases e:(σ.kn p).getD k 0=x
  ·rw [decide_eq_true e,Cq1,Z7 (fun z=>z e)]
  ·rw [decide_eq_false e,Cq0,Yk e,Qe (by omega)]) (fun next=>by
  unfold ZiQ;rw [Xk,Cq0])
 rw [e];by_cases h:x ∈ σ.kn p
 ·obtain⟨j,hj,e⟩:=List.getElem_of_mem h;rw [Z7 (fun z=>z j hj (by rw [Kh hj];exact e)),decide_eq_true h]
 ·rw [Yk (fun k hk e=>h (by rw [<- e];exact QO hk)),decide_eq_false h]
theorem Zd5 (hF:1000 <=F) (hS:QJ s) (hp:p < nn s) (hl:(σ.kn p).length <=500):ZpK F (hal s σ) (p:Int)=ifc (Alo s σ p) (some true) (some false):=by
 unfold ZpK ZmH;simp only [Bq0];have h8:=hS.p2
 have e:=KM (body:=ZiJ F (hal s σ) (p:Int)) (r1:=some false) (r2:=some true) (s0:= ((0:Int),false)) (fun k=>((k:Int),false)) rfl (fun k:Nat=>inn s (k:Int)= (p:Int) ->(k:Int) ∈ σ.kn p) (n:=nn s) (F:=F) (by unfold nn;omega) (fun k hk next=>by
  unfold ZiJ;dsimp only;rw [show(hal s σ).qK.Zh=s.Zh from rfl,show((s.Zh.length:Nat):Int)= ((nn s:Nat):Int) from rfl,YF hk,Cq1,X5 hk];simp only [Bq0];rw [QE,Xl];by_cases e:inn s (k:Int)= (p:Int)
  ·rw [decide_eq_true e,Cq1,Cq0];show(ZL (tab (nn s) σ.kn) (p:Int)).bind _=_;rw [Z4 hp];simp only [Bq0];rw [contains_eq hF hl];simp only [Bq0,Bool.not_false,Bool.not_true,Cq1,Cq0];by_cases m:(k:Int) ∈ σ.kn p
   ·rw [decide_eq_true m,Bool.not_true,Cq0,Yk (fun _=>m),Qe (by unfold nn at hk;omega)]
   ·rw [decide_eq_false m,Bool.not_false,Cq1,Z7 (fun z=>m (z e))];rfl
  ·rw [decide_eq_false e,Cq0,Yk (fun z=>absurd z e),Qe (by unfold nn at hk;omega)]) (fun next=>by
  unfold ZiJ;dsimp only;rw [show(hal s σ).qK.Zh=s.Zh from rfl,show((s.Zh.length:Nat):Int)= ((nn s:Nat):Int) from rfl,Xk,Cq0]
  rfl)
 rw [e];rfl
def KN (s:Zc) (p:Nat):List Nat:= (List.range (nn s)).filter fun q:Nat=>inn s (q:Int)== (p:Int)
theorem ZcF:k ∈ KN s p↔k < nn s/\inn s (k:Int)= (p:Int):=by unfold KN;simp
theorem ZoU (hS:QJ s):(KN s p).length <=8:=by
 have:=List.length_filter_le (fun q:Nat=>inn s (q:Int)== (p:Int)) (List.range (nn s));have h8:=hS.p2;unfold KN;rw [List.length_range] at this;unfold nn at *;omega
theorem Ztz (hF:100000 <=F) (hS:QJ s):Zse F s (p:Int)=some ((KN s p).map Int.ofNat):=Zy2 hF hS.p2 (p:Int)
theorem Zgr (hF:100000 <=F) (hS:QJ s) (hp:p < nn s) (hl:(σ.kn p).length <=500):Zf0 F (XY s σ) (p:Int)=ifc (Alo s σ p) (some true) (some false):=by
 unfold Zf0;rw [show(XY s σ).s=s from rfl,Ztz hF hS];simp only [Bq0];have h8:=ZoU (p:=p) hS
 have e:=KM (body:=ZiP F (XY s σ) (p:Int) ((KN s p).map Int.ofNat)) (r1:=some false) (r2:=some true) (s0:= (0:Int)) (fun k=>(k:Int)) rfl (fun j:Nat=>(((KN s p).getD j 0:Nat):Int) ∈ σ.kn p) (n:= (KN s p).length) (F:=F) (by omega) (fun j hj next=>by
  unfold ZiP;rw [List.length_map,YF hj,Cq1,Qi 0 (by rw [List.length_map];exact hj)];simp only [Bq0]
  have e1:((KN s p).map Int.ofNat).getD j 0= (((KN s p).getD j 0:Nat):Int):=by
   rw [Kh (by rw [List.length_map];exact hj),Kh hj,List.getElem_map];rfl
  rw [e1,ZkX (by omega) hp hl];simp only [Bq0];by_cases m:(((KN s p).getD j 0:Nat):Int) ∈ σ.kn p
  ·rw [decide_eq_true m,Bool.not_true,Cq0,Yk m,Qe (by omega)]
  ·rw [decide_eq_false m,Bool.not_false,Cq1,Z7 m]) (fun next=>by
  unfold ZiP;rw [List.length_map,Xk,Cq0])
 rw [e];by_cases h:Alo s σ p
 ·rw [Yk h,Yk fun j hj=>by
   have:=ZcF.1 (QO (d:=0) hj);exact h _ this.1 this.2]
 ·rw [Z7 h,Z7 fun z=>h fun k hk e=>by
   have hm:=ZcF.2 ⟨hk,e⟩;obtain⟨j,hj,e2⟩:=List.getElem_of_mem hm;have:=z j hj;rw [Kh hj,e2] at this;exact this]
end
theorem ZaR {l:List Int} {k:Int}:(l.takeWhile fun x=>decide (x < k)).length <=l.length:=by
 induction l with
 | nil=>simp
 | cons x xs ih=>
   rw [List.takeWhile_cons];by_cases h:x < k <;> simp [h];omega
theorem Zxx {l:List Int} {k:Int}:∀ j,j < (l.takeWhile fun x=>decide (x < k)).length ->l.getD j 0 < k:=by
 induction l with
 | nil=>intro j hj;simp at hj
 | cons x xs ih=>
   intro j hj;rw [List.takeWhile_cons] at hj;by_cases h:x < k
   ·rw [decide_eq_true h,if_pos rfl,List.length_cons] at hj;cases j with
    | zero=>simpa using h
    | succ j=>have:=ih j (by omega);simpa using this
   ·rw [decide_eq_false h] at hj;simp at hj
theorem Zxy {l:List Int} {k:Int} (hs:l.Pairwise (· < ·)):∀ j,(l.takeWhile fun x=>decide (x < k)).length <=j ->j < l.length ->k <=l.getD j 0:=by
 induction l with
 | nil=>intro j _ hj;simp at hj
 | cons x xs ih=>
   intro j h1 h2;obtain⟨p1,p2⟩:=List.pairwise_cons.1 hs;rw [List.takeWhile_cons] at h1;by_cases h:x < k
   ·rw [decide_eq_true h,if_pos rfl,List.length_cons] at h1;cases j with
    | zero=>omega
    | succ j=>have:=ih p2 j (by omega) (by simpa using h2);simpa using this
   ·cases j with
    | zero=>simpa using h
    | succ j=>
      have hj:j < xs.length:=by simpa using h2
      have:=p1 _ (QO (d:=0) hj);simp only [List.getD_cons_succ];omega
theorem Zod {l:List Int} {k:Int}:l.take (l.takeWhile fun x=>decide (x < k)).length=l.takeWhile (fun x=>decide (x < k))/\l.drop (l.takeWhile fun x=>decide (x < k)).length=l.dropWhile (fun x=>decide (x < k)):=by
 have h:=List.takeWhile_append_dropWhile (p:=fun x:Int=>decide (x < k)) (l:=l)
 constructor
 ·conv=>lhs;rw [<- h]
  rw [List.takeWhile_append_dropWhile];have:∀ (a b:List Int),(a ++ b).take a.length=a:=fun a b=>by simp
  conv=>lhs;arg 2;rw [<- h]
  exact this _ _
 ·have:∀ (a b:List Int),(a ++ b).drop a.length=b:=fun a b=>by simp
  conv=>lhs;arg 2;rw [<- h]
  exact this _ _
theorem Zy5 (k:Int) (l:List Int):ins k l=l.take (l.takeWhile fun x=>decide (x < k)).length ++ k::l.drop (l.takeWhile fun x=>decide (x < k)).length:=by
 unfold ins;rw [Zod.1,Zod.2]
theorem Zar {k x:Int} {l:List Int}:x ∈ ins k l↔x=k\/x ∈ l:=by
 unfold ins
 conv=>rhs;rhs;rw [<- List.takeWhile_append_dropWhile (p:=fun x:Int=>decide (x < k)) (l:=l)]
 simp only [List.mem_append,List.mem_cons]
 constructor
 ·rintro(h | h | h)
  ·exact .inr (.inl h)
  ·exact .inl h
  ·exact .inr (.inr h)
 ·rintro(h | h | h)
  ·exact .inr (.inl h)
  ·exact .inl h
  ·exact .inr (.inr h)
theorem ZrG {k:Int}:∀ {l:List Int},l.Pairwise (· < ·) ->k ∉ l ->(ins k l).Pairwise (· < ·):=by
 intro l
 induction l with
 | nil=>intro _ _;simp [ins]
 | cons x xs ih=>
   intro hs hk;obtain⟨p1,p2⟩:=List.pairwise_cons.1 hs;simp at hk;by_cases h:x < k
   ·have e:ins k (x::xs)=x::ins k xs:=by unfold ins;simp [List.takeWhile_cons,List.dropWhile_cons,h]
    rw [e]
    exact List.pairwise_cons.2 ⟨fun y hy=>by rcases Zar.1 hy with z | z;· rw [z];exact h
                                             ·exact p1 y z,ih p2 hk.2⟩
   ·have e:ins k (x::xs)=k::x::xs:=by unfold ins;simp [List.takeWhile_cons,List.dropWhile_cons,h]
    rw [e]
    exact List.pairwise_cons.2 ⟨fun y hy=>by rcases List.mem_cons.1 hy with z | z;· rw [z];omega
                                             ·have:=p1 y z;omega,hs⟩
theorem ZDY (a b:Int):ZpO a b=some (decide (a < b)):=by
 unfold ZpO Zll;simp [gd]
theorem ZkA {F:Nat} {l:List Int} {k:Int} (hF:1000 <=F) (hl:l.length <=500) (hs:l.Pairwise (· < ·)) (hk:k ∉ l):Zlk F l k=some (((l.takeWhile fun x=>decide (x < k)).length:Int),false):=by
 unfold Zlk;obtain⟨c,hc⟩:∃ c,c= (l.takeWhile fun x=>decide (x < k)).length:= ⟨_,rfl⟩
 have h1:∀ j,j < c ->l.getD j 0 < k:=fun j hj=>Zxx j (by omega)
 have h2:∀ j,c <=j ->j < l.length ->k <=l.getD j 0:=fun j a b=>Zxy hs j (by omega) b
 have hcl:c <=l.length:=by rw [hc];exact ZaR
 rw [<- hc]
 have key:∀ d F i j:Nat,d < F ->j - i <=d ->i <=c ->c <=j ->j <=l.length ->loop F (Ze7 l k) ((i:Int),(j:Int))=some ((c:Int),false):=by
  intro d
  induction d with
  | zero=>
    intro F i j hF hd hi hj hjl;have:i=c:=by omega
    subst this;have:j=i:=by omega
    subst this;cases F with
    | zero=>omega
    | succ F=>
      rw [Jd];unfold Ze7;dsimp only;rw [Xk,Cq0,ZJw];by_cases hlt:j < l.length
      ·rw [decide_eq_true hlt,Qi 0 hlt];have:l.getD j 0 ≠ k:=fun e=>hk (by rw [<- e];exact QO hlt)
       rw [Qn];simp only [Bq0];rw [Xl,decide_eq_false this];simp [gd,Zli,Qi 0 hlt]
      ·rw [decide_eq_false hlt];simp [gd]
  | succ d ih=>
    intro F i j hF hd hi hj hjl;by_cases hij:i < j
    ·cases F with
     | zero=>omega
     | succ F=>
       rw [Jd];unfold Ze7;dsimp only;have e1:Yd ((i:Int) + (j:Int))= ((i + j:Nat):Int):=by rw [Zbn (by omega) (by omega)];omega
       have e2:IntKind.wrap .u64 (((i + j:Nat):Int))= ((i + j:Nat):Int):=by
        show(((i + j:Nat):Int)) % 18446744073709551616=_;omega
       have e3:Yd ((((i + j:Nat):Int)) / 2)= (((i + j) / 2:Nat):Int):=by rw [Zbn (by omega) (by omega)];omega
       obtain⟨m,hm⟩:∃ m,m= (i + j) / 2:= ⟨_,rfl⟩
       rw [YF hij,Cq1,e1,e2,e3,<- hm,Qi 0 (by omega)];simp only [Bq0];rw [ZDY];simp only [Bq0];by_cases hx:l.getD m 0 < k
       ·rw [decide_eq_true hx,Cq1,Qe (by omega)];have:m < c:=Classical.byContradiction fun z=>by have:=h2 m (by omega) (by omega);omega
        exact ih F (m + 1) j (by omega) (by omega) (by omega) hj hjl
       ·rw [decide_eq_false hx,Cq0];have:c <=m:=Classical.byContradiction fun z=>by have:=h1 m (by omega);omega
        exact ih F i m (by omega) (by omega) hi this (by omega)
    ·exact ih F i j (by omega) (by omega) hi hj hjl
 have:=key l.length F 0 l.length (by omega) (by omega) (Nat.zero_le _) hcl (Nat.le_refl _);exact this
theorem insert_eq {l:List Int} {k:Int} (hl:l.length <=500):ZpM l ((l.takeWhile fun x=>decide (x < k)).length:Int) [k]=some (ins k l):=by
 unfold ZpM;have:=ZaR (l:=l) (k:=k);rw [Nm0 (by omega),decide_eq_true (show(0:Int) <= ((l.takeWhile fun x=>decide (x < k)).length:Int) by omega),decide_eq_true (show((l.takeWhile fun x=>decide (x < k)).length:Int) <= (l.length:Int) by omega)];show some _=_;rw [Int.toNat_natCast,Zy5,List.append_assoc];rfl
theorem ZdQ {β:Type} {F n:Nat} {f:Nat ->Int} {l:List Int} {r:Option β} (hF:n < F) (hn:n <=1000) (hl:l.length=n) {body:Int×List Int ->(Int×List Int ->Option β) ->Option β}
 (hb:∀ v8 (k:Nat),k < n ->∀ next,body ((k:Int),v8) next= (ZL l (k:Int)).bind fun x=>(ZL v8 (k:Int)).bind fun y=>(ZL v8 (k:Int)).bind fun z=>next (Yd ((k:Int) + 1),ZE v8 (k:Int) (if x > y then x else y)))
 (he:∀ next,body ((n:Int),tab n (mx f l)) next=r):loop F body (0,tab n f)=r:=by
 refine Xz (fun k=>((k:Int),tab n fun i=>if i < k then mx f l i else f i)) (by simp) hF (fun k hk next=>?_) (fun next=>?_)
 ·rw [hb _ _ hk,Qi 0 (by rw [hl];exact hk)];simp only [Bq0];rw [Z4 hk];simp only [Bq0];rw [if_neg (Nat.lt_irrefl _),XD,Qe (by omega)];congr 2;refine Ww fun i hi=>?_
  unfold YE;by_cases e:i=k
  ·subst e;rw [if_pos rfl,if_pos (Nat.lt_succ_self _)];rfl
  ·rw [if_neg e];show(if i < k then mx f l i else f i)=_;by_cases h:i < k
   ·rw [if_pos h,if_pos (by omega)]
   ·rw [if_neg h,if_neg (by omega)]
 ·have:(tab n fun i=>if i < n then mx f l i else f i)=tab n (mx f l):=Ww fun i hi=>by rw [if_pos hi]
  show body ((n:Int),tab n fun i=>if i < n then mx f l i else f i) next=r;rw [this];exact he next
section
variable {F n:Nat} {f:Nat ->Int} {l:List Int}
theorem Zvc (hF:1000 <=F) (hn:n <=500) (hl:l.length=n):Zi3 F (tab n f) l=some (tab n (mx f l),l):=by
 unfold Zi3;refine ZdQ (by omega) (by omega) hl (fun v8 k hk next=>?_) (fun next=>?_)
 ·unfold Zhp;dsimp only;rw [hl,YF hk,Cq1]
 ·unfold Zhp;dsimp only;rw [hl,Xk,Cq0]
theorem ZrA (hF:1000 <=F) (hn:n <=500) (hl:l.length=n):Zd2 F (tab n f) l=some (tab n (mx f l)):=by
 unfold Zd2;refine ZdQ (by omega) (by omega) hl (fun v8 k hk next=>?_) (fun next=>?_)
 ·unfold Ze8;dsimp only;rw [hl,YF hk,Cq1]
 ·unfold Ze8;dsimp only;rw [hl,Xk,Cq0]
theorem Ze1 (hF:1000 <=F) (hn:n <=500) (hl:l.length=n):Zlj F [tab n f,l]=some (tab n (mx f l)):=by
 unfold Zlj ZgG;have e0:ZL [tab n f,l] 0=some (tab n f):=rfl;rw [e0];simp only [Bq0];rw [ZnH (by rw [Xy];simp;omega)];simp only [Bq0,List.nil_append];have e1:slL [tab n f,l] 1 (([tab n f,l].length:Nat):Int)=some [l]:=rfl;rw [e1];simp only [Bq0];refine Xz (fun k=>((k:Int),if k=0 then tab n f else tab n (mx f l))) rfl (n:=1) (by omega) (fun k hk next=>?_) (fun next=>?_)
 ·have:k=0:=by omega
  subst this;unfold Zho;dsimp only;rw [show decide (((0:Nat):Int) < (([l].length:Nat):Int))=true from rfl,Cq1,show ZL [l] ((0:Nat):Int)=some l from rfl];simp only [Bq0];refine ZdQ (by omega) (by omega) hl (fun v8 k hk next=>?_) (fun next'=>?_)
  ·unfold Zhn;dsimp only;rw [hl,YF hk,Cq1]
  ·unfold Zhn;dsimp only;rw [hl,Xk,Cq0];rfl
 ·unfold Zho;dsimp only;rw [show decide (((1:Nat):Int) < (([l].length:Nat):Int))=false from rfl,Cq0];rfl
end
end
section
def QX (n:Nat) (f:Nat ->Nat):Nat:= ((List.range n).map f).sum
section
variable {n k:Nat} {f g:Nat ->Nat}
theorem Zc6:QX (n + 1) f=QX n f + f n:=by simp [QX,List.range_succ]
theorem Zbq (h:∀ k,k < n ->f k=g k):QX n f=QX n g:=by
 unfold QX;rw [List.map_congr_left fun k hk=>h k (List.mem_range.1 hk)]
theorem J4 (h:k < n):f k <=QX n f:=by
 induction n with
 | zero=>omega
 | succ n ih=>
   rw [Zc6];by_cases e:k=n
   ·subst e;omega
   ·have:=ih (by omega);omega
theorem ZxB {v:Nat} (h:k < n):QX n (YE f k v) + f k=QX n f + v:=by
 induction n with
 | zero=>omega
 | succ n ih=>
   rw [Zc6,Zc6];by_cases e:k=n
   ·subst e;rw [Ye,Zbq (f:=YE f k v) (g:=f) fun j hj=>Xg (by omega)];omega
   ·have:=ih (by omega);rw [Xg (by omega)];omega
theorem Zcg (h:k < n) (hg:∀ j,j < n ->j ≠ k ->g j=f j):QX n g + f k=QX n f + g k:=by
 rw [Zbq (f:=g) (g:=YE f k (g k)) fun j hj=>by
  by_cases e:j=k
  ·subst e;rw [Ye]
  ·rw [Xg e,hg j hj e]]
 exact ZxB h
theorem ZhV (n c:Nat):QX n (fun _=>c)=n * c:=by
 induction n with
 | zero=>simp [QX]
 | succ n ih=>rw [Zc6,ih,Nat.succ_mul]
end
def ew (x:Zd):Nat:=if x.kW=1 then 1 else if x.kW=2 then 2 else if x.kW=5 then 1 else 0
def sw (x:Int):Nat:=if x=1 then 11 else if x=3 then 0 else 2
def fl (σ:TS) (i:Nat):List Zd:= (σ.sn i).drop (σ.ld i)
def lw (σ:TS) (i:Nat):Nat:= (σ.sn i).length + ((fl σ i).map ew).sum
def Pot (s:Zc) (σ:TS):Nat:=σ.ev.length + QX (mm s * mm s) (lw σ) + QX (mm s) (fun m=>(σ.be m).length) + QX (nn s) (fun q=>2 * (σ.wa q).length) + QX (nn s) (fun p=>sw (σ.st p))
structure Wf (s:Zc) (B:Nat) (σ:TS):Prop where
 pot:Pot s σ <=B
 ld:∀ i,i < mm s * mm s ->σ.ld i <= (σ.sn i).length
 ws:∀ q,q < nn s ->∀ x ∈ σ.wa q,∃ k:Nat,x= (k:Int)/\k < nn s
section
variable {s:Zc} {σ:TS} {B a b p q m:Nat}
theorem Wf.few (h:Wf s B σ) (hB:B <=800000):Few s 800000 σ:=by
 have hp:=h.pot;unfold Pot at hp;refine⟨by omega,fun i hi=>?_,fun m hm=>?_,fun q hq=>?_,h.ld,h.ws⟩
 ·have:=J4 (f:=lw σ) hi;unfold lw at this;unfold lw at hp;omega
 ·have:=J4 (f:=fun m=>(σ.be m).length) hm;omega
 ·have:=J4 (f:=fun q=>2 * (σ.wa q).length) hq;omega
theorem Zyx (d p q n:Int):Pot s (tell d p q n σ)=Pot s σ + 1:=by
 show(σ.ev ++ [_]).length + QX (mm s * mm s) (lw σ) + QX (mm s) (fun m=>(σ.be m).length) + QX (nn s) (fun q=>2 * (σ.wa q).length) + QX (nn s) (fun p=>sw (σ.st p))=_;rw [List.length_append,List.length_singleton];unfold Pot;omega
theorem ZEU (hl:σ.ld (li s a b) <= (σ.sn (li s a b)).length) (x:Zd):fl (send s a b x σ) (li s a b)=fl σ (li s a b) ++ [x]:=by
 show(YE σ.sn (li s a b) _ (li s a b)).drop (σ.ld (li s a b))=_;rw [Ye,List.drop_append_of_le_length hl];rfl
theorem Zsa {i:Nat} (hi:i ≠ li s a b) (x:Zd):fl (send s a b x σ) i=fl σ i:=by
 show(YE σ.sn (li s a b) _ i).drop (σ.ld i)=_;rw [Xg hi];rfl
theorem Zel (x:Zd):(send s a b x σ).sn (li s a b)=σ.sn (li s a b) ++ [x]:=Ye _ _ _
theorem Wx {i:Nat} (hi:i ≠ li s a b) (x:Zd):(send s a b x σ).sn i=σ.sn i:=Xg hi
theorem Zyy (ha:a < mm s) (hb:b < mm s) (hl:∀ i,i < mm s * mm s ->σ.ld i <= (σ.sn i).length) (x:Zd):Pot s (send s a b x σ)=Pot s σ + 1 + ew x:=by
 have hi:=KD ha hb;have h:=Zcg (f:=lw σ) (g:=lw (send s a b x σ)) hi fun j _ hj=>by unfold lw;rw [Wx hj,Zsa hj]
 have e:lw (send s a b x σ) (li s a b)=lw σ (li s a b) + 1 + ew x:=by
  unfold lw;rw [Zel,ZEU (hl _ hi),List.length_append,List.map_append,List.sum_append];simp;omega
 show σ.ev.length + QX (mm s * mm s) (lw (send s a b x σ)) + QX (mm s) (fun m=>(σ.be m).length) + QX (nn s) (fun q=>2 * (σ.wa q).length) + QX (nn s) (fun p=>sw (σ.st p))=_;unfold Pot;omega
theorem Zl0 (hm:m < mm s) (l:List Zd):Pot s {σ with be:=YE σ.be m l} + (σ.be m).length=Pot s σ + l.length:=by
 have h:=Zcg (f:=fun m=>(σ.be m).length) (g:=fun j=>(YE σ.be m l j).length) hm fun j _ hj=>by rw [Xg hj]
 rw [Ye] at h;show σ.ev.length + QX (mm s * mm s) (lw σ) + QX (mm s) (fun j=>(YE σ.be m l j).length) + QX (nn s) (fun q=>2 * (σ.wa q).length) + QX (nn s) (fun p=>sw (σ.st p)) + _=_;unfold Pot;omega
theorem Zyw (hm:m < mm s) (x:Zd):Pot s (wait m x σ)=Pot s σ + 1:=by
 have:=Zl0 (σ:=σ) hm (σ.be m ++ [x]);rw [List.length_append,List.length_singleton] at this;unfold wait;omega
theorem ZJo (hq:q < nn s) (l:List Int):Pot s {σ with wa:=YE σ.wa q l} + 2 * (σ.wa q).length=Pot s σ + 2 * l.length:=by
 have h:=Zcg (f:=fun q=>2 * (σ.wa q).length) (g:=fun j=>2 * (YE σ.wa q l j).length) hq fun j _ hj=>by rw [Xg hj]
 rw [Ye] at h;show σ.ev.length + QX (mm s * mm s) (lw σ) + QX (mm s) (fun m=>(σ.be m).length) + QX (nn s) (fun j=>2 * (YE σ.wa q l j).length) + QX (nn s) (fun p=>sw (σ.st p)) + _=_;unfold Pot;omega
theorem ZJp (hp:p < nn s) (v:Int):Pot s {σ with st:=YE σ.st p v} + sw (σ.st p)=Pot s σ + sw v:=by
 have h:=Zcg (f:=fun p=>sw (σ.st p)) (g:=fun j=>sw (YE σ.st p v j)) hp fun j _ hj=>by rw [Xg hj]
 rw [Ye] at h;show σ.ev.length + QX (mm s * mm s) (lw σ) + QX (mm s) (fun m=>(σ.be m).length) + QX (nn s) (fun q=>2 * (σ.wa q).length) + QX (nn s) (fun j=>sw (YE σ.st p v j)) + _=_;unfold Pot;omega
theorem ZFd (p q n:Int) (l:List Int):ew ⟨5,p,q,n,l⟩=1:=rfl
theorem Wf.tell (h:Wf s B σ) (d p q n:Int):Wf s (B + 1) (tell d p q n σ):= ⟨by rw [Zyx];have:=h.pot;omega,h.ld,h.ws⟩
theorem Wf.send (h:Wf s B σ) (ha:a < mm s) (hb:b < mm s) (x:Zd):Wf s (B + 1 + ew x) (send s a b x σ):=by
 refine⟨by rw [Zyy ha hb h.ld];have:=h.pot;omega,fun i hi=>?_,h.ws⟩;show σ.ld i <=_;by_cases e:i=li s a b
 ·subst e;rw [Zel,List.length_append];have:=h.ld _ hi;omega
 ·rw [Wx e];exact h.ld i hi
theorem Wf.wait (h:Wf s B σ) (hm:m < mm s) (x:Zd):Wf s (B + 1) (wait m x σ):= ⟨by rw [Zyw hm];have:=h.pot;omega,h.ld,h.ws⟩
theorem Wf.up (h:Wf s B σ) {B':Nat} (hb:B <=B'):Wf s B' σ:= ⟨Nat.le_trans h.pot hb,h.ld,h.ws⟩
theorem Wf.JG (hS:QJ s) (h:Wf s B σ) (hp:p < nn s) (hq:q < nn s):Wf s (B + 2) (JG s p q σ):=by
 unfold Proofs.YtcnahmgekicbdaaGreat.JG;by_cases e:pl s p=pl s q
 ·rw [if_pos e];exact(h.wait (hS.pl hp).2 _).up (by omega)
 ·rw [if_neg e];exact(h.send (hS.pl hq).2 (hS.pl hp).2 _).up (by rw [ZFd];omega)
theorem Wf.wa (h:Wf s B σ) (hq:q < nn s) {l:List Int} (hl:∀ x ∈ l,∃ k:Nat,x= (k:Int)/\k < nn s) {B':Nat} (hB:B + 2 * l.length <=B' + 2 * (σ.wa q).length):Wf s B' {σ with wa:=YE σ.wa q l}:=by
 refine⟨?_,h.ld,fun j hj x hx=>?_⟩
 ·have:=ZJo (σ:=σ) hq l;have:=h.pot;omega
 ·have hx:x ∈ YE σ.wa q l j:=hx;by_cases e:j=q
  ·subst e;rw [Ye] at hx;exact hl x hx
  ·rw [Xg e] at hx;exact h.ws j hj x hx
theorem Wf.st (h:Wf s B σ) (hp:p < nn s) (v:Int) {B':Nat} (hB:B + sw v <=B' + sw (σ.st p)):Wf s B' {σ with st:=YE σ.st p v}:=
 ⟨by have:=ZJp (σ:=σ) hp v;have:=h.pot;omega,h.ld,h.ws⟩
theorem Wf.note (hS:QJ s) (h:Wf s B σ) (hp:p < nn s) (hq:q < nn s):Wf s (B + 2) (note s p q σ):=by
 unfold Proofs.YtcnahmgekicbdaaGreat.note;by_cases e:σ.st q=3
 ·rw [if_pos e];exact h.JG hS hp hq
 ·rw [if_neg e]
  exact h.wa hq (fun x hx=>by
   rcases List.mem_append.1 hx with hx | hx
   ·exact h.ws q hq x hx
   ·rw [List.mem_singleton.1 hx];exact⟨p,rfl,hp⟩) (by rw [List.length_append,List.length_singleton];omega)
theorem Wf.see (h:Wf s B σ) (p q:Nat) (n:Int):Wf s (B + 1) (see p q n σ):=by
 unfold Proofs.YtcnahmgekicbdaaGreat.see;by_cases e:σ.st p=1
 ·rw [if_pos e];exact h.tell _ _ _ _
 ·rw [if_neg e];exact h.up (by omega)
end
end
section
structure Kn (s:Zc) (σ:TS):Prop where
 srt:∀ q,q < nn s ->(σ.kn q).Pairwise (· < ·)
 rng:∀ q,q < nn s ->∀ x ∈ σ.kn q,∃ k:Nat,x= (k:Int)/\k < nn s/\inn s (k:Int)= (q:Int)/\σ.st k=3
noncomputable section
variable (s:Zc)
def ZgT (σ:TS) (p K:Nat) (i:Nat):Int:=if i / mm s=pl s p/\i % mm s < K/\i % mm s ≠ pl s p then((σ.sn i).length:Int) else σ.ma p i
def Kz (p:Nat) (σ:TS):TS:= {σ with st:=YE σ.st p 3,ev:=σ.ev ++ [⟨6,(p:Int),0,0⟩],wa:=YE σ.wa p []}
def Zr (p:Nat) (l:List Int) (σ:TS):TS:=l.foldl (fun σ x=>JG s x.toNat p σ) σ
def ZTp (p:Nat) (σ:TS):TS:= {σ with ma:=YE σ.ma p (ZgT s σ p (mm s))}
def Qc (p:Nat) (σ:TS):TS:=ZTp s p (Zr s p (σ.wa p) (Kz p σ))
def YK (k:Nat) (l:List Int) (σ:TS):TS:= {σ with kn:=YE σ.kn (inn s (k:Int)).toNat (ins (k:Int) (σ.kn (inn s (k:Int)).toNat)),ma:=YE σ.ma (inn s (k:Int)).toNat (mx (σ.ma (inn s (k:Int)).toNat) l)}
def Kt (die:Nat ->TS ->TS) (k:Nat) (l:List Int) (σ:TS):TS:=
 ifc ((YK s k l σ).st (inn s (k:Int)).toNat=2/\Alo s (YK s k l σ) (inn s (k:Int)).toNat) (die (inn s (k:Int)).toNat (YK s k l σ)) (YK s k l σ)
def Znl (die:Nat ->TS ->TS) (p:Nat) (σ:TS):TS:=
 if inn s (p:Int) < 0 then σ
 else if pl s (inn s (p:Int)).toNat=pl s p then Kt s die p (Ke s σ p) σ
 else send s (pl s p) (pl s (inn s (p:Int)).toNat) ⟨4,(p:Int),0,0,Ke s σ p⟩ σ
def Zi8:Nat ->Nat ->TS ->TS
 | 0,_,σ=>σ
 | d + 1,p,σ=>Znl s (Zi8 d) p (Qc s p σ)
end
section
variable {s:Zc} {σ:TS} {F B p q:Nat}
theorem Zpq:Z6.mk (Ze.mk (tab (nn s) σ.st) (tab (nn s) fun p=>tab (mm s * mm s) (σ.ma p)) (tab (nn s) σ.kn) (tab (nn s) σ.wa) (tab (mm s) σ.be) (tab (mm s * mm s) (Jq σ)) σ.sd) (Zc.mk s.qG s.Zh) σ.ev=hal s σ:=rfl
theorem Zpx:Z5.mk (Zc.mk s.qG s.Zh) (Ze.mk (tab (nn s) σ.st) (tab (nn s) fun p=>tab (mm s * mm s) (σ.ma p)) (tab (nn s) σ.kn) (tab (nn s) σ.wa) (tab (mm s) σ.be) (tab (mm s * mm s) (Jq σ)) σ.sd) σ.ev=XY s σ:=rfl
theorem Znu (p q:Nat) (σ:TS):(JG s p q σ).st=σ.st/\(JG s p q σ).kn=σ.kn/\(JG s p q σ).ma=σ.ma/\(JG s p q σ).ld=σ.ld/\(JG s p q σ).sd=σ.sd/\(JG s p q σ).ev=σ.ev/\(JG s p q σ).wa=σ.wa:=by
 unfold JG;split <;> exact⟨rfl,rfl,rfl,rfl,rfl,rfl,rfl⟩
theorem Zqq (p:Nat):∀ (l:List Int) (σ:TS),(Zr s p l σ).st=σ.st/\(Zr s p l σ).kn=σ.kn/\(Zr s p l σ).ma=σ.ma/\(Zr s p l σ).ld=σ.ld/\(Zr s p l σ).sd=σ.sd/\(Zr s p l σ).ev=σ.ev/\(Zr s p l σ).wa=σ.wa:=by
 intro l
 induction l with
 | nil=>intro σ;exact⟨rfl,rfl,rfl,rfl,rfl,rfl,rfl⟩
 | cons x l ih=>
   intro σ;have h1:=ih (JG s x.toNat p σ);have h2:=Znu (s:=s) x.toNat p σ;have e:Zr s p (x::l) σ=Zr s p l (JG s x.toNat p σ):=rfl;rw [e];exact⟨h1.1.trans h2.1,h1.2.1.trans h2.2.1,h1.2.2.1.trans h2.2.2.1,h1.2.2.2.1.trans h2.2.2.2.1,h1.2.2.2.2.1.trans h2.2.2.2.2.1,h1.2.2.2.2.2.1.trans h2.2.2.2.2.2.1,h1.2.2.2.2.2.2.trans h2.2.2.2.2.2.2⟩
theorem Zjg (p k:Nat) (l:List Int) (hk:k < l.length) (σ:TS):Zr s p (l.take (k + 1)) σ=JG s (l.getD k 0).toNat p (Zr s p (l.take k) σ):=by
 unfold Zr;rw [List.take_succ_eq_append_getElem hk,List.foldl_append,Kh hk];rfl
theorem Zcf (hS:QJ s) (hp:p < nn s):∀ (l:List Int) (B:Nat) (σ:TS),Wf s B σ ->(∀ x ∈ l,∃ k:Nat,x= (k:Int)/\k < nn s) ->Wf s (B + 2 * l.length) (Zr s p l σ):=by
 intro l
 induction l with
 | nil=>intro B σ h _;exact h
 | cons x l ih=>
   intro B σ h hx;obtain⟨k,e,hk⟩:=hx x (by simp);have h1:=ih (B + 2) (JG s x.toNat p σ) (by rw [e,Int.toNat_natCast];exact h.JG hS hk hp) (fun y hy=>hx y (by simp [hy]));exact h1.up (by rw [List.length_cons];omega)
theorem ZxA {x:Int} (h:x ≠ 3):2 <=sw x:=by
 unfold sw;by_cases e:x=1
 ·rw [if_pos e];omega
 ·rw [if_neg e,if_neg h];omega
theorem Zg6 (h:Wf s B σ) (hp:p < nn s) (h3:σ.st p ≠ 3):2 <=B/\Wf s (B - 1 - 2 * (σ.wa p).length) (Kz p σ)/\2 * (σ.wa p).length + 2 <=B:=by
 have h2:=ZxA h3
 have Z8j:2 + 2 * (σ.wa p).length <=Pot s σ:=by
  have a1:=J4 (f:=fun p=>sw (σ.st p)) hp;have a2:=J4 (f:=fun q=>2 * (σ.wa q).length) hp;unfold Pot;omega
 have hb:=h.pot;have w1:=h.st hp (3:Int) (B':=B - 2) (by rw [show sw (3:Int)=0 from rfl];omega);have w2:=w1.tell 6 (p:Int) 0 0
 have w3:=w2.wa (l:= []) hp (by simp) (B':=B - 1 - 2 * (σ.wa p).length) (by
  show _ <=_ + 2 * (σ.wa p).length;simp;omega)
 exact⟨by omega,w3,by omega⟩
theorem Wf.ma (h:Wf s B σ) (f:Nat ->Nat ->Int):Wf s B {σ with ma:=f}:= ⟨h.pot,h.ld,h.ws⟩
theorem W9 {k:Nat} {l:List Int} (h:Wf s B σ):Wf s B (YK s k l σ):= ⟨h.pot,h.ld,h.ws⟩
theorem ZlL (hS:QJ s) (h:Wf s B σ) (hp:p < nn s) (h3:σ.st p ≠ 3):Wf s (B - 1) (Qc s p σ):=by
 obtain⟨h1,h2,h4⟩:=Zg6 h hp h3;have:=Zcf hS hp (σ.wa p) _ _ h2 (h.ws p hp);exact(this.up (by omega)).ma _
theorem KO (p:Nat) (σ:TS):(Qc s p σ).st=YE σ.st p 3/\(Qc s p σ).kn=σ.kn/\(Qc s p σ).ld=σ.ld/\(Qc s p σ).sd=σ.sd/\(Qc s p σ).ev=σ.ev ++ [⟨6,(p:Int),0,0⟩]/\(Qc s p σ).wa=YE σ.wa p []:=by
 have h:=Zqq (s:=s) p (σ.wa p) (Kz p σ);exact⟨h.1,h.2.1,h.2.2.2.1,h.2.2.2.2.1,h.2.2.2.2.2.1,h.2.2.2.2.2.2⟩
theorem Zl8 (h:Kn s σ) (p:Nat):Kn s (Qc s p σ):=by
 have e:=KO (s:=s) p σ;refine⟨fun q hq=>by rw [e.2.1];exact h.srt q hq,fun q hq x hx=>?_⟩;rw [e.2.1] at hx;obtain⟨k,h1,h2,h3,h4⟩:=h.rng q hq x hx;refine⟨k,h1,h2,h3,?_⟩;rw [e.1];by_cases z:k=p
 ·subst z;exact Ye _ _ _
 ·rw [Xg z];exact h4
theorem Kn.len (hS:QJ s) (h:Kn s σ) (hq:q < nn s):(σ.kn q).length <=8:=by
 have:=ZFK (σ.kn q) 0 (nn s) (h.srt q hq) fun x hx=>by
  obtain⟨k,e,hk,_⟩:=h.rng q hq x hx;omega
 have h8:=hS.p2;unfold nn at this;omega
theorem Jh (hS:QJ s) (hp:p < nn s) (h0:¬ inn s (p:Int) < 0):inn s (p:Int)= ((inn s (p:Int)).toNat:Int)/\(inn s (p:Int)).toNat < nn s:=by
 obtain⟨k,e,hk⟩:=ZbB (hS.inn.rng p hp) h0;rw [e,Int.toNat_natCast];exact⟨rfl,hk⟩
theorem JV (hS:QJ s) (h:Kn s σ) (hp:p < nn s) (h0:¬ inn s (p:Int) < 0) (h3:σ.st p=3) (hn:(p:Int) ∉ σ.kn (inn s (p:Int)).toNat) (l:List Int):Kn s (YK s p l σ):=by
 obtain⟨e,hq⟩:=Jh hS hp h0;refine⟨fun q hq'=>?_,fun q hq' x hx=>?_⟩
 ·show(YE σ.kn _ _ q).Pairwise _;by_cases z:q= (inn s (p:Int)).toNat
  ·subst z;rw [Ye];exact ZrG (h.srt _ hq) hn
  ·rw [Xg z];exact h.srt q hq'
 ·have hx:x ∈ YE σ.kn _ _ q:=hx;by_cases z:q= (inn s (p:Int)).toNat
  ·subst z;rw [Ye] at hx;rcases Zar.1 hx with w | w
   ·exact⟨p,w,hp,e,h3⟩
   ·exact h.rng _ hq x w
  ·rw [Xg z] at hx;exact h.rng q hq' x hx
theorem Zaq {M a b i:Nat} (hb:b < M):i=a * M + b↔i / M=a/\i % M=b:=by
 have hM:0 < M:=by omega
 constructor
 ·intro e;subst e;have e1:(a * M + b) / M=a:=by rw [Nat.mul_comm,Nat.mul_add_div hM,Nat.div_eq_of_lt hb,Nat.add_zero]
  exact⟨e1,by rw [Nat.mul_comm,Nat.mul_add_mod,Nat.mod_eq_of_lt hb]⟩
 ·rintro⟨h1,h2⟩;have:=Nat.div_add_mod i M;rw [h1,h2,Nat.mul_comm] at this;exact this.symm
theorem Zu9 (σ:TS) (p i:Nat):ZgT s σ p 0 i=σ.ma p i:=by unfold ZgT;rw [if_neg];rintro⟨_,h,_⟩;omega
theorem Zva {k:Nat} (hk:k < mm s) (hne:k ≠ pl s p) (i:Nat):ZgT s σ p (k + 1) i=YE (ZgT s σ p k) (li s (pl s p) k) ((σ.sn (li s (pl s p) k)).length:Int) i:=by
 unfold YE;by_cases e:i=li s (pl s p) k
 ·rw [if_pos e];obtain⟨e1,e2⟩:= (Zaq hk).1 e;unfold ZgT;rw [if_pos ⟨e1,by omega,by omega⟩,e]
 ·rw [if_neg e];unfold ZgT;by_cases c:i / mm s=pl s p/\i % mm s < k/\i % mm s ≠ pl s p
  ·rw [if_pos c,if_pos ⟨c.1,by omega,c.2.2⟩]
  ·rw [if_neg c,if_neg];rintro⟨c1,c2,c3⟩;refine c ⟨c1,?_,c3⟩;have:i % mm s ≠ k:=fun z=>e ((Zaq hk).2 ⟨c1,z⟩)
   omega
theorem Zvb {k:Nat} (hne:k=pl s p) (i:Nat):ZgT s σ p (k + 1) i=ZgT s σ p k i:=by
 unfold ZgT;by_cases c:i / mm s=pl s p/\i % mm s < k/\i % mm s ≠ pl s p
 ·rw [if_pos c,if_pos ⟨c.1,by omega,c.2.2⟩]
 ·rw [if_neg c,if_neg];rintro⟨c1,c2,c3⟩;exact c ⟨c1,by omega,c3⟩
def Uh (s:Zc) (f:Nat ->Nat ->Int):List (List Int):=tab (nn s) fun j=>tab (mm s * mm s) (f j)
theorem Za1 {f:Nat ->Nat ->Int} (hp:p < nn s):ZL (Uh s f) (p:Int)=some (tab (mm s * mm s) (f p)):=Z4 hp
theorem KV {f:Nat ->Nat ->Int} {g:Nat ->Int}:ZE (Uh s f) (p:Int) (tab (mm s * mm s) g)=Uh s (YE f p g):=by
 unfold Uh;rw [XD];refine Ww fun j _=>?_
 by_cases e:j=p
 ·subst e;rw [Ye,Ye]
 ·rw [Xg e,Xg e]
theorem ZbG {f g:Nat ->Nat ->Int} (h:∀ j,j < nn s ->∀ i,i < mm s * mm s ->f j i=g j i):Uh s f=Uh s g:=Ww fun j hj=>Ww fun i hi=>h j hj i hi
theorem Zok (h:Wf s B σ) (hB:B <=800000) {i:Nat} (hi:i < mm s * mm s):Yd ((Jq σ i).Zt + ((Jq σ i).kG.length:Int))= ((σ.sn i).length:Int):=by
 have h1:=h.ld i hi;have h2:= (h.few hB).sn i hi;show Yd ((σ.ld i:Int) + (((σ.sn i).drop (σ.ld i)).length:Int))=_;rw [List.length_drop,Zbn (by omega) (by omega)];omega
theorem Zik {β:Type} (hF:1000 <=F) (hS:QJ s) (h:Wf s B σ) (hB:B <=800000) (hp:p < nn s) {r:Option β} {body:Int×List (List Int) ->(Int×List (List Int) ->Option β) ->Option β}
 (hb:∀ (v:List (List Int)) (k:Nat),k < mm s ->∀ next,body ((k:Int),v) next=bif((k:Int) != (pl s p:Int)) then((ZL v (p:Int)).bind fun x=>(ZL x (Yd (Yd ((pl s p:Int) * s.qG) + (k:Int)))).bind fun _=>next (Yd ((k:Int) + 1),ZE v (p:Int) (ZE x (Yd (Yd ((pl s p:Int) * s.qG) + (k:Int))) ((σ.sn (li s (pl s p) k)).length:Int)))) else next (Yd ((k:Int) + 1),v))
 (he:∀ next,body ((mm s:Int),Uh s (ZTp s p σ).ma) next=r):loop F body (0,Uh s σ.ma)=r:=by
 obtain⟨_,_,h4⟩:=hS.mm;have hpl:= (hS.pl hp).2
 refine Xz (fun k=>((k:Int),Uh s (YE σ.ma p (ZgT s σ p k)))) (by
  have:Uh s (YE σ.ma p (ZgT s σ p 0))=Uh s σ.ma:=ZbG fun j _ i _=>by
   by_cases e:j=p
   ·subst e;rw [Ye,Zu9]
   ·rw [Xg e]
  rw [this];rfl) (n:=mm s) (by omega) (fun k hk next=>?_) (fun next=>?_)
 ·rw [hb _ _ hk]
  have e1:(((k:Int)) != ((pl s p:Int)))=decide (k ≠ pl s p):=by
   rw [KP];by_cases z:k=pl s p
   ·subst z;simp
   ·rw [decide_eq_true z,decide_eq_true (by omega)]
  rw [e1];by_cases z:k ≠ pl s p
  ·rw [decide_eq_true z,Cq1,Za1 hp,Ye];simp only [Bq0];rw [Ut hS hpl hk,Z4 (KD hpl hk)];simp only [Bq0];rw [XD,KV,Qe (by omega)];congr 2;refine ZbG fun j _ i hi=>?_
   by_cases e:j=p
   ·subst e;rw [Ye,Ye,Zva hk z]
   ·rw [Xg e,Xg e,Xg e]
  ·have z:=Classical.not_not.1 z;rw [decide_eq_false (by simpa using z),Cq0,Qe (by omega)];congr 2;refine ZbG fun j _ i hi=>?_
   by_cases e:j=p
   ·subst e;rw [Ye,Ye,Zvb z]
   ·rw [Xg e,Xg e]
 ·exact he next
end
end
section
section
variable {s:Zc} {σ:TS} {F B p q:Nat} {die:Nat ->TS ->TS}
theorem ZDV (p:Nat):(Ke s σ p).length=mm s * mm s:=Xy
theorem ZdB (hS:QJ s):mm s * mm s <=16:=Nat.mul_le_mul hS.mm.2.2 hS.mm.2.2
theorem ZeS (hS:QJ s):decide (((mm s:Nat):Int) < s.qG)=false:=by rw [hS.mm.1];exact Xk _
theorem Za2 (hS:QJ s) {k:Nat} (hk:k < mm s):decide ((k:Int) < s.qG)=true:=by rw [hS.mm.1];exact YF hk
theorem ZuI (hF:100000 <=F) (hS:QJ s) (hp:p < nn s) (hw:Wf s B σ) (hB:B <=700000) (hk:Kn s σ) (h3:σ.st p=3) (hn:¬ inn s (p:Int) < 0 ->(p:Int) ∉ σ.kn (inn s (p:Int)).toNat) (Qb:Z6×Int ->Option Z6) (nx:Int×List (List Int) ->Option Z6)
 (hx:¬ inn s (p:Int) < 0 ->(YK s p (Ke s σ p) σ).st (inn s (p:Int)).toNat=2 ->Qb (hal s (YK s p (Ke s σ p) σ),((inn s (p:Int)).toNat:Int))=some (hal s (die (inn s (p:Int)).toNat (YK s p (Ke s σ p) σ)))):
 ZiH F (p:Int) Qb (tab (nn s) σ.st) (tab (nn s) σ.kn) (tab (nn s) σ.wa) (tab (mm s) σ.be) (tab (mm s * mm s) (Jq σ)) σ.sd s.qG s.Zh σ.ev (pl s p:Int) ((mm s:Int),Uh s σ.ma) nx=some (hal s (Znl s die p σ)):=by
 have h16:=ZdB hS;unfold ZiH;dsimp only;rw [ZeS hS,Cq0,X5 hp];simp only [Bq0];rw [QE];unfold Znl;by_cases h0:inn s (p:Int) < 0
 ·rw [decide_eq_true h0,Cq1,if_pos h0];rfl
 ·rw [decide_eq_false h0,Cq0,if_neg h0];obtain⟨eq,hq⟩:=Jh hS hp h0;have hn:=hn h0;have hx:=hx h0;obtain⟨q,hqe⟩:∃ q,q= (inn s (p:Int)).toNat:= ⟨_,rfl⟩
  rw [<- hqe] at eq hq hn hx |-;rw [eq,show Uh s σ.ma=tab (nn s) fun p=>tab (mm s * mm s) (σ.ma p) from rfl,Zpq,Wo hS hq];simp only [Bq0];rw [Wm,Z4 hp];simp only [Bq0];by_cases e:pl s q=pl s p
  ·rw [decide_eq_true e,Cq1,if_pos e,Z4 hq];simp only [Bq0];have hl:=hk.len hS hq;rw [ZkA (by omega) (by omega) (hk.srt q hq) hn];simp only [Bq0,Bool.not_false,Cq1];rw [insert_eq (by omega)];simp only [Bq0];rw [XD];unfold ZiF;rw [QE,eq,Z4 hq];simp only [Bq0];rw [Ze1 (by omega) (by omega) Xy];simp only [Bq0];rw [Z4 hq];simp only [Bq0]
   have e3:ZE (tab (nn s) fun p=>tab (mm s * mm s) (σ.ma p)) (q:Int) (tab (mm s * mm s) (mx (σ.ma q) (tab (mm s * mm s) (σ.ma p))))=tab (nn s) fun j=>tab (mm s * mm s) ((YK s p (Ke s σ p) σ).ma j):=by
    have:=KV (s:=s) (p:=q) (f:=σ.ma) (g:=mx (σ.ma q) (tab (mm s * mm s) (σ.ma p)));unfold Uh at this;rw [this];show _=tab (nn s) fun j=>tab (mm s * mm s) (YE σ.ma (inn s (p:Int)).toNat _ j)
    rw [<- hqe];rfl
   have e4:tab (nn s) (YE σ.kn q (ins (p:Int) (σ.kn q)))=tab (nn s) (YK s p (Ke s σ p) σ).kn:=by
    show _=tab (nn s) (YE σ.kn (inn s (p:Int)).toNat _);rw [<- hqe]
   rw [e3,e4];have e5:Z6.mk (Ze.mk (tab (nn s) σ.st) (tab (nn s) fun j=>tab (mm s * mm s) ((YK s p (Ke s σ p) σ).ma j)) (tab (nn s) (YK s p (Ke s σ p) σ).kn) (tab (nn s) σ.wa) (tab (mm s) σ.be) (tab (mm s * mm s) (Jq σ)) σ.sd) (Zc.mk s.qG s.Zh) σ.ev=hal s (YK s p (Ke s σ p) σ):=rfl;rw [e5];have hk3:=JV hS hk hp h0 h3 (by rw [<- hqe];exact hn) (Ke s σ p);rw [Xl];unfold Kt;rw [<- hqe];have e6:(YK s p (Ke s σ p) σ).st q=σ.st q:=rfl;by_cases h2:σ.st q=2
   ·rw [decide_eq_true h2,Qn,Zd5 (by omega) hS hq (by have:=hk3.len hS hq;omega)];by_cases hA:Alo s (YK s p (Ke s σ p) σ) q
    ·rw [Yk hA];simp only [Bq0,Bool.and_self,Cq1];rw [hx (by rw [e6];exact h2),Yk ⟨by rw [e6];exact h2,hA⟩];rfl
    ·rw [Z7 hA];simp only [Bq0,Bool.and_false,Cq0];rw [Z7 fun z=>hA z.2]
     rfl
   ·rw [decide_eq_false h2,Jj];simp only [Bq0,Bool.false_and,Cq0];rw [Z7 fun z=>h2 (by rw [<- e6];exact z.1)]
    rfl
  ·rw [decide_eq_false e,Cq0,if_neg e];unfold ZgG;rw [show app 8 ([]:List Int) (tab (mm s * mm s) (σ.ma p))=some (Ke s σ p) from ZeQ hS hp];simp only [Bq0];rw [ZaU hS (hw.few (by omega)) (hS.pl hp).2 (hS.pl hq).2];rfl
theorem Zp6 (hF:1000000 <=F) (hS:QJ s):∀ (d p:Nat) (σ:TS) (F':Nat),d < F' ->p < nn s ->up s d (p:Int) < 0 ->Wf s B σ ->B <=700000 ->Kn s σ ->σ.st p ≠ 3 ->loop F' (Zle F) (hal s σ,(p:Int))=some (hal s (Zi8 s d p σ)):=by
 intro d
 induction d generalizing B with
 | zero=>intro p σ F' _ _ hu _ _ _ _;exact absurd hu (by show ¬ ((p:Int)) < 0;omega)
 | succ d ih=>
   intro p σ F' hd hp hu hw hB hk h3;cases F' with
   | zero=>omega
   | succ F'=>
     obtain⟨b1,w0,b2⟩:=Zg6 hw hp h3;have wA:=ZlL hS hw hp h3;have kA:=Zl8 hk p;have sA:=KO (s:=s) p σ;have w1:=hw.st hp (3:Int) (B':=B) (by rw [show sw (3:Int)=0 from rfl];omega);have sB:=Zqq (s:=s) p (σ.wa p) (Kz p σ);rw [Jd];unfold Zle;dsimp only;rw [show(hal s σ).Za.qV=tab (nn s) σ.st from rfl,Z4 hp];simp only [Bq0];rw [XD,show Z6.mk (Ze.mk (tab (nn s) (YE σ.st p 3)) (hal s σ).Za.qX (hal s σ).Za.qZ (hal s σ).Za.Zk (hal s σ).Za.Zr (hal s σ).Za.kQ (hal s σ).Za.kK) (hal s σ).qK (hal s σ).kU=hal s {σ with st:=YE σ.st p 3} from rfl,KT (w1.few (by omega))];simp only [Bq0];rw [show(hal s (tell 6 (p:Int) 0 0 {σ with st:=YE σ.st p 3})).Za.Zk=tab (nn s) σ.wa from rfl,Z4 hp];simp only [Bq0];rw [XD];refine Xz (fun k=>((k:Int),tab (nn s) (Zr s p ((σ.wa p).take k) (Kz p σ)).st,(tab (nn s) fun j=>tab (mm s * mm s) ((Zr s p ((σ.wa p).take k) (Kz p σ)).ma j)),tab (nn s) (Zr s p ((σ.wa p).take k) (Kz p σ)).kn,tab (nn s) (Zr s p ((σ.wa p).take k) (Kz p σ)).wa,tab (mm s) (Zr s p ((σ.wa p).take k) (Kz p σ)).be,tab (mm s * mm s) (Jq (Zr s p ((σ.wa p).take k) (Kz p σ))),(Zr s p ((σ.wa p).take k) (Kz p σ)).sd,s.qG,s.Zh,(Zr s p ((σ.wa p).take k) (Kz p σ)).ev)) rfl (n:= (σ.wa p).length) (by omega) (fun k hk' next=>?_) (fun next=>?_)
     ·unfold ZmG;dsimp only;rw [YF hk',Cq1,Qi 0 hk'];simp only [Bq0];obtain⟨j,ej,hj⟩:=hw.ws p hp _ (QO (d:=0) hk');have wk:=Zcf hS hp ((σ.wa p).take k) _ _ w0 (fun x hx=>hw.ws p hp x (List.mem_of_mem_take hx));have hlen:((σ.wa p).take k).length <= (σ.wa p).length:=by rw [List.length_take];omega
      rw [Zpq,ej,Zlt hS (wk.few (by omega)) hj hp];simp only [Bq0];rw [Zjg p k _ hk',ej,Int.toNat_natCast,Qe (by omega)];rfl
     ·unfold ZmG;dsimp only;rw [Xk,Cq0,List.take_length,Zpq,Wo hS hp];simp only [Bq0];have wB:=Zcf hS hp (σ.wa p) _ _ w0 (hw.ws p hp);refine Zik (by omega) hS wB (by omega) hp (fun v k hk' next=>?_) (fun next=>?_)
      ·unfold ZiH ZiG;dsimp only;rw [Za2 hS hk',Cq1];by_cases z:k=pl s p
       ·subst z;rw [show(((pl s p:Nat):Int) != ((pl s p:Nat):Int))=false by simp,Cq0,Cq0]
       ·have:(((k:Int)) != ((pl s p:Int)))=true:=by rw [KP];exact decide_eq_true (by omega)
        rw [this,Cq1,Cq1,Ut hS (hS.pl hp).2 hk',Z4 (KD (hS.pl hp).2 hk')];simp only [Bq0];rw [Zok wB (by omega) (KD (hS.pl hp).2 hk')]
      ·have hpA:(Qc s p σ).st p=3:=by rw [sA.1,Ye]
       have hnot:¬ inn s (p:Int) < 0 ->(p:Int) ∉ (Qc s p σ).kn (inn s (p:Int)).toNat:=fun h0 hm=>by
        obtain⟨eq,hq⟩:=Jh hS hp h0;rw [sA.2.1] at hm;obtain⟨k,e1,e2,e3,e4⟩:=hk.rng _ hq _ hm;have:k=p:=by omega
        subst this;exact h3 e4
       have ht:=ZuI (F:=F) (die:=Zi8 s d) (by omega) hS hp wA (by omega) kA hpA hnot (fun x=>loop F' (Zle F) x) next fun h0 h2=>by
        obtain⟨eq,hq⟩:=Jh hS hp h0;refine ih (B:=B - 1) _ _ F' (by omega) hq ?_ ((W9 wA).up (Nat.le_refl _)) (by omega) (JV hS kA hp h0 hpA (hnot h0) _) (by rw [h2];decide);rw [<- eq];have hu:(if((p:Int)) < 0 then(p:Int) else up s d (inn s (p:Int))) < 0:=hu
        rwa [if_neg (by omega)] at hu
       exact ht
end
end
section
theorem ZlS {α:Type} {l:List α} {c:Nat} (h:c <=l.length):slL l 0 (c:Int)=some (l.take c):=by
 unfold slL;rw [decide_eq_true (show(0:Int) <=0 by omega),decide_eq_true (show(0:Int) <= (c:Int) by omega),decide_eq_true (show(c:Int) <= (l.length:Int) by omega)];simp
theorem Zha {α:Type} {l:List α} {c:Nat} (h:c <=l.length):slL l (c:Int) (l.length:Int)=some (l.drop c):=by
 unfold slL;rw [decide_eq_true (show(0:Int) <= (c:Int) by omega),decide_eq_true (show(c:Int) <= (l.length:Int) by omega),decide_eq_true (show(l.length:Int) <= (l.length:Int) by omega)];simp
section
variable {s:Zc} {σ:TS} {F B p q:Nat} {die:Nat ->TS ->TS}
theorem ZDK {l:List Int} {k:Int} (hl:l.length <=500) {c:Nat} (hc:c= (l.takeWhile fun x=>decide (x < k)).length) {β:Type} (f:List Int ->Option β):((slL l 0 (c:Int)).bind fun z1=>(app 8 ([]:List Int) z1).bind fun z2=>(app 8 z2 [k]).bind fun z3=>(slL l (c:Int) (l.length:Int)).bind fun z4=>(app 8 z3 z4).bind f)=f (ins k l):=by
 have hcl:c <=l.length:=by rw [hc];exact ZaR
 rw [ZlS hcl];simp only [Bq0];have e1:(l.take c).length <=500:=by rw [List.length_take];omega
 have e2:(l.drop c).length <=500:=by rw [List.length_drop];omega
 rw [ZnH (by simp;omega)];simp only [Bq0,List.nil_append];rw [ZnH (by simp;omega)];simp only [Bq0];rw [Zha hcl];simp only [Bq0];rw [ZnH (by rw [List.length_append,List.length_singleton];omega)];simp only [Bq0];rw [Zy5,<- hc,List.append_assoc];rfl
theorem Zvh (hF:100000 <=F) (hS:QJ s) (hp:p < nn s) (hw:Wf s B σ) (hB:B <=700000) (hk:Kn s σ) (h3:σ.st p=3) (h0:¬ inn s (p:Int) < 0) (hn:(p:Int) ∉ σ.kn (inn s (p:Int)).toNat) (Qb:Z5×Int ->Option Z5)
 (hx:(YK s p (Ke s σ p) σ).st (inn s (p:Int)).toNat=2 ->Qb (XY s (YK s p (Ke s σ p) σ),((inn s (p:Int)).toNat:Int))=some (XY s (die (inn s (p:Int)).toNat (YK s p (Ke s σ p) σ)))):
 loop F (ZiM F (p:Int) Qb s.qG s.Zh (tab (nn s) σ.st) (tab (nn s) σ.kn) (tab (nn s) σ.wa) (tab (mm s) σ.be) (tab (mm s * mm s) (Jq σ)) σ.sd σ.ev (Uh s σ.ma) (Ke s σ p) (spt s p)) 0=some (XY s (Kt s die p (Ke s σ p) σ)):=by
 have h16:=ZdB hS;obtain⟨eq,hq⟩:=Jh hS hp h0;obtain⟨q,hqe⟩:∃ q,q= (inn s (p:Int)).toNat:= ⟨_,rfl⟩
 have hk3:=JV hS hk hp h0 h3 hn (Ke s σ p);rw [<- hqe] at eq hq hn hx;have hl:=hk.len hS hq
 have hne:q ≠ p:=fun e=>by
  subst e
  exact ZyF hS.inn hp (j:=1) (by omega) (by
   show(if((q:Int)) < 0 then(q:Int) else up s 0 (inn s (q:Int)))=_;rw [if_neg (by omega)];exact eq)
 obtain⟨c,hc⟩:∃ c,c= ((σ.kn q).takeWhile fun x=>decide (x < (p:Int))).length:= ⟨_,rfl⟩
 have hcl:c <= (σ.kn q).length:=by rw [hc];exact ZaR
 have fin:∀ {β:Type} (g:Z5 ->β) (K:Z5 ->Option β),True:=fun _ _=>trivial
 have e3:ZE (ZE (Uh s σ.ma) (q:Int) (tab (mm s * mm s) (mx (σ.ma q) (Ke s σ p)))) (p:Int) (Ke s σ p)=tab (nn s) fun j=>tab (mm s * mm s) ((YK s p (Ke s σ p) σ).ma j):=by
  rw [KV];unfold Ke;rw [KV];refine ZbG fun j _ i _=>?_
  show YE (YE σ.ma q _) p (σ.ma p) j i=YE σ.ma (inn s (p:Int)).toNat _ j i;rw [<- hqe];by_cases e:j=p
  ·subst e;rw [Ye,Xg (fun z=>hne z.symm)]
  ·rw [Xg e]
 have e4:tab (nn s) (YE σ.kn q (ins (p:Int) (σ.kn q)))=tab (nn s) (YK s p (Ke s σ p) σ).kn:=by
  show _=tab (nn s) (YE σ.kn (inn s (p:Int)).toNat _);rw [<- hqe]
 have e5:Z5.mk (Zc.mk s.qG s.Zh) (Ze.mk (tab (nn s) σ.st) (tab (nn s) fun j=>tab (mm s * mm s) ((YK s p (Ke s σ p) σ).ma j)) (tab (nn s) (YK s p (Ke s σ p) σ).kn) (tab (nn s) σ.wa) (tab (mm s) σ.be) (tab (mm s * mm s) (Jq σ)) σ.sd) σ.ev=XY s (YK s p (Ke s σ p) σ):=rfl;have e6:(YK s p (Ke s σ p) σ).st q=σ.st q:=rfl;have self:ZE (tab (nn s) σ.kn) (q:Int) (σ.kn q)=tab (nn s) σ.kn:=by rw [XD,ZfV]
 have done:∀ (K:List Int ->Option Z5),K= (fun ZhD=>(ZL (Uh s σ.ma) (q:Int)).bind fun ZDh=>bif(q:Int)== (p:Int) then none else(Zi3 F ZDh (Ke s σ p)).bind fun WZ=>(gd (σ.st q==2) (Zf0 F (Z5.mk (Zc.mk s.qG s.Zh) (Ze.mk (tab (nn s) σ.st) (ZE (ZE (Uh s σ.ma) (q:Int) WZ.1) (p:Int) WZ.2) (ZE (tab (nn s) σ.kn) (q:Int) ZhD) (tab (nn s) σ.wa) (tab (mm s) σ.be) (tab (mm s * mm s) (Jq σ)) σ.sd) σ.ev) (q:Int)) default).bind fun ZDg=>(bif((σ.st q==2) && ZDg) then(Qb ((Z5.mk (Zc.mk s.qG s.Zh) (Ze.mk (tab (nn s) σ.st) (ZE (ZE (Uh s σ.ma) (q:Int) WZ.1) (p:Int) WZ.2) (ZE (tab (nn s) σ.kn) (q:Int) ZhD) (tab (nn s) σ.wa) (tab (mm s) σ.be) (tab (mm s * mm s) (Jq σ)) σ.sd) σ.ev),(q:Int))).bind fun Wv=>(ZcM) (Wv.s.qG,Wv.s.Zh,Wv.w.qV,Wv.w.qX,Wv.w.qZ,Wv.w.Zk,Wv.w.Zr,Wv.w.kQ,Wv.w.kK,Wv.kU) else(ZcM) (s.qG,s.Zh,tab (nn s) σ.st,ZE (ZE (Uh s σ.ma) (q:Int) WZ.1) (p:Int) WZ.2,ZE (tab (nn s) σ.kn) (q:Int) ZhD,tab (nn s) σ.wa,tab (mm s) σ.be,tab (mm s * mm s) (Jq σ),σ.sd,σ.ev))) ->K (ins (p:Int) (σ.kn q))=some (XY s (Kt s die p (Ke s σ p) σ)):=by
  intro K hK;subst hK;dsimp only;rw [Za1 hq];simp only [Bq0];rw [Wm,decide_eq_false hne,Cq0,Zvc (by omega) (by omega) (ZDV p)];simp only [Bq0];rw [e3,XD,e4,e5,Xl];unfold Kt;rw [<- hqe];by_cases h2:σ.st q=2
  ·rw [decide_eq_true h2,Qn,Zgr (by omega) hS hq (by have:=hk3.len hS hq;omega)];by_cases hA:Alo s (YK s p (Ke s σ p) σ) q
   ·rw [Yk hA];simp only [Bq0,Bool.and_self,Cq1];rw [hx (by rw [e6];exact h2),Yk ⟨by rw [e6];exact h2,hA⟩];rfl
   ·rw [Z7 hA];simp only [Bq0,Bool.and_false,Cq0];rw [Z7 fun z=>hA z.2];rfl
  ·rw [decide_eq_false h2,Jj];simp only [Bq0,Bool.false_and,Cq0];rw [Z7 fun z=>h2 (by rw [<- e6];exact z.1)];rfl
 refine Xz (fun k=>(k:Int)) rfl (n:=c) (by omega) (fun k hk' next=>?_) (fun next=>?_)
 ·unfold ZiM;rw [QE,eq,Z4 hq];simp only [Bq0];have:=Zxx (l:=σ.kn q) (k:= (p:Int)) k (by omega);rw [YF (show k < (σ.kn q).length by omega),Cq1,Qi 0 (by omega)];simp only [Bq0];rw [decide_eq_true this,Cq1,Qe (by omega)]
 ·unfold ZiM;rw [QE,eq,Z4 hq];simp only [Bq0];by_cases hlt:c < (σ.kn q).length
  ·have:=Zxy (hk.srt q hq) (k:= (p:Int)) c (by omega) hlt;rw [YF hlt,Cq1,Qi 0 hlt];simp only [Bq0];rw [decide_eq_false (by omega),Cq0];simp only [Z4 hq,Bq0,self];exact(ZDK (by omega) hc _).trans (done _ rfl)
  ·have:c= (σ.kn q).length:=by omega
   rw [decide_eq_false (show ¬ ((c:Int) < ((σ.kn q).length:Int)) by omega),Cq0];simp only [Z4 hq,Bq0,self];exact(ZDK (by omega) hc _).trans (done _ rfl)
theorem Zxz (hF:100000 <=F) (hS:QJ s) (hp:p < nn s) (hw:Wf s B σ) (hB:B <=700000) (hk:Kn s σ) (h3:σ.st p=3) (hn:¬ inn s (p:Int) < 0 ->(p:Int) ∉ σ.kn (inn s (p:Int)).toNat) (Qb:Z5×Int ->Option Z5) (nx:Int×List (List Int) ->Option Z5)
 (hx:¬ inn s (p:Int) < 0 ->(YK s p (Ke s σ p) σ).st (inn s (p:Int)).toNat=2 ->Qb (XY s (YK s p (Ke s σ p) σ),((inn s (p:Int)).toNat:Int))=some (XY s (die (inn s (p:Int)).toNat (YK s p (Ke s σ p) σ)))):
 ZiN F (p:Int) Qb s.qG s.Zh (tab (nn s) σ.st) (tab (nn s) σ.kn) (tab (nn s) σ.wa) (tab (mm s) σ.be) (tab (mm s * mm s) (Jq σ)) σ.sd σ.ev (pl s p:Int) ((mm s:Int),Uh s σ.ma) nx=some (XY s (Znl s die p σ)):=by
 unfold ZiN;dsimp only;rw [ZeS hS,Cq0,X5 hp];simp only [Bq0];rw [QE];unfold Znl;by_cases h0:inn s (p:Int) < 0
 ·rw [decide_eq_true h0,Cq1,if_pos h0];rfl
 ·rw [decide_eq_false h0,Cq0,if_neg h0];obtain⟨eq,hq⟩:=Jh hS hp h0;have hl:=Zvh (die:=die) hF hS hp hw hB hk h3 h0 (hn h0) Qb (hx h0);obtain⟨q,hqe⟩:∃ q,q= (inn s (p:Int)).toNat:= ⟨_,rfl⟩
  rw [<- hqe] at eq hq |-;rw [eq,show Uh s σ.ma=tab (nn s) fun p=>tab (mm s * mm s) (σ.ma p) from rfl,Zpx,ZaL hS hq];simp only [Bq0];rw [Wm,Z4 hp];simp only [Bq0];by_cases e:pl s q=pl s p
  ·rw [decide_eq_true e,Cq1,if_pos e];exact hl
  ·rw [decide_eq_false e,Cq0,if_neg e,show app 8 ([]:List Int) (tab (mm s * mm s) (σ.ma p))=some (Ke s σ p) from ZeQ hS hp];simp only [Bq0];rw [Zcj hS (hw.few (by omega)) (hS.pl hp).2 (hS.pl hq).2];rfl
theorem Zup (hF:1000000 <=F) (hS:QJ s):∀ (d p:Nat) (σ:TS) (F':Nat),d < F' ->p < nn s ->up s d (p:Int) < 0 ->Wf s B σ ->B <=700000 ->Kn s σ ->σ.st p ≠ 3 ->loop F' (Zlf F) (XY s σ,(p:Int))=some (XY s (Zi8 s d p σ)):=by
 intro d
 induction d generalizing B with
 | zero=>intro p σ F' _ _ hu _ _ _ _;exact absurd hu (by show ¬ ((p:Int)) < 0;omega)
 | succ d ih=>
   intro p σ F' hd hp hu hw hB hk h3;cases F' with
   | zero=>omega
   | succ F'=>
     obtain⟨b1,w0,b2⟩:=Zg6 hw hp h3;have wA:=ZlL hS hw hp h3;have kA:=Zl8 hk p;have sA:=KO (s:=s) p σ;have w1:=hw.st hp (3:Int) (B':=B) (by rw [show sw (3:Int)=0 from rfl];omega);rw [Jd];unfold Zlf;dsimp only;rw [show(XY s σ).w.qV=tab (nn s) σ.st from rfl,Z4 hp];simp only [Bq0];rw [XD,show Z5.mk (XY s σ).s (Ze.mk (tab (nn s) (YE σ.st p 3)) (XY s σ).w.qX (XY s σ).w.qZ (XY s σ).w.Zk (XY s σ).w.Zr (XY s σ).w.kQ (XY s σ).w.kK) (XY s σ).kU=XY s {σ with st:=YE σ.st p 3} from rfl,ZaS (w1.few (by omega))];simp only [Bq0];rw [show(XY s (tell 6 (p:Int) 0 0 {σ with st:=YE σ.st p 3})).w.Zk=tab (nn s) σ.wa from rfl,Z4 hp];simp only [Bq0];rw [XD];refine Xz (fun k=>((k:Int),s.qG,s.Zh,tab (nn s) (Zr s p ((σ.wa p).take k) (Kz p σ)).st,(tab (nn s) fun j=>tab (mm s * mm s) ((Zr s p ((σ.wa p).take k) (Kz p σ)).ma j)),tab (nn s) (Zr s p ((σ.wa p).take k) (Kz p σ)).kn,tab (nn s) (Zr s p ((σ.wa p).take k) (Kz p σ)).wa,tab (mm s) (Zr s p ((σ.wa p).take k) (Kz p σ)).be,tab (mm s * mm s) (Jq (Zr s p ((σ.wa p).take k) (Kz p σ))),(Zr s p ((σ.wa p).take k) (Kz p σ)).sd,(Zr s p ((σ.wa p).take k) (Kz p σ)).ev)) rfl (n:= (σ.wa p).length) (by omega) (fun k hk' next=>?_) (fun next=>?_)
     ·unfold ZmJ;dsimp only;rw [YF hk',Cq1,Qi 0 hk'];simp only [Bq0];obtain⟨j,ej,hj⟩:=hw.ws p hp _ (QO (d:=0) hk');have wk:=Zcf hS hp ((σ.wa p).take k) _ _ w0 (fun x hx=>hw.ws p hp x (List.mem_of_mem_take hx));have hlen:((σ.wa p).take k).length <= (σ.wa p).length:=by rw [List.length_take];omega
      rw [Zpx,ej,Zqr hS (wk.few (by omega)) hj hp];simp only [Bq0];rw [Zjg p k _ hk',ej,Int.toNat_natCast,Qe (by omega)];rfl
     ·unfold ZmJ;dsimp only;rw [Xk,Cq0,List.take_length,Zpx,ZaL hS hp];simp only [Bq0];have wB:=Zcf hS hp (σ.wa p) _ _ w0 (hw.ws p hp);refine Zik (by omega) hS wB (by omega) hp (fun v k hk' next=>?_) (fun next=>?_)
      ·unfold ZiN ZiL;dsimp only;rw [Za2 hS hk',Cq1];by_cases z:k=pl s p
       ·subst z;rw [show(((pl s p:Nat):Int) != ((pl s p:Nat):Int))=false by simp,Cq0,Cq0]
       ·have:(((k:Int)) != ((pl s p:Int)))=true:=by rw [KP];exact decide_eq_true (by omega)
        rw [this,Cq1,Cq1];unfold Zud;dsimp only;rw [Ut hS (hS.pl hp).2 hk',Z4 (KD (hS.pl hp).2 hk')];simp only [Bq0];rw [Zok wB (by omega) (KD (hS.pl hp).2 hk')]
      ·have hpA:(Qc s p σ).st p=3:=by rw [sA.1,Ye]
       have hnot:¬ inn s (p:Int) < 0 ->(p:Int) ∉ (Qc s p σ).kn (inn s (p:Int)).toNat:=fun h0 hm=>by
        obtain⟨eq,hq⟩:=Jh hS hp h0;rw [sA.2.1] at hm;obtain⟨k,e1,e2,e3,e4⟩:=hk.rng _ hq _ hm;have:k=p:=by omega
        subst this;exact h3 e4
       have ht:=Zxz (F:=F) (die:=Zi8 s d) (by omega) hS hp wA (by omega) kA hpA hnot (fun x=>loop F' (Zlf F) x) next fun h0 h2=>by
        obtain⟨eq,hq⟩:=Jh hS hp h0;refine ih (B:=B - 1) _ _ F' (by omega) hq ?_ ((W9 wA).up (Nat.le_refl _)) (by omega) (JV hS kA hp h0 hpA (hnot h0) _) (by rw [h2];decide);rw [<- eq];have hu:(if((p:Int)) < 0 then(p:Int) else up s d (inn s (p:Int))) < 0:=hu
        rwa [if_neg (by omega)] at hu
       exact ht
end
end
section
noncomputable section
variable (s:Zc)
def Wj (p:Nat) (σ:TS):TS:= {σ with st:=YE σ.st p 2,ev:=σ.ev ++ [⟨5,(p:Int),0,0⟩]}
def Zat (fall:Nat ->TS ->TS) (p:Nat) (σ:TS) (k:Nat):TS:=
 if pl s k=pl s p then(if σ.st k=1 then fall k σ else σ)
 else if(k:Int) ∈ σ.kn p then σ else send s (pl s p) (pl s k) ⟨3,(k:Int),0,0,[]⟩ σ
def ZmE (p:Nat) (σ:TS):TS:=ifc (σ.st p=2/\Alo s σ p) (Zi8 s (nn s) p σ) σ
def ZoV (p k:Nat):List Nat:= (List.range k).filter fun q:Nat=>inn s (q:Int)== (p:Int)
def fk (fall:Nat ->TS ->TS) (p k:Nat) (σ:TS):TS:= (ZoV s p k).foldl (Zat s fall p) σ
def JI:Nat ->Nat ->TS ->TS
 | 0,_,σ=>σ
 | d + 1,p,σ=>ZmE s p (fk s (JI d) p (nn s) (Wj p σ))
end
section
variable {s:Zc} {σ:TS} {F B p q d:Nat} {fall:Nat ->TS ->TS}
theorem Zde (p k:Nat):ZoV s p (k + 1)=ZoV s p k ++ (if inn s (k:Int)= (p:Int) then [k] else []):=by
 unfold ZoV;rw [List.range_succ,List.filter_append,List.filter_cons,List.filter_nil,Xl];by_cases h:inn s (k:Int)= (p:Int) <;> simp [h]
theorem Ziq (p k:Nat):(ZoV s p k).length <=k:=by
 unfold ZoV;have:=List.length_filter_le (fun q:Nat=>inn s (q:Int)== (p:Int)) (List.range k)
 rwa [List.length_range] at this
theorem ZBe {k:Nat} (h:inn s (k:Int)= (p:Int)):fk s fall p (k + 1) σ=Zat s fall p (fk s fall p k σ) k:=by
 unfold fk;rw [Zde,if_pos h,List.foldl_append];rfl
theorem ZHB {k:Nat} (h:inn s (k:Int) ≠ (p:Int)):fk s fall p (k + 1) σ=fk s fall p k σ:=by
 unfold fk;rw [Zde,if_neg h,List.append_nil]
structure Gd (s:Zc) (B:Nat) (σ:TS):Prop where
 wf:Wf s B σ
 kn:Kn s σ
theorem Gd.up (h:Gd s B σ) {B':Nat} (hb:B <=B'):Gd s B' σ:= ⟨h.wf.up hb,h.kn⟩
theorem ZPu (h:Kn s σ) {v:Int} (h3:σ.st p ≠ 3) {e:List Zv}:Kn s {σ with st:=YE σ.st p v,ev:=e}:=by
 refine⟨h.srt,fun q hq x hx=>?_⟩;obtain⟨k,h1,h2,h4,h5⟩:=h.rng q hq x hx;refine⟨k,h1,h2,h4,?_⟩;show YE σ.st p v k=3;rw [Xg (fun z=>by subst z;exact h3 h5)];exact h5
theorem Zty (h:Kn s σ) (a b:Nat) (x:Zd):Kn s (send s a b x σ):= ⟨h.srt,h.rng⟩
theorem Ziy (h:Gd s B σ) (hp:p < nn s) (h1:σ.st p=1):11 <=B/\Gd s (B - 8) (Wj p σ):=by
 have hb:=h.wf.pot
 have h11:11 <=Pot s σ:=by
  have:=J4 (f:=fun p=>sw (σ.st p)) hp;have e:sw (σ.st p)=11:=by rw [h1];rfl
  unfold Pot;omega
 have w1:=h.wf.st hp (2:Int) (B':=B - 9) (by rw [h1];show B + 2 <=B - 9 + 11;omega);exact⟨by omega,(w1.tell 5 (p:Int) 0 0).up (by omega),ZPu h.kn (by rw [h1];decide)⟩
theorem Zxu (hp:p < nn s) (hu:up s (d + 1) (p:Int) < 0):up s d (inn s (p:Int)) < 0:=by
 have hu:(if((p:Int)) < 0 then(p:Int) else up s d (inn s (p:Int))) < 0:=hu
 rwa [if_neg (by omega)] at hu
theorem ZBS (hS:QJ s):∀ (d p:Nat) (σ:TS) (B:Nat),p < nn s ->up s d (p:Int) < 0 ->Gd s B σ ->σ.st p ≠ 3 ->Gd s B (Zi8 s d p σ):=by
 intro d
 induction d with
 | zero=>intro p σ B hp hu _ _;exact absurd hu (by show ¬ ((p:Int)) < 0;omega)
 | succ d ih=>
   intro p σ B hp hu h h3;have wA:=ZlL hS h.wf hp h3;have kA:=Zl8 h.kn p;have sA:=KO (s:=s) p σ;have b1:= (Zg6 h.wf hp h3).1;have hpA:(Qc s p σ).st p=3:=by rw [sA.1,Ye]
   show Gd s B (Znl s (Zi8 s d) p (Qc s p σ));unfold Znl;by_cases h0:inn s (p:Int) < 0
   ·rw [if_pos h0];exact⟨wA.up (by omega),kA⟩
   ·rw [if_neg h0];obtain⟨eq,hq⟩:=Jh hS hp h0
    have hnot:(p:Int) ∉ (Qc s p σ).kn (inn s (p:Int)).toNat:=fun hm=>by
     rw [sA.2.1] at hm;obtain⟨k,e1,e2,e3,e4⟩:=h.kn.rng _ hq _ hm;have:k=p:=by omega
     subst this;exact h3 e4
    have k3:=JV hS kA hp h0 hpA hnot (Ke s (Qc s p σ) p);by_cases e:pl s (inn s (p:Int)).toNat=pl s p
    ·rw [if_pos e];unfold Kt;by_cases c:(YK s p (Ke s (Qc s p σ) p) (Qc s p σ)).st (inn s (p:Int)).toNat=2/\Alo s (YK s p (Ke s (Qc s p σ) p) (Qc s p σ)) (inn s (p:Int)).toNat
     ·rw [Yk c];refine(ih _ _ (B - 1) hq ?_ ⟨W9 wA,k3⟩ (by rw [c.1];decide)).up (by omega);rw [<- eq];exact Zxu hp hu
     ·rw [Z7 c];exact⟨(W9 wA).up (by omega),k3⟩
    ·rw [if_neg e];exact⟨(wA.send (hS.pl hp).2 (hS.pl hq).2 _).up (by show B - 1 + 1 + 0 <=B;omega),Zty kA _ _ _⟩
theorem Zs5 (hS:QJ s) (ih:∀ (k:Nat) (σ:TS) (B:Nat),k < nn s ->KA s d k ->Gd s B σ ->σ.st k=1 ->Gd s B (fall k σ)) {k:Nat} (hk:k < nn s) (hp:p < nn s) (hs:KA s d k) (h:Gd s B σ):Gd s (B + 1) (Zat s fall p σ k):=by
 unfold Zat;by_cases e:pl s k=pl s p
 ·rw [if_pos e];by_cases e1:σ.st k=1
  ·rw [if_pos e1];exact(ih k σ B hk hs h e1).up (by omega)
  ·rw [if_neg e1];exact h.up (by omega)
 ·rw [if_neg e];by_cases e1:(k:Int) ∈ σ.kn p
  ·rw [if_pos e1];exact h.up (by omega)
  ·rw [if_neg e1];exact⟨(h.wf.send (hS.pl hp).2 (hS.pl hk).2 _).up (by show B + 1 + 0 <=B + 1;omega),Zty h.kn _ _ _⟩
theorem ZHC (hS:QJ s) (ih:∀ (k:Nat) (σ:TS) (B:Nat),k < nn s ->KA s d k ->Gd s B σ ->σ.st k=1 ->Gd s B (fall k σ)) (hp:p < nn s) (hs:KA s (d + 1) p) (h:Gd s B σ):∀ k,k <=nn s ->Gd s (B + (ZoV s p k).length) (fk s fall p k σ):=by
 intro k
 induction k with
 | zero=>intro _;exact h
 | succ k ihk=>
   intro hk;have h1:=ihk (by omega);by_cases e:inn s (k:Int)= (p:Int)
   ·rw [ZBe e,Zde,if_pos e,List.length_append,List.length_singleton];exact Zs5 hS ih (by omega) hp (hs.kid e) h1
   ·rw [ZHB e,Zde,if_neg e,List.append_nil];exact h1
theorem Zc2 (hS:QJ s) (hp:p < nn s):up s (nn s) (p:Int) < 0:=hS.inn.acy p hp
theorem Zhm (hS:QJ s):∀ (d p:Nat) (σ:TS) (B:Nat),p < nn s ->KA s d p ->Gd s B σ ->σ.st p=1 ->Gd s B (JI s d p σ):=by
 intro d
 induction d with
 | zero=>intro p σ B hp hs _ _;exact absurd rfl (hs p hp 0 (Nat.le_refl _))
 | succ d ih=>
   intro p σ B hp hs h h1;obtain⟨b,g0⟩:=Ziy h hp h1;have g1:=ZHC hS ih hp hs g0 (nn s) (Nat.le_refl _);have hl:=Ziq (s:=s) p (nn s);have h8:nn s <=8:=hS.p2;have g2:=g1.up (B':=B) (by omega);show Gd s B (ZmE s p (fk s (JI s d) p (nn s) (Wj p σ)));unfold ZmE;by_cases c:(fk s (JI s d) p (nn s) (Wj p σ)).st p=2/\Alo s (fk s (JI s d) p (nn s) (Wj p σ)) p
   ·rw [Yk c];exact ZBS hS _ _ _ _ hp (Zc2 hS hp) g2 (by rw [c.1];decide)
   ·rw [Z7 c];exact g2
def ZbJ (s:Zc) (σ:TS):List Int×List (List Int)×List (List Int)×List (List Int)×List (List Zd)×List Zg×Int×Int×List ZV×List Zv:=
 (tab (nn s) σ.st,(tab (nn s) fun j=>tab (mm s * mm s) (σ.ma j)),tab (nn s) σ.kn,tab (nn s) σ.wa,tab (mm s) σ.be,tab (mm s * mm s) (Jq σ),σ.sd,s.qG,s.Zh,σ.ev)
def Zb7 (s:Zc) (σ:TS):Int×List ZV×List Int×List (List Int)×List (List Int)×List (List Int)×List (List Zd)×List Zg×Int×List Zv:=
 (s.qG,s.Zh,tab (nn s) σ.st,(tab (nn s) fun j=>tab (mm s * mm s) (σ.ma j)),tab (nn s) σ.kn,tab (nn s) σ.wa,tab (mm s) σ.be,tab (mm s * mm s) (Jq σ),σ.sd,σ.ev)
theorem ZvH (hF:1000000 <=F) (hS:QJ s) (hp:p < nn s) (h:Gd s B σ) (hB:B <=700000):Zd0 F (p:Int) (ZbJ s σ)=some (hal s (ZmE s p σ)):=by
 unfold Zd0 ZbJ;dsimp only;rw [Z4 hp];simp only [Bq0];rw [Xl,Zpq];unfold ZmE;by_cases h2:σ.st p=2
 ·rw [decide_eq_true h2,Qn,Zd5 (by omega) hS hp (by have:=h.kn.len hS hp;omega)];by_cases hA:Alo s σ p
  ·rw [Yk hA,Yk ⟨h2,hA⟩];simp only [Bq0,Bool.and_self,Cq1];unfold ZBi;have h8:nn s <=8:=hS.p2;rw [Zp6 hF hS _ _ _ F (by omega) hp (Zc2 hS hp) h.wf hB h.kn (by rw [h2];decide)];rfl
  ·rw [Z7 hA,Z7 fun z=>hA z.2];simp only [Bq0,Bool.and_false,Cq0]
 ·rw [decide_eq_false h2,Jj,Z7 fun z=>h2 z.1];simp only [Bq0,Bool.false_and,Cq0]
theorem Zhh (k:Int) (nx:Int×List Int×List (List Int)×List (List Int)×List (List Int)×List (List Zd)×List Zg×Int×Int×List ZV×List Zv ->Option Z6):ZdZ F (p:Int) k nx (ZbJ s σ)=nx (Yd (k + 1),ZbJ s σ):=rfl
theorem Zlc (hF:1000000 <=F) (hS:QJ s):∀ (d p:Nat) (σ:TS) (F' B:Nat),d < F' ->p < nn s ->KA s d p ->Gd s B σ ->B <=700000 ->σ.st p=1 ->loop F' (Zlg F) (hal s σ,(p:Int))=some (hal s (JI s d p σ)):=by
 intro d
 induction d with
 | zero=>intro p σ F' B _ hp hs _ _ _;exact absurd rfl (hs p hp 0 (Nat.le_refl _))
 | succ d ih=>
   intro p σ F' B hd hp hs h hB h1;cases F' with
   | zero=>omega
   | succ F'=>
     obtain⟨b,g0⟩:=Ziy h hp h1;have gk:=ZHC hS (fun k σ B hk hs h e=>Zhm hS d k σ B hk hs h e) hp hs g0;have h8:nn s <=8:=hS.p2;have w1:=h.wf.st hp (2:Int) (B':=B) (by rw [h1];show B + 2 <=B + 11;omega);rw [Jd];generalize hnx:loop F' (Zlg F)=nx;unfold Zlg ZmQ;dsimp only;rw [show(hal s σ).Za.qV=tab (nn s) σ.st from rfl,Z4 hp];simp only [Bq0];rw [XD,show Z6.mk (Ze.mk (tab (nn s) (YE σ.st p 2)) (hal s σ).Za.qX (hal s σ).Za.qZ (hal s σ).Za.Zk (hal s σ).Za.Zr (hal s σ).Za.kQ (hal s σ).Za.kK) (hal s σ).qK (hal s σ).kU=hal s {σ with st:=YE σ.st p 2} from rfl,KT (w1.few (by omega))];simp only [Bq0];refine Xz (fun k=>((k:Int),ZbJ s (fk s (JI s d) p k (Wj p σ)))) rfl (n:=nn s) (by omega) (fun k hk next=>?_) (fun next=>?_)
     ·have gk':=gk k (by omega);have hl:=Ziq (s:=s) p k;have hB':B - 8 + (ZoV s p k).length <=700000:=by omega
      obtain⟨σk,hσ⟩:∃ σk,σk=fk s (JI s d) p k (Wj p σ):= ⟨_,rfl⟩
      rw [<- hσ] at gk' |-;have fw:=gk'.wf.few (by omega);unfold ZiU;rw [show(ZbJ s σk)= (tab (nn s) σk.st,(tab (nn s) fun j=>tab (mm s * mm s) (σk.ma j)),tab (nn s) σk.kn,tab (nn s) σk.wa,tab (mm s) σk.be,tab (mm s * mm s) (Jq σk),σk.sd,s.qG,s.Zh,σk.ev) from rfl];dsimp only;rw [show(hal s (tell 5 (p:Int) 0 0 {σ with st:=YE σ.st p 2})).qK.Zh=s.Zh from rfl,show((s.Zh.length:Nat):Int)= ((nn s:Nat):Int) from rfl,YF hk,Cq1,X5 hk];simp only [Bq0];rw [QE,Xl];by_cases e:inn s (k:Int)= (p:Int)
      ·rw [decide_eq_true e,Cq1,Zpq,Wo hS hk,Wo hS hp];simp only [Bq0];rw [ZBe e,<- hσ,Wm];unfold Zat;by_cases e1:pl s k=pl s p
       ·rw [decide_eq_true e1,Cq1,if_pos e1,Z4 hk];simp only [Bq0];rw [Xl];by_cases e2:σk.st k=1
        ·rw [decide_eq_true e2,Cq1,if_pos e2,<- hnx,ih k σk F' _ (by omega) hk (hs.kid e) gk' hB' e2];simp only [Bq0];exact(Zhh (s:=s) (σ:=JI s d k σk) (F:=F) (p:=p) (k:Int) next).trans (by rw [Qe (by omega)])
        ·rw [decide_eq_false e2,Cq0,if_neg e2];exact(Zhh (s:=s) (σ:=σk) (F:=F) (p:=p) (k:Int) next).trans (by rw [Qe (by omega)])
       ·rw [decide_eq_false e1,Cq0,if_neg e1,Z4 hp];simp only [Bq0];rw [contains_eq (by omega) (by have:=gk'.kn.len hS hp;omega)];simp only [Bq0];by_cases e2:(k:Int) ∈ σk.kn p
        ·rw [decide_eq_true e2,Bool.not_true,Cq0,if_pos e2];exact(Zhh (s:=s) (σ:=σk) (F:=F) (p:=p) (k:Int) next).trans (by rw [Qe (by omega)])
        ·rw [decide_eq_false e2,Bool.not_false,Cq1,if_neg e2];rw [ZaU hS fw (hS.pl hp).2 (hS.pl hk).2];simp only [Bq0];exact(Zhh (s:=s) (σ:=send s (pl s p) (pl s k) ⟨3,(k:Int),0,0,[]⟩ σk) (F:=F) (p:=p) (k:Int) next).trans (by rw [Qe (by omega)])
      ·rw [decide_eq_false e,Cq0,ZHB e,<- hσ,Qe (by omega)]
       rfl
     ·have gk':=gk (nn s) (Nat.le_refl _);have hl:=Ziq (s:=s) p (nn s);refine(?_:ZiU F (p:Int) _ _ _ next=Zd0 F (p:Int) (ZbJ s (fk s (JI s d) p (nn s) (Wj p σ)))).trans (ZvH hF hS hp gk' (by omega));unfold ZiU ZbJ;dsimp only;rw [show(hal s (tell 5 (p:Int) 0 0 {σ with st:=YE σ.st p 2})).qK.Zh=s.Zh from rfl,show((s.Zh.length:Nat):Int)= ((nn s:Nat):Int) from rfl,Xk,Cq0]
end
end
section
section
variable {s:Zc} {σ:TS} {F B p q d:Nat} {fall:Nat ->TS ->TS}
theorem ZA8 (hS:QJ s) (ih:∀ (k:Nat) (σ:TS) (B:Nat),k < nn s ->KA s d k ->Gd s B σ ->σ.st k=1 ->Gd s B (fall k σ)) (hp:p < nn s):∀ (l:List Nat) (B:Nat) (σ:TS),(∀ k ∈ l,k < nn s/\KA s d k) ->Gd s B σ ->Gd s (B + l.length) (l.foldl (Zat s fall p) σ):=by
 intro l
 induction l with
 | nil=>intro B σ _ h;exact h
 | cons k l ihl=>
   intro B σ hl h;have:=ihl (B + 1) (Zat s fall p σ k) (fun j hj=>hl j (by simp [hj])) (Zs5 hS ih (hl k (by simp)).1 hp (hl k (by simp)).2 h);exact this.up (by rw [List.length_cons];omega)
theorem ZBg (hF:1000000 <=F) (hS:QJ s) (hp:p < nn s) (h:Gd s B σ) (hB:B <=700000):
 ((ZL (tab (nn s) σ.st) (p:Int)).bind fun ZuD=>(gd (ZuD==2) (Zf0 F (XY s σ) (p:Int)) default).bind fun Zeg=>(bif((ZuD==2) && Zeg) then(ZpL F (XY s σ) (p:Int)).bind fun ZhM=>some ZhM else some (XY s σ)))=some (XY s (ZmE s p σ)):=by
 rw [Z4 hp];simp only [Bq0];rw [Xl];unfold ZmE;by_cases h2:σ.st p=2
 ·rw [decide_eq_true h2,Qn,Zgr (by omega) hS hp (by have:=h.kn.len hS hp;omega)];by_cases hA:Alo s σ p
  ·rw [Yk hA,Yk ⟨h2,hA⟩];simp only [Bq0,Bool.and_self,Cq1];unfold ZpL;have h8:nn s <=8:=hS.p2;rw [Zup hF hS _ _ _ F (by omega) hp (Zc2 hS hp) h.wf hB h.kn (by rw [h2];decide)];rfl
  ·rw [Z7 hA,Z7 fun z=>hA z.2];simp only [Bq0,Bool.and_false,Cq0]
 ·rw [decide_eq_false h2,Jj,Z7 fun z=>h2 z.1];simp only [Bq0,Bool.false_and,Cq0]
theorem ZrD (k:Int) (nx:Int×Int×List ZV×List Int×List (List Int)×List (List Int)×List (List Int)×List (List Zd)×List Zg×Int×List Zv ->Option Z5):Zf5 k nx (Zb7 s σ)=nx (Yd (k + 1),Zb7 s σ):=rfl
theorem ZkY (hs:KA s (d + 1) p) {k:Nat} (hk:k ∈ KN s p):k < nn s/\KA s d k:= ⟨(ZcF.1 hk).1,hs.kid (ZcF.1 hk).2⟩
theorem ZpJ (hF:1000000 <=F) (hS:QJ s):∀ (d p:Nat) (σ:TS) (F' B:Nat),d < F' ->p < nn s ->KA s d p ->Gd s B σ ->B <=700000 ->loop F' (Zlh F) (XY s σ,(p:Int))=some (XY s (if σ.st p=1 then JI s d p σ else σ)):=by
 intro d
 induction d with
 | zero=>intro p σ F' B _ hp hs _ _;exact absurd rfl (hs p hp 0 (Nat.le_refl _))
 | succ d ih=>
   intro p σ F' B hd hp hs h hB;cases F' with
   | zero=>omega
   | succ F'=>
     rw [Jd];generalize hnx:loop F' (Zlh F)=nx;unfold Zlh ZiW;dsimp only;rw [show(XY s σ).w.qV=tab (nn s) σ.st from rfl,Z4 hp];simp only [Bq0];rw [Xl];by_cases h1:σ.st p ≠ 1
     ·rw [decide_eq_false h1,Bool.not_false,Cq1,if_neg h1]
     have h1:=Classical.not_not.1 h1;rw [decide_eq_true h1,Bool.not_true,Cq0,if_pos h1];obtain⟨b,g0⟩:=Ziy h hp h1;have h8:nn s <=8:=hS.p2;have hk8:=ZoU (p:=p) hS;have w1:=h.wf.st hp (2:Int) (B':=B) (by rw [h1];show B + 2 <=B + 11;omega);rw [XD,show Z5.mk (XY s σ).s (Ze.mk (tab (nn s) (YE σ.st p 2)) (XY s σ).w.qX (XY s σ).w.qZ (XY s σ).w.Zk (XY s σ).w.Zr (XY s σ).w.kQ (XY s σ).w.kK) (XY s σ).kU=XY s {σ with st:=YE σ.st p 2} from rfl,ZaS (w1.few (by omega))];simp only [Bq0];rw [show(XY s (tell 5 (p:Int) 0 0 {σ with st:=YE σ.st p 2})).s=s from rfl,Ztz (by omega) hS];simp only [Bq0];have gt:∀ j,Gd s (B - 8 + ((KN s p).take j).length) (((KN s p).take j).foldl (Zat s (JI s d) p) (Wj p σ)):=fun j=>ZA8 hS (fun k σ B hk hs h e=>Zhm hS d k σ B hk hs h e) hp _ _ _ (fun k hk=>ZkY hs (List.mem_of_mem_take hk)) g0
     refine Xz (fun j=>((j:Int),Zb7 s (((KN s p).take j).foldl (Zat s (JI s d) p) (Wj p σ)))) rfl (n:= (KN s p).length) (by omega) (fun j hj next=>?_) (fun next=>?_)
     ·have gk':=gt j;have hl:((KN s p).take j).length <=8:=by rw [List.length_take];omega
      have hB':B - 8 + ((KN s p).take j).length <=700000:=by omega
      rw [List.take_succ_eq_append_getElem hj,List.foldl_append];obtain⟨σk,hσ⟩:∃ σk,σk= ((KN s p).take j).foldl (Zat s (JI s d) p) (Wj p σ):= ⟨_,rfl⟩
      rw [<- hσ] at gk' |-;have fw:=gk'.wf.few (by omega);obtain⟨k,ek⟩:∃ k,k= (KN s p)[j]:= ⟨_,rfl⟩
      have hkm:k ∈ KN s p:=by rw [ek];exact List.getElem_mem hj
      obtain⟨hk,hsk⟩:=ZkY hs hkm;rw [<- ek];show _=next (((j + 1:Nat):Int),Zb7 s (Zat s (JI s d) p σk k));unfold ZmR;rw [show(Zb7 s σk)= (s.qG,s.Zh,tab (nn s) σk.st,(tab (nn s) fun j=>tab (mm s * mm s) (σk.ma j)),tab (nn s) σk.kn,tab (nn s) σk.wa,tab (mm s) σk.be,tab (mm s * mm s) (Jq σk),σk.sd,σk.ev) from rfl];dsimp only
      have eg:((KN s p).map Int.ofNat).getD j 0= (k:Int):=by
       rw [Kh (by rw [List.length_map];exact hj),List.getElem_map,ek];rfl
      rw [List.length_map,YF hj,Cq1,Qi 0 (by rw [List.length_map];exact hj),eg];simp only [Bq0];rw [Zpx,ZaL hS hk,ZaL hS hp];simp only [Bq0];rw [Wm];unfold Zat;by_cases e1:pl s k=pl s p
      ·rw [decide_eq_true e1,Cq1,if_pos e1,<- hnx,ih k σk F' _ (by omega) hk hsk gk' hB'];simp only [Bq0];exact(ZrD (s:=s) (σ:=if σk.st k=1 then JI s d k σk else σk) (j:Int) next).trans (by rw [Qe (by omega)])
      ·rw [decide_eq_false e1,Cq0,if_neg e1,ZkX (by omega) hp (by have:=gk'.kn.len hS hp;omega)];simp only [Bq0];by_cases e2:(k:Int) ∈ σk.kn p
       ·rw [decide_eq_true e2,Bool.not_true,Cq0,if_pos e2];exact(ZrD (s:=s) (σ:=σk) (j:Int) next).trans (by rw [Qe (by omega)])
       ·rw [decide_eq_false e2,Bool.not_false,Cq1,if_neg e2];rw [Zcj hS fw (hS.pl hp).2 (hS.pl hk).2];simp only [Bq0];exact(ZrD (s:=s) (σ:=send s (pl s p) (pl s k) ⟨3,(k:Int),0,0,[]⟩ σk) (j:Int) next).trans (by rw [Qe (by omega)])
     ·have gk':=gt (KN s p).length;rw [List.take_length] at gk' |-;unfold ZmR Zb7;dsimp only;rw [List.length_map,Xk,Cq0,Zpx];exact ZBg hF hS hp gk' (by omega)
end
end
section
def drop1 (i:Nat) (σ:TS):TS:= {σ with ld:=YE σ.ld i (σ.ld i + 1)}
noncomputable def ZbI (s:Zc) (k:Nat) (l:List Int) (σ:TS):TS:=Kt s (Zi8 s (nn s)) k l σ
noncomputable def ZkW (s:Zc) (b:Nat) (x:Zd) (σ:TS):TS:=
 if x.kW=1 then see x.kX.toNat x.kV.toNat x.n σ
 else if x.kW=2 then note s x.kV.toNat x.kX.toNat σ
 else if x.kW=3 then(if σ.st x.kV.toNat=1 then JI s (nn s) x.kV.toNat σ else σ)
 else if x.kW=4 then ZbI s x.kV.toNat x.qX σ
 else wait b x σ
def hd (σ:TS) (i:Nat):Zd:= (σ.sn i).getD (σ.ld i) default
noncomputable def ZeW (s:Zc) (a b:Nat) (σ:TS):TS:=ZkW s b (hd σ (li s a b)) (drop1 (li s a b) σ)
def ZwH (s:Zc) (b:Nat) (x:Zd):Prop:=∃ p:Nat,x.kV= (p:Int)/\p < nn s/\
 ((x.kW=1/\∃ q:Nat,x.kX= (q:Int)/\q < nn s)\/(x.kW=2/\∃ q:Nat,x.kX= (q:Int)/\q < nn s)\/x.kW=3\/(x.kW=4/\0 <=inn s (p:Int)/\x.qX.length=mm s * mm s)\/(x.kW=5/\pl s p=b/\x.qX.length=mm s * mm s/\∃ q:Nat,x.kX= (q:Int)/\q < nn s))
def Zs1 (s:Zc) (x:Zd) (σ:TS):Prop:=x.kW=4 ->σ.st x.kV.toNat=3/\x.kV ∉ σ.kn (inn s x.kV).toNat
section
variable {s:Zc} {σ:TS} {F B a b p q:Nat} {x:Zd} {l:List Int}
theorem Zt6 (h:σ.ld p < (σ.sn p).length):fl σ p=hd σ p::(σ.sn p).drop (σ.ld p + 1):=by
 unfold fl hd;rw [List.drop_eq_getElem_cons h,Kh h]
theorem Zyz (hp:p < mm s * mm s) (h:σ.ld p < (σ.sn p).length):Pot s (drop1 p σ) + ew (hd σ p)=Pot s σ:=by
 have e:=Zcg (f:=lw σ) (g:=lw (drop1 p σ)) hp fun j _ hj=>by
  unfold lw fl;show _ + (((σ.sn j).drop (YE σ.ld p _ j)).map ew).sum=_;rw [Xg hj];rfl
 have e1:lw (drop1 p σ) p + ew (hd σ p)=lw σ p:=by
  show(σ.sn p).length + (((σ.sn p).drop (YE σ.ld p _ p)).map ew).sum + _= (σ.sn p).length + ((fl σ p).map ew).sum;rw [Ye,Zt6 h,List.map_cons,List.sum_cons];omega
 show σ.ev.length + QX (mm s * mm s) (lw (drop1 p σ)) + QX (mm s) (fun m=>(σ.be m).length) + QX (nn s) (fun q=>2 * (σ.wa q).length) + QX (nn s) (fun p=>sw (σ.st p)) + _=_;unfold Pot;omega
theorem Zmt (h:Gd s B σ) (hp:p < mm s * mm s) (hl:σ.ld p < (σ.sn p).length):ew (hd σ p) <=B/\Gd s (B - ew (hd σ p)) (drop1 p σ):=by
 have:=Zyz (s:=s) hp hl;have:=h.wf.pot;refine⟨by omega,⟨by omega,fun i hi=>?_,h.wf.ws⟩,⟨h.kn.srt,h.kn.rng⟩⟩;show YE σ.ld p _ i <=_;by_cases e:i=p
 ·subst e;rw [Ye];exact hl
 ·rw [Xg e];exact h.wf.ld i hi
theorem ZyX (hS:QJ s) (h:Gd s B σ) (hp:p < nn s) (h0:¬ inn s (p:Int) < 0) (h3:σ.st p=3) (hn:(p:Int) ∉ σ.kn (inn s (p:Int)).toNat):Gd s B (ZbI s p l σ):=by
 obtain⟨eq,hq⟩:=Jh hS hp h0;have k3:=JV hS h.kn hp h0 h3 hn l;unfold ZbI Kt;by_cases c:(YK s p l σ).st (inn s (p:Int)).toNat=2/\Alo s (YK s p l σ) (inn s (p:Int)).toNat
 ·rw [Yk c];exact ZBS hS _ _ _ _ hq (Zc2 hS hq) ⟨W9 h.wf,k3⟩ (by rw [c.1];decide)
 ·rw [Z7 c];exact⟨W9 h.wf,k3⟩
theorem ZxJ (h:Gd s B σ) (p q:Nat) (n:Int):Gd s (B + 1) (see p q n σ):=by
 refine⟨h.wf.see p q n,?_⟩;unfold see;split <;> exact⟨h.kn.srt,h.kn.rng⟩
theorem ZFD (hS:QJ s) (h:Gd s B σ) (hp:p < nn s) (hq:q < nn s):Gd s (B + 2) (JG s p q σ):=by
 have e:=Znu (s:=s) p q σ;exact⟨h.wf.JG hS hp hq,⟨fun j hj=>by rw [e.2.1];exact h.kn.srt j hj,fun j hj y hy=>by rw [e.2.1] at hy;rw [e.1];exact h.kn.rng j hj y hy⟩⟩
theorem Ztn (hS:QJ s) (h:Gd s B σ) (hp:p < nn s) (hq:q < nn s):Gd s (B + 2) (note s p q σ):=by
 refine⟨h.wf.note hS hp hq,?_⟩;unfold note;split
 ·exact(ZFD hS h hp hq).kn
 ·exact⟨h.kn.srt,h.kn.rng⟩
theorem ZDp (h:Gd s B σ) (ha:a < mm s) (x:Zd):Gd s (B + 1) (wait a x σ):= ⟨h.wf.wait ha x,⟨h.kn.srt,h.kn.rng⟩⟩
theorem ZeV (hp:x.kV= (p:Int)) (hd:Zs1 s x σ) (h4:x.kW=4):σ.st p=3/\(p:Int) ∉ σ.kn (inn s (p:Int)).toNat:=by
 have:=hd h4;rw [hp,Int.toNat_natCast] at this;exact this
theorem Zy0 (hS:QJ s) (h:Gd s B σ) (hb:b < mm s) (hx:ZwH s b x) (hd:Zs1 s x σ):Gd s (B + ew x) (ZkW s b x σ):=by
 obtain⟨p,hp,hpn,c⟩:=hx;unfold ZkW;rw [hp,Int.toNat_natCast];rcases c with⟨k,q,hq,hqn⟩ | ⟨k,q,hq,hqn⟩ | k | ⟨k,h0,hl⟩ | ⟨k,e,hl,q,hq,hqn⟩
 ·rw [if_pos k,hq,Int.toNat_natCast];exact(ZxJ h q p x.n).up (by unfold ew;rw [if_pos k];omega)
 ·rw [if_neg (by omega),if_pos k,hq,Int.toNat_natCast];exact(Ztn hS h hpn hqn).up (by unfold ew;rw [if_neg (by omega),if_pos k];omega)
 ·rw [if_neg (by omega),if_neg (by omega),if_pos k];split
  ·exact(Zhm hS _ _ _ _ hpn (KA.all hS.inn) h (by assumption)).up (by omega)
  ·exact h.up (by omega)
 ·rw [if_neg (by omega),if_neg (by omega),if_neg (by omega),if_pos k];have:=ZeV hp hd k;exact(ZyX hS h hpn (by omega) this.1 this.2).up (by omega)
 ·rw [if_neg (by omega),if_neg (by omega),if_neg (by omega),if_neg (by omega)];exact(ZDp h hb x).up (by unfold ew;rw [if_neg (by omega),if_neg (by omega),if_pos k];omega)
theorem Zy1 (hS:QJ s) (h:Gd s B σ) (ha:a < mm s) (hb:b < mm s) (hl:σ.ld (li s a b) < (σ.sn (li s a b)).length) (hx:ZwH s b (hd σ (li s a b))) (hd:Zs1 s (hd σ (li s a b)) σ):Gd s B (ZeW s a b σ):=by
 obtain⟨h1,h2⟩:=Zmt h (KD ha hb) hl;exact(Zy0 hS h2 hb hx hd).up (by omega)
theorem Zlu {xs ys:List Zd} (h:xs.length + ys.length <=1000000):app 56 xs ys=some (xs ++ ys):=ZsL h (by decide)
theorem ZdR (h:Gd s B σ) (hB:B <=700000) (hp:p < mm s * mm s) (hl:σ.ld p < (σ.sn p).length):
 ZE (ZE (tab (mm s * mm s) (Jq σ)) (p:Int) ⟨(Jq σ p).Zt,(fl σ p).drop 1⟩) (p:Int) ⟨Yd ((Jq σ p).Zt + 1),(fl σ p).drop 1⟩=tab (mm s * mm s) (Jq (drop1 p σ)):=by
 have hs:= (h.wf.few (by omega)).sn p hp;rw [XD,XD,Zvx];refine Ww fun j hj=>?_
 by_cases e:j=p
 ·subst e;rw [Ye];show _= (⟨((YE σ.ld j _ j:Nat):Int),(σ.sn j).drop (YE σ.ld j _ j)⟩:Zg);rw [Ye,show(Jq σ j).Zt= (σ.ld j:Int) from rfl,Qe (by omega)];unfold fl;rw [List.drop_drop]
 ·rw [Xg e];show _= (⟨((YE σ.ld p _ j:Nat):Int),(σ.sn j).drop (YE σ.ld p _ j)⟩:Zg);rw [Xg e];rfl
theorem Zx1 (hl:σ.ld p < (σ.sn p).length):ZL (Jq σ p).kG 0=some (hd σ p):=by
 show ZL (fl σ p) 0=_;rw [Zt6 hl];rfl
theorem Zx0 (h:Gd s B σ) (hB:B <=700000) (hp:p < mm s * mm s) (hl:σ.ld p < (σ.sn p).length):slL (Jq σ p).kG 1 (((Jq σ p).kG.length:Nat):Int)=some ((fl σ p).drop 1)/\((fl σ p).drop 1).length <=800000:=by
 have hs:= (h.wf.few (by omega)).sn p hp;refine⟨?_,by unfold fl;rw [List.length_drop,List.length_drop];omega⟩;show slL (fl σ p) ((1:Nat):Int) (((fl σ p).length:Nat):Int)=_;exact Zha (by unfold fl;rw [List.length_drop];omega)
theorem ZpI (hF:1000000 <=F) (hS:QJ s) (h:Gd s B σ) (hB:B <=700000) (hp:p < nn s) (h0:¬ inn s (p:Int) < 0) (h3:σ.st p=3) (hn:(p:Int) ∉ σ.kn (inn s (p:Int)).toNat) (hx:x.kV= (p:Int)) (hm:x.qX.length=mm s * mm s):
 ZpS F (hal s σ) x=some (hal s (ZbI s p x.qX σ)):=by
 obtain⟨eq,hq⟩:=Jh hS hp h0;have k3:=JV hS h.kn hp h0 h3 hn x.qX;have w3:Wf s B (YK s p x.qX σ):=W9 h.wf;have h16:=ZdB hS;unfold ZpS;rw [hx];show(ZL s.Zh (p:Int)).bind _=_;rw [X5 hp];simp only [Bq0];obtain⟨q,hqe⟩:∃ q,q= (inn s (p:Int)).toNat:= ⟨_,rfl⟩
 rw [<- hqe] at eq hq hn;rw [QE,eq];have hl:=h.kn.len hS hq;rw [show(hal s σ).Za.qZ=tab (nn s) σ.kn from rfl,Z4 hq];simp only [Bq0];rw [ZkA (by omega) (by omega) (h.kn.srt q hq) hn];simp only [Bq0,Bool.not_false,Cq1];rw [insert_eq (by omega)];simp only [Bq0];rw [XD];unfold Zfa;rw [QE,eq,show(hal s σ).Za.qX=Uh s σ.ma from rfl,Za1 hq];simp only [Bq0];rw [Ze1 (by omega) (by omega) hm];simp only [Bq0]
 have e4:tab (nn s) (YE σ.kn q (ins (p:Int) (σ.kn q)))=tab (nn s) (YK s p x.qX σ).kn:=by
  show _=tab (nn s) (YE σ.kn (inn s (p:Int)).toNat _);rw [<- hqe]
 have e3:Uh s (YE σ.ma q (mx (σ.ma q) x.qX))=tab (nn s) fun j=>tab (mm s * mm s) ((YK s p x.qX σ).ma j):=by
  show _=tab (nn s) fun j=>tab (mm s * mm s) (YE σ.ma (inn s (p:Int)).toNat _ j)
  rw [<- hqe];rfl
 rw [KV,e3,e4,show(hal s σ).Za.qV=tab (nn s) σ.st from rfl,Z4 hq];simp only [Bq0];have e5:Z6.mk (Ze.mk (tab (nn s) σ.st) (tab (nn s) fun j=>tab (mm s * mm s) ((YK s p x.qX σ).ma j)) (tab (nn s) (YK s p x.qX σ).kn) (hal s σ).Za.Zk (hal s σ).Za.Zr (hal s σ).Za.kQ (hal s σ).Za.kK) (hal s σ).qK (hal s σ).kU=hal s (YK s p x.qX σ):=rfl;rw [e5,Xl];unfold ZbI Kt;rw [<- hqe];have e6:(YK s p x.qX σ).st q=σ.st q:=rfl;have h8:nn s <=8:=hS.p2;by_cases h2:σ.st q=2
 ·rw [decide_eq_true h2,Qn,Zd5 (by omega) hS hq (by have:=k3.len hS hq;omega)];by_cases hA:Alo s (YK s p x.qX σ) q
  ·rw [Yk hA];simp only [Bq0,Bool.and_self,Cq1];unfold ZBi;rw [Zp6 hF hS _ _ _ F (by omega) hq (Zc2 hS hq) w3 hB k3 (by rw [e6,h2];decide),Yk ⟨by rw [e6];exact h2,hA⟩];rfl
  ·rw [Z7 hA];simp only [Bq0,Bool.and_false,Cq0];rw [Z7 fun z=>hA z.2];rfl
 ·rw [decide_eq_false h2,Jj];simp only [Bq0,Bool.false_and,Cq0];rw [Z7 fun z=>h2 (by rw [<- e6];exact z.1)];rfl
theorem Zvk (hF:1000000 <=F) (hS:QJ s) (h:Gd s B σ) (hB:B <=600000) (ha:a < mm s) (hb:b < mm s) (hl:σ.ld (li s a b) < (σ.sn (li s a b)).length) (hx:ZwH s b (hd σ (li s a b))) (hd:Zs1 s (hd σ (li s a b)) σ):ZBq F (hal s σ) (a:Int) (b:Int)=some (hal s (ZeW s a b σ)):=by
 have hi:=KD ha hb;obtain⟨_,g'⟩:=Zmt h hi hl;have fw:=g'.wf.few (by omega);obtain⟨t1,t2⟩:=Zx0 h (by omega) hi hl;unfold ZBq;show(ZL (tab (mm s * mm s) (Jq σ)) (Yd (Yd ((a:Int) * s.qG) + (b:Int)))).bind _=_;rw [Ut hS ha hb,Z4 hi];simp only [Bq0];rw [Zx1 hl];simp only [Bq0];rw [t1];simp only [Bq0];unfold Zug;rw [Zlu (by rw [List.length_nil];omega)];simp only [Bq0,List.nil_append]
 have el:∀ (β:Type) (f:List Zg ->β),f (ZE (ZE (hal s σ).Za.kQ (Yd ((Yd ((a:Int) * (hal s σ).qK.qG)) + (b:Int))) (Zg.mk (Jq σ (li s a b)).Zt ((fl σ (li s a b)).drop 1))) (Yd ((Yd ((a:Int) * (hal s σ).qK.qG)) + (b:Int))) (Zg.mk (Yd ((Jq σ (li s a b)).Zt + 1)) ((fl σ (li s a b)).drop 1)))=f (tab (mm s * mm s) (Jq (drop1 (li s a b) σ))):=fun β f=>by
  rw [show(hal s σ).qK.qG=s.qG from rfl,Ut hS ha hb,show(hal s σ).Za.kQ=tab (mm s * mm s) (Jq σ) from rfl,ZdR h (by omega) hi hl]
 have el:=el _ id;simp only [id] at el;rw [el];have e5:Z6.mk (Ze.mk (hal s σ).Za.qV (hal s σ).Za.qX (hal s σ).Za.qZ (hal s σ).Za.Zk (hal s σ).Za.Zr (tab (mm s * mm s) (Jq (drop1 (li s a b) σ))) (hal s σ).Za.kK) (hal s σ).qK (hal s σ).kU=hal s (drop1 (li s a b) σ):=rfl;rw [e5];unfold ZeW ZkW;obtain⟨y,hy⟩:∃ y,y=Proofs.YtcnahmgekicbdaaGreat.hd σ (li s a b):= ⟨_,rfl⟩
 rw [<- hy] at hx hd |-;obtain⟨p,hp,hpn,c⟩:=hx;simp only [Xl];rcases c with⟨k,q,hq,hqn⟩ | ⟨k,q,hq,hqn⟩ | k | ⟨k,h0,hm⟩ | ⟨k,e,hm,q,hq,hqn⟩
 ·rw [decide_eq_true k,Cq1,if_pos k,Zol fw hq hqn,hp,hq,Int.toNat_natCast,Int.toNat_natCast]
  rfl
 ·rw [decide_eq_false (by omega),Cq0,decide_eq_true k,Cq1,if_neg (by omega),if_pos k,ZkU hS fw hp hq hpn hqn,hp,hq,Int.toNat_natCast,Int.toNat_natCast]
  rfl
 ·rw [decide_eq_false (by omega),Cq0,decide_eq_false (by omega),Cq0,decide_eq_true k,Cq1,if_neg (by omega),if_neg (by omega),if_pos k,hp,Int.toNat_natCast];show(ZL (tab (nn s) σ.st) (p:Int)).bind _=_;rw [Z4 hpn];simp only [Bq0];by_cases e:σ.st p=1
  ·rw [decide_eq_true e,Cq1,if_pos (show(drop1 (li s a b) σ).st p=1 from e)];unfold ZBs;have h8:nn s <=8:=hS.p2;rw [Zlc hF hS (nn s) _ _ F _ (by omega) hpn (KA.all hS.inn) g' (by omega) e];rfl
  ·rw [decide_eq_false e,Cq0,if_neg (show ¬ (drop1 (li s a b) σ).st p=1 from e)];rfl
 ·have hD:=ZeV hp hd k;rw [decide_eq_false (by omega),Cq0,decide_eq_false (by omega),Cq0,decide_eq_false (by omega),Cq0,decide_eq_true k,Cq1,if_neg (by omega),if_neg (by omega),if_neg (by omega),if_pos k,ZpI hF hS g' (by omega) hpn (by omega) hD.1 hD.2 hp hm,hp,Int.toNat_natCast];rfl
 ·rw [decide_eq_false (by omega),Cq0,decide_eq_false (by omega),Cq0,decide_eq_false (by omega),Cq0,decide_eq_false (by omega),Cq0,decide_eq_true k,Cq1,if_neg (by omega),if_neg (by omega),if_neg (by omega),if_neg (by omega)];unfold Zuf;rw [hp,Wo hS hpn,e];simp only [Bq0];rw [Zkw fw hb];rfl
end
end
section
section
variable {s:Zc} {σ:TS} {F B a b p q:Nat} {x:Zd} {l:List Int}
theorem Zsb (hF:1000000 <=F) (hS:QJ s) (h:Gd s B σ) (hi:li s a b < mm s * mm s) (ha:a < mm s) (hb:b < mm s) (hlt:σ.ld (li s a b) < (σ.sn (li s a b)).length) (hB:B <=600000) (hp:p < nn s) (h0:¬ inn s (p:Int) < 0) (h3:σ.st p=3) (hn:(p:Int) ∉ σ.kn (inn s (p:Int)).toNat) (hx:x.kV= (p:Int)) (hm:x.qX.length=mm s * mm s)
 (gd':Gd s B (drop1 (li s a b) σ)):
 loop F (ZiX F (XY s σ) (a:Int) (b:Int) (Jq σ (li s a b)) x ((fl σ (li s a b)).drop 1) (spt s p)) 0=some (XY s (ZbI s p x.qX (drop1 (li s a b) σ))):=by
 have h16:=ZdB hS;obtain⟨eq,hq⟩:=Jh hS hp h0;obtain⟨τ,hτ⟩:∃ τ,τ=drop1 (li s a b) σ:= ⟨_,rfl⟩
 have k3:Kn s (YK s p x.qX τ):=by rw [hτ];exact JV hS gd'.kn hp h0 h3 hn x.qX
 have w3:Wf s B (YK s p x.qX τ):=by rw [hτ];exact W9 gd'.wf
 obtain⟨q,hqe⟩:∃ q,q= (inn s (p:Int)).toNat:= ⟨_,rfl⟩
 rw [<- hqe] at eq hq hn;have hl:=h.kn.len hS hq;obtain⟨c,hc⟩:∃ c,c= ((σ.kn q).takeWhile fun x=>decide (x < (p:Int))).length:= ⟨_,rfl⟩
 have hcl:c <= (σ.kn q).length:=by rw [hc];exact ZaR
 have eL:ZE (ZE (XY s σ).w.kQ (Yd ((Yd ((a:Int) * (XY s σ).s.qG)) + (b:Int))) (Zg.mk (Jq σ (li s a b)).Zt ((fl σ (li s a b)).drop 1))) (Yd ((Yd ((a:Int) * (XY s σ).s.qG)) + (b:Int))) (Zg.mk (Yd ((Jq σ (li s a b)).Zt + 1)) ((fl σ (li s a b)).drop 1))=tab (mm s * mm s) (Jq τ):=by
  rw [show(XY s σ).s.qG=s.qG from rfl,Ut hS ha hb,show(XY s σ).w.kQ=tab (mm s * mm s) (Jq σ) from rfl,ZdR h (by omega) hi hlt,hτ]
 have e4:tab (nn s) (YE σ.kn q (ins (p:Int) (σ.kn q)))=tab (nn s) (YK s p x.qX τ).kn:=by
  show _=tab (nn s) (YE τ.kn (inn s (p:Int)).toNat _);rw [<- hqe,hτ];rfl
 have e3:Uh s (YE σ.ma q (mx (σ.ma q) x.qX))=tab (nn s) fun j=>tab (mm s * mm s) ((YK s p x.qX τ).ma j):=by
  show _=tab (nn s) fun j=>tab (mm s * mm s) (YE τ.ma (inn s (p:Int)).toNat _ j)
  rw [<- hqe,hτ];rfl
 have e5:Z5.mk (XY s σ).s (Ze.mk (tab (nn s) σ.st) (tab (nn s) fun j=>tab (mm s * mm s) ((YK s p x.qX τ).ma j)) (tab (nn s) (YK s p x.qX τ).kn) (XY s σ).w.Zk (XY s σ).w.Zr (tab (mm s * mm s) (Jq τ)) (XY s σ).w.kK) (XY s σ).kU=XY s (YK s p x.qX τ):=by rw [hτ];rfl
 have e6:(YK s p x.qX τ).st q=σ.st q:=by rw [hτ];rfl
 have h8:nn s <=8:=hS.p2;have self:ZE (tab (nn s) σ.kn) (q:Int) (σ.kn q)=tab (nn s) σ.kn:=by rw [XD,ZfV]
 have eK:(XY s σ).w.qZ=tab (nn s) σ.kn:=rfl;have eS:(XY s σ).w.qV=tab (nn s) σ.st:=rfl;have eM:(XY s σ).w.qX=Uh s σ.ma:=rfl
 have done:∀ (K:List Int ->Option Z5),K= (fun z222=>(ZL (Uh s σ.ma) (q:Int)).bind fun ZDk=>(Zd2 F ZDk x.qX).bind fun ZjG=>(gd (σ.st q==2) (Zf0 F (Z5.mk (XY s σ).s (Ze.mk (tab (nn s) σ.st) (ZE (Uh s σ.ma) (q:Int) ZjG) (ZE (tab (nn s) σ.kn) (q:Int) z222) (XY s σ).w.Zk (XY s σ).w.Zr (tab (mm s * mm s) (Jq τ)) (XY s σ).w.kK) (XY s σ).kU) (q:Int)) default).bind fun ZDj=>(bif((σ.st q==2) && ZDj) then(ZpL F (Z5.mk (XY s σ).s (Ze.mk (tab (nn s) σ.st) (ZE (Uh s σ.ma) (q:Int) ZjG) (ZE (tab (nn s) σ.kn) (q:Int) z222) (XY s σ).w.Zk (XY s σ).w.Zr (tab (mm s * mm s) (Jq τ)) (XY s σ).w.kK) (XY s σ).kU) (q:Int)).bind fun Kl=>(ZcP) (Kl.s.qG,Kl.s.Zh,Kl.w.qV,Kl.w.qX,Kl.w.qZ,Kl.w.Zk,Kl.w.Zr,Kl.w.kQ,Kl.w.kK,Kl.kU) else(ZcP) ((XY s σ).s.qG,(XY s σ).s.Zh,tab (nn s) σ.st,ZE (Uh s σ.ma) (q:Int) ZjG,ZE (tab (nn s) σ.kn) (q:Int) z222,(XY s σ).w.Zk,(XY s σ).w.Zr,tab (mm s * mm s) (Jq τ),(XY s σ).w.kK,(XY s σ).kU))) ->K (ins (p:Int) (σ.kn q))=some (XY s (ZbI s p x.qX τ)):=by
  intro K hK;subst hK;dsimp only;rw [Za1 hq];simp only [Bq0];rw [ZrA (by omega) (by omega) hm];simp only [Bq0];rw [KV,e3,XD,e4,e5,Xl];unfold ZbI Kt;rw [<- hqe];by_cases h2:σ.st q=2
  ·rw [decide_eq_true h2,Qn,Zgr (by omega) hS hq (by have:=k3.len hS hq;omega)];by_cases hA:Alo s (YK s p x.qX τ) q
   ·rw [Yk hA];simp only [Bq0,Bool.and_self,Cq1];unfold ZpL;rw [Zup hF hS _ _ _ F (by omega) hq (Zc2 hS hq) w3 (by omega) k3 (by rw [e6,h2];decide),Yk ⟨by rw [e6];exact h2,hA⟩];rfl
   ·rw [Z7 hA];simp only [Bq0,Bool.and_false,Cq0];rw [Z7 fun z=>hA z.2,<- e5];rfl
  ·rw [decide_eq_false h2,Jj];simp only [Bq0,Bool.false_and,Cq0];rw [Z7 fun z=>h2 (by rw [<- e6];exact z.1),<- e5];rfl
 rw [<- hτ];refine Xz (fun k=>(k:Int)) rfl (n:=c) (by omega) (fun k hk' next=>?_) (fun next=>?_)
 ·unfold ZiX;rw [QE,eq,hx,eK,Z4 hq];simp only [Bq0];have:=Zxx (l:=σ.kn q) (k:= (p:Int)) k (by omega);rw [YF (show k < (σ.kn q).length by omega),Cq1,Qi 0 (by omega)];simp only [Bq0];rw [decide_eq_true this,Cq1,Qe (by omega)]
 ·unfold ZiX;rw [QE,eq,hx,eK,Z4 hq];simp only [Bq0];by_cases hlt':c < (σ.kn q).length
  ·have:=Zxy (h.kn.srt q hq) (k:= (p:Int)) c (by omega) hlt';rw [YF hlt',Cq1,Qi 0 hlt'];simp only [Bq0];rw [decide_eq_false (by omega),Cq0];simp only [Z4 hq,Bq0,self,eL,eS,eM];exact(ZDK (by omega) hc _).trans (done _ rfl)
  ·have:c= (σ.kn q).length:=by omega
   rw [decide_eq_false (show ¬ ((c:Int) < ((σ.kn q).length:Int)) by omega),Cq0];simp only [Z4 hq,Bq0,self,eL,eS,eM];exact(ZDK (by omega) hc _).trans (done _ rfl)
theorem ZyZ (hF:1000000 <=F) (hS:QJ s) (h:Gd s B σ) (hB:B <=600000) (ha:a < mm s) (hb:b < mm s) (hl:σ.ld (li s a b) < (σ.sn (li s a b)).length) (hx:ZwH s b (hd σ (li s a b))) (hd:Zs1 s (hd σ (li s a b)) σ):ZBB F (XY s σ) (a:Int) (b:Int)=some (XY s (ZeW s a b σ)):=by
 have hi:=KD ha hb;obtain⟨_,g'⟩:=Zmt h hi hl;have fw:=g'.wf.few (by omega);obtain⟨t1,t2⟩:=Zx0 h (by omega) hi hl;unfold ZBB
 have e0:ZL (XY s σ).w.kQ (Yd ((Yd ((a:Int) * (XY s σ).s.qG)) + (b:Int)))=some (Jq σ (li s a b)):=by
  rw [show(XY s σ).s.qG=s.qG from rfl,Ut hS ha hb,show(XY s σ).w.kQ=tab (mm s * mm s) (Jq σ) from rfl,Z4 hi]
 rw [e0];simp only [Bq0];rw [Zx1 hl];simp only [Bq0];rw [t1];simp only [Bq0];rw [Zlu (by rw [List.length_nil];omega)];simp only [Bq0,List.nil_append]
 have el:ZE (ZE (XY s σ).w.kQ (Yd ((Yd ((a:Int) * (XY s σ).s.qG)) + (b:Int))) (Zg.mk (Jq σ (li s a b)).Zt ((fl σ (li s a b)).drop 1))) (Yd ((Yd ((a:Int) * (XY s σ).s.qG)) + (b:Int))) (Zg.mk (Yd ((Jq σ (li s a b)).Zt + 1)) ((fl σ (li s a b)).drop 1))=tab (mm s * mm s) (Jq (drop1 (li s a b) σ)):=by
  rw [show(XY s σ).s.qG=s.qG from rfl,Ut hS ha hb,show(XY s σ).w.kQ=tab (mm s * mm s) (Jq σ) from rfl,ZdR h (by omega) hi hl]
 rw [el];have e5:Z5.mk (XY s σ).s (Ze.mk (XY s σ).w.qV (XY s σ).w.qX (XY s σ).w.qZ (XY s σ).w.Zk (XY s σ).w.Zr (tab (mm s * mm s) (Jq (drop1 (li s a b) σ))) (XY s σ).w.kK) (XY s σ).kU=XY s (drop1 (li s a b) σ):=rfl;rw [e5];unfold ZeW ZkW;obtain⟨y,hy⟩:∃ y,y=Proofs.YtcnahmgekicbdaaGreat.hd σ (li s a b):= ⟨_,rfl⟩
 rw [<- hy] at hx hd |-;obtain⟨p,hp,hpn,c⟩:=hx;simp only [Xl];rcases c with⟨k,q,hq,hqn⟩ | ⟨k,q,hq,hqn⟩ | k | ⟨k,h0,hm⟩ | ⟨k,e,hm,q,hq,hqn⟩
 ·rw [decide_eq_true k,Cq1,if_pos k,hp,hq,Zs8 fw hqn hpn,Int.toNat_natCast,Int.toNat_natCast]
  rfl
 ·rw [decide_eq_false (by omega),Cq0,decide_eq_true k,Cq1,if_neg (by omega),if_pos k,hp,hq,ZoL hS fw hpn hqn,Int.toNat_natCast,Int.toNat_natCast]
  rfl
 ·rw [decide_eq_false (by omega),Cq0,decide_eq_false (by omega),Cq0,decide_eq_true k,Cq1,if_neg (by omega),if_neg (by omega),if_pos k,hp,Int.toNat_natCast];unfold ZBw;have h8:nn s <=8:=hS.p2;rw [ZpJ hF hS (nn s) _ _ F _ (by omega) hpn (KA.all hS.inn) g' (by omega)];rfl
 ·have hD:=ZeV hp hd k;rw [decide_eq_false (by omega),Cq0,decide_eq_false (by omega),Cq0,decide_eq_false (by omega),Cq0,decide_eq_true k,Cq1,if_neg (by omega),if_neg (by omega),if_neg (by omega),if_pos k,hp,Int.toNat_natCast];rw [show ZL (XY s σ).s.Zh (p:Int)=some (spt s p) from X5 hpn];simp only [Bq0];exact Zsb hF hS h hi ha hb hl hB hpn (by omega) hD.1 hD.2 hp hm (g'.up (by omega))
 ·rw [decide_eq_false (by omega),Cq0,decide_eq_false (by omega),Cq0,decide_eq_false (by omega),Cq0,decide_eq_false (by omega),Cq0,decide_eq_true k,Cq1,if_neg (by omega),if_neg (by omega),if_neg (by omega),if_neg (by omega)];rw [show ZL (XY s σ).w.Zr (b:Int)=some (σ.be b) from Z4 hb];simp only [Bq0];have hbe:=fw.be b hb;rw [Zlu (by show(σ.be b).length + _ <=_;rw [List.length_singleton];have:((drop1 (li s a b) σ).be b)=σ.be b:=rfl;rw [this] at hbe;omega)];simp only [Bq0];rw [show ZE (XY s σ).w.Zr (b:Int) (σ.be b ++ [y])=tab (mm s) (YE σ.be b (σ.be b ++ [y])) from XD]
  rfl
end
end
section
noncomputable section
def dep (s:Zc) (q:Nat):Nat:=@dite _ (∃ m,m <=nn s/\up s (m + 1) (q:Int) < 0/\∀ k,k < m ->¬ up s (k + 1) (q:Int) < 0) (Classical.propDecidable _) (fun h=>Classical.choose h) (fun _=>0)
def rdy (s:Zc) (ld:Nat ->Nat) (w:Nat) (x:Zd):Prop:=∀ b:Nat,b < mm s ->b ≠ w ->x.qX.getD (li s b w) 0 <= (ld (li s b w):Int)
def ZbD (s:Zc) (x:Zd):Nat:=dep s x.kX.toNat
def Uo (s:Zc) (ld:Nat ->Nat) (w:Nat) (l:List Zd):Nat ->Option Nat
 | 0=>none
 | k + 1=>ifc (rdy s ld w (l.getD k default)/\∀ j,Uo s ld w l k=some j ->ZbD s (l.getD j default) < ZbD s (l.getD k default)) (some k) (Uo s ld w l k)
def Zb8 {α:Type} (l:List α) (i:Nat):List α:=l.take i ++ l.drop (i + 1)
def rung (s:Zc) (w i:Nat) (σ:TS):TS:=
 if σ.st ((σ.be w).getD i default).kV.toNat=1 then tell 4 ((σ.be w).getD i default).kV ((σ.be w).getD i default).kX 0 {σ with be:=YE σ.be w (Zb8 (σ.be w) i)} else{σ with be:=YE σ.be w (Zb8 (σ.be w) i)}
def Zck (s:Zc) (w:Nat):Nat ->TS ->TS
 | 0,σ=>σ
 | n + 1,σ=>match Uo s σ.ld w (σ.be w) (σ.be w).length with
   | none=>σ
   | some i=>Zck s w n (rung s w i σ)
end
def BeS (s:Zc) (x:Zd):Prop:= (∃ p:Nat,x.kV= (p:Int)/\p < nn s)/\(∃ q:Nat,x.kX= (q:Int)/\q < nn s)/\x.qX.length=mm s * mm s
section
variable {s:Zc} {σ:TS} {F B a b p q w:Nat} {x:Zd} {l:List Zd}
theorem Zp8 (hS:QJ s) (hq:q < nn s):dep s q <=nn s/\up s (dep s q + 1) (q:Int) < 0/\∀ k,k < dep s q ->¬ up s (k + 1) (q:Int) < 0:=by
 have h:∃ m,m <=nn s/\up s (m + 1) (q:Int) < 0/\∀ k,k < m ->¬ up s (k + 1) (q:Int) < 0:=
  ZcL (c:=fun k=>up s (k + 1) (q:Int) < 0) (n:=nn s) (U6 (hS.inn.acy q hq) (by unfold nn;omega))
 unfold dep;rw [dif_pos h];exact Classical.choose_spec h
theorem Zi9 {β:Type} (hF:1000 <=F) (hS:QJ s) (hq:q < nn s) {r:Int ->Option β} {body:Int×Int ->(Int×Int ->Option β) ->Option β}
 (hb:∀ v n next,body (v,n) next=bif decide (v >=0) then(ZL s.Zh v).bind fun x=>next (x.Xw,Yd (n + 1)) else r n):loop F body (inn s (q:Int),0)=r (dep s q:Int):=by
 obtain⟨h1,h2,h3⟩:=Zp8 hS hq;have h8:nn s <=8:=hS.p2;refine Xz (fun k=>(up s (k + 1) (q:Int),(k:Int))) (by show(up s (0 + 1) (q:Int),((0:Nat):Int))=_;rw [up1];rfl) (n:=dep s q) (by omega) (fun k hk next=>?_) (fun next=>?_)
 ·have h:=h3 k hk;obtain⟨j,e,hj⟩:=ZbB (hS.inn.up (q:= (q:Int)) ⟨by omega,by unfold nn at hq;omega⟩ (k + 1)) h;rw [hb,U5 s (k + 1),if_neg h,e,Zdg,Cq1,X5 hj];simp only [Bq0];rw [QE,Qe (by omega)]
 ·rw [hb,decide_eq_false (by omega),Cq0]
theorem Zuq (hF:1000 <=F) (hS:QJ s) (hq:q < nn s):∃ L,ZvR F s (q:Int)=some L/\L.length=dep s q:=by
 obtain⟨h1,h2,h3⟩:=Zp8 hS hq;have h8:nn s <=8:=hS.p2;refine⟨arK s q (dep s q),?_,Zuu _ _ _⟩;unfold ZvR;rw [X5 hq];simp only [Bq0];rw [QE];refine Xz (fun k=>(arK s q k,up s (k + 1) (q:Int))) (by show(arK s q 0,up s (0 + 1) (q:Int))=_;rw [up1];rfl) (n:=dep s q) (by omega) (fun k hk next=>?_) (fun next=>?_)
 ·have h:=h3 k hk;obtain⟨j,e,hj⟩:=ZbB (hS.inn.up (q:= (q:Int)) ⟨by omega,by unfold nn at hq;omega⟩ (k + 1)) h;unfold Zm3;dsimp only;rw [U5 s (k + 1),if_neg h,ZCe,e,Zdg,Cq1,ZnH (by rw [Zuu,List.length_singleton];omega),X5 hj];simp only [Bq0];rw [QE]
 ·unfold Zm3;dsimp only;rw [decide_eq_false (by omega),Cq0]
theorem Zra (hF:1000 <=F) (hS:QJ s) (hw:w < mm s) (hx:x.qX.length=mm s * mm s):ZpR F (hal s σ) (w:Int) x=ifc (rdy s σ.ld w x) (some true) (some false):=by
 have h4:=hS.mm.2.2;unfold ZpR
 exact KM (body:=Ze9 (hal s σ) (w:Int) x) (r1:=some false) (r2:=some true) (s0:= (0:Int)) (fun k=>(k:Int)) rfl (fun k:Nat=>k ≠ w ->x.qX.getD (li s k w) 0 <= (σ.ld (li s k w):Int)) (n:=mm s) (F:=F) (by omega) (fun k hk next=>by
  unfold Ze9;rw [show(hal s σ).qK.qG=s.qG from rfl,Za2 hS hk,Cq1];by_cases e:k=w
  ·subst e;rw [show(((k:Int)) != ((k:Int)))=false by simp,Cq0,Yk (fun z=>absurd rfl z),Qe (by omega)]
  ·have e1:(((k:Int)) != ((w:Int)))=true:=by rw [KP];exact decide_eq_true (by omega)
   have hi:=KD hk hw;rw [e1,Cq1,Ut hS hk hw,show(hal s σ).Za.kQ=tab (mm s * mm s) (Jq σ) from rfl,Z4 hi];simp only [Bq0];rw [Qi 0 (by rw [hx];exact hi)];simp only [Bq0];rw [show(Jq σ (li s k w)).Zt= (σ.ld (li s k w):Int) from rfl];by_cases c:x.qX.getD (li s k w) 0 <= (σ.ld (li s k w):Int)
   ·rw [decide_eq_false (by omega),Cq0,Yk (fun _=>c),Qe (by omega)]
   ·rw [decide_eq_true (by omega),Cq1,Z7 (fun z=>c (z e))]) (fun next=>by
  unfold Ze9;rw [show(hal s σ).qK.qG=s.qG from rfl,ZeS hS,Cq0])
theorem ZuW (hF:1000 <=F) (hS:QJ s) (hw:w < mm s) (hx:x.qX.length=mm s * mm s):ZBp F (XY s σ) x (w:Int)=ifc (rdy s σ.ld w x) (some true) (some false):=by
 have h4:=hS.mm.2.2;unfold ZBp
 exact KM (body:=ZiS (XY s σ) x (w:Int)) (r1:=some false) (r2:=some true) (s0:= (0:Int)) (fun k=>(k:Int)) rfl (fun k:Nat=>k ≠ w ->x.qX.getD (li s k w) 0 <= (σ.ld (li s k w):Int)) (n:=mm s) (F:=F) (by omega) (fun k hk next=>by
  unfold ZiS;rw [show(XY s σ).s.qG=s.qG from rfl,Za2 hS hk,Cq1];by_cases e:k=w
  ·subst e;rw [show(((k:Int)) != ((k:Int)))=false by simp,Jj];simp only [Bq0];rw [Jj];simp only [Bq0,Bool.false_and,Cq0];rw [Yk (fun z=>absurd rfl z),Qe (by omega)]
  ·have e1:(((k:Int)) != ((w:Int)))=true:=by rw [KP];exact decide_eq_true (by omega)
   have hi:=KD hk hw;rw [e1,Qn,Ut hS hk hw,show(XY s σ).w.kQ=tab (mm s * mm s) (Jq σ) from rfl,Z4 hi];simp only [Bq0];rw [Qn,Qi 0 (by rw [hx];exact hi)];simp only [Bq0,Bool.true_and];rw [show(Jq σ (li s k w)).Zt= (σ.ld (li s k w):Int) from rfl];by_cases c:x.qX.getD (li s k w) 0 <= (σ.ld (li s k w):Int)
   ·rw [decide_eq_false (by omega),Cq0,Yk (fun _=>c),Qe (by omega)]
   ·rw [decide_eq_true (by omega),Cq1,Z7 (fun z=>c (z e))]) (fun next=>by
  unfold ZiS;rw [show(XY s σ).s.qG=s.qG from rfl,ZeS hS,Cq0])
theorem Zhd {ld:Nat ->Nat}:∀ k j,Uo s ld w l k=some j ->j < k:=by
 intro k
 induction k with
 | zero=>intro j h;cases h
 | succ k ih=>
   intro j h;rw [Uo] at h;by_cases c:rdy s ld w (l.getD k default)/\∀ j,Uo s ld w l k=some j ->ZbD s (l.getD j default) < ZbD s (l.getD k default)
   ·rw [Yk c] at h;cases h;omega
   ·rw [Z7 c] at h;have:=ih j h;omega
def pI (o:Option Nat):Int:=match o with | none=>-1 | some j=>(j:Int)
noncomputable def pD (s:Zc) (l:List Zd) (o:Option Nat):Int:=match o with | none=>0 | some j=>(ZbD s (l.getD j default):Int)
theorem ZkR (hF:1000000 <=F) (hS:QJ s) (hw:w < mm s) (hl:l.length <=700000) (hx:∀ x ∈ l,BeS s x):
 ZiT F (w:Int) (tab (nn s) σ.st) (tab (nn s) fun p=>tab (mm s * mm s) (σ.ma p)) (tab (nn s) σ.kn) (tab (nn s) σ.wa) (tab (mm s) σ.be) (tab (mm s * mm s) (Jq σ)) σ.sd s.qG s.Zh σ.ev l=some (pI (Uo s σ.ld w l l.length)):=by
 unfold ZiT;refine Xz (fun k=>(pI (Uo s σ.ld w l k),pD s l (Uo s σ.ld w l k),(k:Int))) rfl (n:=l.length) (by omega) (fun k hk next=>?_) (fun next=>?_)
 ·unfold ZmO;dsimp only;rw [YF hk,Cq1,Qi default hk];simp only [Bq0];obtain⟨x,ex⟩:∃ x,x=l.getD k default:= ⟨_,rfl⟩
  obtain⟨_,⟨q,hq,hqn⟩,hm⟩:=hx _ (QO (d:=default) hk);rw [<- ex] at hq hm |-;rw [Zpq,Zra (by omega) hS hw hm,hq];have ed:ZbD s x=dep s q:=by unfold ZbD;rw [hq,Int.toNat_natCast]
  rw [Uo,<- ex];have j0:∀ (a b:Int),ZcN (k:Int) next (a,b)=next (a,b,((k + 1:Nat):Int)):=fun a b=>by unfold ZcN;dsimp only;rw [Qe (by omega)]
  by_cases r:rdy s σ.ld w x
  ·rw [Yk r];simp only [Bq0,Bool.true_and];cases hpk:Uo s σ.ld w l k with
   | none=>
     rw [show decide (pI none < 0)=true from rfl,Bool.not_true,Cq0,Cq1];unfold ZmL;simp only [Bq0];rw [X5 hqn];simp only [Bq0];rw [QE,Zi9 (r:=fun n=>Zf1 (k:Int) next n) (by omega) hS hqn (fun v n nx=>by unfold Zsf;dsimp only;rw [Bool.not_true,Cq0]),Yk ⟨r,fun j z=>by cases z⟩];unfold Zf1;rw [j0];show _=next ((k:Int),(ZbD s (l.getD k default):Int),_);rw [<- ex,ed]
   | some j=>
     rw [show decide (pI (some j) < 0)=false from decide_eq_false (by simp [pI]),Bool.not_false,Cq1];unfold ZmN;simp only [Bq0];rw [X5 hqn];simp only [Bq0];rw [QE,Zi9 (r:=fun n=>Zf3 F s.Zh (pI (some j)) (pD s l (some j)) (k:Int) next x true n) (by omega) hS hqn (fun v n nx=>by unfold Zsg;dsimp only;rw [Bool.not_true,Cq0])];unfold Zf3;rw [Bool.true_and];by_cases c:ZbD s (l.getD j default) < ZbD s x
     ·rw [decide_eq_true (show(dep s q:Int) > pD s l (some j) by show(dep s q:Int) > (ZbD s (l.getD j default):Int);omega),Cq1];unfold ZmM;simp only [Bq0];rw [hq,X5 hqn];simp only [Bq0];rw [QE,Zi9 (r:=fun n=>Zf2 (k:Int) next n) (by omega) hS hqn (fun v n nx=>by unfold Zsh;dsimp only;rw [Bool.not_true,Cq0]),Yk ⟨r,fun j' z=>by cases z;exact c⟩];unfold Zf2;rw [j0];show _=next ((k:Int),(ZbD s (l.getD k default):Int),_);rw [<- ex,ed]
     ·rw [decide_eq_false (show ¬ (dep s q:Int) > pD s l (some j) by show ¬ (dep s q:Int) > (ZbD s (l.getD j default):Int);omega),Cq0,Z7 (fun z=>c (z.2 j rfl)),j0]
  ·rw [Z7 r,Z7 (fun z=>r z.1)];simp only [Bq0,Bool.false_and,Cq0];rw [j0]
 ·unfold ZmO;dsimp only;rw [Xk,Cq0]
end
end
section
noncomputable def rings (s:Zc):Nat ->TS ->TS
 | 0,σ=>σ
 | k + 1,σ=>Zck s k ((rings s k σ).be k).length (rings s k σ)
def BeA (s:Zc) (σ:TS):Prop:=∀ w,w < mm s ->∀ x ∈ σ.be w,BeS s x
section
variable {s:Zc} {σ:TS} {F B a b p q w i n:Nat} {x:Zd} {l:List Zd}
theorem ZcT {α:Type} {l:List α} {i:Nat} (h:i < l.length):(Zb8 l i).length + 1=l.length:=by
 unfold Zb8;rw [List.length_append,List.length_take,List.length_drop];omega
theorem Zqa {α:Type} {l:List α} {i:Nat} {x:α} (h:x ∈ Zb8 l i):x ∈ l:=by
 unfold Zb8 at h;rcases List.mem_append.1 h with h | h
 ·exact List.mem_of_mem_take h
 ·exact List.mem_of_mem_drop h
theorem Zan (s:Zc) (w i:Nat) (σ:TS):(rung s w i σ).be=YE σ.be w (Zb8 (σ.be w) i)/\(rung s w i σ).ld=σ.ld/\(rung s w i σ).st=σ.st/\(rung s w i σ).kn=σ.kn/\(rung s w i σ).ma=σ.ma/\(rung s w i σ).sn=σ.sn/\(rung s w i σ).wa=σ.wa/\(rung s w i σ).sd=σ.sd:=by
 unfold rung;split <;> exact⟨rfl,rfl,rfl,rfl,rfl,rfl,rfl,rfl⟩
theorem ZlV (h:Gd s B σ) (hw:w < mm s) (hi:i < (σ.be w).length):Gd s B (rung s w i σ):=by
 have hb:=h.wf.pot;have h1:(σ.be w).length <=Pot s σ:=by have:=J4 (f:=fun m=>(σ.be m).length) hw;unfold Pot;omega
 have hp:=Zl0 (s:=s) (σ:=σ) hw (Zb8 (σ.be w) i);have hc:=ZcT hi;have w1:Wf s (B - 1) {σ with be:=YE σ.be w (Zb8 (σ.be w) i)}:= ⟨by omega,h.wf.ld,h.wf.ws⟩
 unfold rung;split
 ·exact⟨(w1.tell _ _ _ _).up (by omega),⟨h.kn.srt,h.kn.rng⟩⟩
 ·exact⟨w1.up (by omega),⟨h.kn.srt,h.kn.rng⟩⟩
theorem Zh2 (h:BeA s σ):BeA s (rung s w i σ):=fun v hv x hx=>by
 rw [(Zan s w i σ).1] at hx;by_cases e:v=w
 ·subst e;rw [Ye] at hx;exact h v hv x (Zqa hx)
 ·rw [Xg e] at hx;exact h v hv x hx
theorem ZDL (hw:w < mm s):∀ (n:Nat) (σ:TS),Gd s B σ ->BeA s σ ->Gd s B (Zck s w n σ)/\BeA s (Zck s w n σ):=by
 intro n
 induction n with
 | zero=>intro σ h hb;exact⟨h,hb⟩
 | succ n ih=>
   intro σ h hb;rw [Zck];cases hpk:Uo s σ.ld w (σ.be w) (σ.be w).length with
   | none=>exact⟨h,hb⟩
   | some i=>exact ih _ (ZlV h hw (Zhd _ _ hpk)) (Zh2 hb)
theorem Zh5 (h:Gd s B σ) (hb:BeA s σ):∀ k,k <=mm s ->Gd s B (rings s k σ)/\BeA s (rings s k σ):=by
 intro k
 induction k with
 | zero=>intro _;exact⟨h,hb⟩
 | succ k ih=>
   intro hk;obtain⟨h1,h2⟩:=ih (by omega);exact ZDL (by omega) _ _ h1 h2
theorem del_eq (hi:i < l.length) (hl:l.length <=700000):ZpQ l (i:Int) (Yd ((i:Int) + 1))=some (Zb8 l i):=by
 unfold ZpQ;rw [Qe (by omega)]
 have e1:slL l (i:Int) ((i + 1:Nat):Int)=some ((l.take (i + 1)).drop i):=by
  unfold slL;rw [decide_eq_true (show(0:Int) <= (i:Int) by omega),decide_eq_true (show(i:Int) <= ((i + 1:Nat):Int) by omega),decide_eq_true (show((i + 1:Nat):Int) <= (l.length:Int) by omega)]
  rfl
 rw [e1];simp only [Bq0];rw [Xl,decide_eq_false (by omega),Cq0,ZlS (by omega)];simp only [Bq0];rw [Zha (by omega)];simp only [Bq0];rw [Zlu (by rw [List.length_take,List.length_drop];omega)];rfl
theorem ZuT (hF:1000000 <=F) (hS:QJ s) (hB:B <=600000) (hw:w < mm s):∀ (n F':Nat) (σ:TS),n < F' ->(σ.be w).length <=n ->Gd s B σ ->BeA s σ ->loop F' (ZdY F (w:Int)) (ZbJ s σ)=some (hal s (Zck s w n σ)):=by
 intro n
 induction n with
 | zero=>
   intro F' σ hn hl h hb;cases F' with
   | zero=>omega
   | succ F'=>
     rw [Jd];unfold ZdY ZbJ;dsimp only;rw [Z4 hw];simp only [Bq0];rw [ZkR hF hS hw (by omega) (hb w hw)];have:(σ.be w).length=0:=by omega
     simp only [Bq0];rw [this,show decide (pI (Uo s σ.ld w (σ.be w) 0) < 0)=true from rfl,Cq1];rfl
 | succ n ih=>
   intro F' σ hn hl h hb;cases F' with
   | zero=>omega
   | succ F'=>
     rw [Jd];generalize hnx:loop F' (ZdY F (w:Int))=nx;have hlen:= (h.wf.few (by omega)).be w hw;unfold ZdY;rw [show ZbJ s σ= (tab (nn s) σ.st,(tab (nn s) fun j=>tab (mm s * mm s) (σ.ma j)),tab (nn s) σ.kn,tab (nn s) σ.wa,tab (mm s) σ.be,tab (mm s * mm s) (Jq σ),σ.sd,s.qG,s.Zh,σ.ev) from rfl];dsimp only;have hl7:(σ.be w).length <=600000:=by have:=h.wf.pot;have:=J4 (f:=fun m=>(σ.be m).length) hw;unfold Pot at *;omega
     rw [Z4 hw];simp only [Bq0];rw [ZkR hF hS hw (by omega) (hb w hw),Zck];simp only [Bq0];cases hpk:Uo s σ.ld w (σ.be w) (σ.be w).length with
     | none=>rw [show decide (pI none < 0)=true from rfl,Cq1];rfl
     | some i=>
       have hi:=Zhd _ _ hpk;rw [decide_eq_false (show ¬ pI (some i) < 0 by simp [pI]),Cq0,show pI (some i)= (i:Int) from rfl,Qi default hi];simp only [Bq0];rw [del_eq hi (by omega)];simp only [Bq0];obtain⟨⟨p,hp,hpn⟩,_,_⟩:=hb w hw _ (QO (d:=default) hi);rw [hp,Z4 hpn];simp only [Bq0];have gr:=ZlV h hw hi;have br:=Zh2 (w:=w) (i:=i) hb;have lr:((rung s w i σ).be w).length <=n:=by rw [(Zan s w i σ).1,Ye];have:=ZcT hi;omega
       have hih:=ih F' (rung s w i σ) (by omega) lr gr br;rw [hnx] at hih;refine Eq.trans ?_ hih;unfold rung;rw [hp,Int.toNat_natCast,Xl,XD];by_cases e:σ.st p=1
       ·rw [decide_eq_true e,Cq1,if_pos e,show Z6.mk (Ze.mk (tab (nn s) σ.st) (tab (nn s) fun j=>tab (mm s * mm s) (σ.ma j)) (tab (nn s) σ.kn) (tab (nn s) σ.wa) (tab (mm s) (YE σ.be w (Zb8 (σ.be w) i))) (tab (mm s * mm s) (Jq σ)) σ.sd) (Zc.mk s.qG s.Zh) σ.ev=hal s {σ with be:=YE σ.be w (Zb8 (σ.be w) i)} from rfl];have hpb:=Zl0 (s:=s) (σ:=σ) hw (Zb8 (σ.be w) i);have:=ZcT hi;have:=h.wf.pot;have w1:Wf s B {σ with be:=YE σ.be w (Zb8 (σ.be w) i)}:= ⟨by omega,h.wf.ld,h.wf.ws⟩
        rw [KT (w1.few (by omega))]
        rfl
       ·rw [decide_eq_false e,Cq0,if_neg e];rfl
theorem ZoJ (hF:1000000 <=F) (hS:QJ s) (hw:w < mm s) (hl:(σ.be w).length <=700000) (hx:∀ x ∈ σ.be w,BeS s x) (Us:Int×Int×List ZV×List Int×List (List Int)×List (List Int)×List (List Int)×List (List Zd)×List Zg×Int×List Zv ->Option Z5) (ZcB:Int×List ZV×List Int×List (List Int)×List (List Int)×List (List Int)×List (List Zd)×List Zg×Int×List Zv ->Option Z5) {r:Option Z5}
 (he:∀ nx,Zd1 F (w:Int) Us s.qG s.Zh (tab (nn s) σ.st) (tab (nn s) fun p=>tab (mm s * mm s) (σ.ma p)) (tab (nn s) σ.kn) (tab (nn s) σ.wa) (tab (mm s) σ.be) (tab (mm s * mm s) (Jq σ)) σ.sd σ.ev ZcB (σ.be w) (pI (Uo s σ.ld w (σ.be w) (σ.be w).length),(((σ.be w).length:Nat):Int)) nx=r):
 loop F (Zd1 F (w:Int) Us s.qG s.Zh (tab (nn s) σ.st) (tab (nn s) fun p=>tab (mm s * mm s) (σ.ma p)) (tab (nn s) σ.kn) (tab (nn s) σ.wa) (tab (mm s) σ.be) (tab (mm s * mm s) (Jq σ)) σ.sd σ.ev ZcB (σ.be w)) ((-1),0)=r:=by
 refine Xz (fun k=>(pI (Uo s σ.ld w (σ.be w) k),(k:Int))) rfl (n:= (σ.be w).length) (by omega) (fun k hk next=>?_) he;have j0:∀ (a:Int),ZcO (k:Int) next a=next (a,((k + 1:Nat):Int)):=fun a=>by unfold ZcO;rw [Qe (by omega)]
 unfold Zd1;dsimp only;rw [YF hk,Cq1,Qi default hk];simp only [Bq0];obtain⟨x,ex⟩:∃ x,x= (σ.be w).getD k default:= ⟨_,rfl⟩
 obtain⟨_,⟨q,hq,hqn⟩,hm⟩:=hx _ (QO (d:=default) hk);rw [<- ex] at hq hm |-;rw [Zpx,ZuW (by omega) hS hw hm,hq];have ed:ZbD s x=dep s q:=by unfold ZbD;rw [hq,Int.toNat_natCast]
 rw [Uo,<- ex];by_cases r:rdy s σ.ld w x
 ·rw [Yk r];simp only [Bq0,Bool.true_and];cases hpk:Uo s σ.ld w (σ.be w) k with
  | none=>
    rw [show decide (pI none < 0)=true from rfl,Bool.not_true,Cq0,Cq1,Yk ⟨r,fun j z=>by cases z⟩,j0];rfl
  | some j=>
    have hj:=Zhd _ _ hpk;obtain⟨_,⟨q',hq',ZYa⟩,_⟩:=hx _ (QO (d:=default) (show j < (σ.be w).length by omega));obtain⟨L,e1,e2⟩:=Zuq (F:=F) (by omega) hS hqn;obtain⟨L',e1',e2'⟩:=Zuq (F:=F) (by omega) hS ZYa;have ed':ZbD s ((σ.be w).getD j default)=dep s q':=by unfold ZbD;rw [hq',Int.toNat_natCast]
    rw [show decide (pI (some j) < 0)=false from decide_eq_false (by simp [pI]),Bool.not_false,Cq1,show(Zc.mk s.qG s.Zh)=s from rfl,e1];simp only [Bq0];rw [Z4 hw];simp only [Bq0];rw [show pI (some j)= (j:Int) from rfl,Qi default (by omega)];simp only [Bq0];rw [hq',e1'];simp only [Bq0];rw [e2,e2'];by_cases c:ZbD s ((σ.be w).getD j default) < ZbD s x
    ·rw [decide_eq_true (show(dep s q:Int) > (dep s q':Int) by omega),Cq1,Yk ⟨r,fun j' z=>by cases z;exact c⟩,j0];rfl
    ·rw [decide_eq_false (show ¬ (dep s q:Int) > (dep s q':Int) by omega),Cq0,Z7 (fun z=>c (z.2 j rfl)),j0];rfl
 ·rw [Z7 r,Z7 (fun z=>r z.1)];simp only [Bq0,Bool.false_and,Cq0];rw [j0]
theorem ZuV (hF:1000000 <=F) (hS:QJ s) (hB:B <=600000) (hw:w < mm s) (Us:Int×Int×List ZV×List Int×List (List Int)×List (List Int)×List (List Int)×List (List Zd)×List Zg×Int×List Zv ->Option Z5):∀ (n F':Nat) (σ:TS),n < F' ->(σ.be w).length <=n ->Gd s B σ ->BeA s σ ->loop F' (Zf8 F (w:Int) Us) (Zb7 s σ)=Us (((w + 1:Nat):Int),Zb7 s (Zck s w n σ)):=by
 have h4:=hS.mm.2.2;intro n
 induction n with
 | zero=>
   intro F' σ hn hl h hb;cases F' with
   | zero=>omega
   | succ F'=>
     rw [Jd];unfold Zf8;rw [show Zb7 s σ= (s.qG,s.Zh,tab (nn s) σ.st,(tab (nn s) fun j=>tab (mm s * mm s) (σ.ma j)),tab (nn s) σ.kn,tab (nn s) σ.wa,tab (mm s) σ.be,tab (mm s * mm s) (Jq σ),σ.sd,σ.ev) from rfl];dsimp only;rw [Z4 hw];simp only [Bq0];refine ZoJ hF hS hw (by omega) (hb w hw) _ _ (fun nx=>?_);unfold Zd1;dsimp only;have:(σ.be w).length=0:=by omega
     rw [Xk,Cq0,this,show decide (pI (Uo s σ.ld w (σ.be w) 0) < 0)=true from rfl,Cq1,Qe (by omega)];rfl
 | succ n ih=>
   intro F' σ hn hl h hb;cases F' with
   | zero=>omega
   | succ F'=>
     rw [Jd];generalize hnx:loop F' (Zf8 F (w:Int) Us)=nx;have hl7:(σ.be w).length <=600000:=by have:=h.wf.pot;have:=J4 (f:=fun m=>(σ.be m).length) hw;unfold Pot at *;omega
     unfold Zf8;rw [show Zb7 s σ= (s.qG,s.Zh,tab (nn s) σ.st,(tab (nn s) fun j=>tab (mm s * mm s) (σ.ma j)),tab (nn s) σ.kn,tab (nn s) σ.wa,tab (mm s) σ.be,tab (mm s * mm s) (Jq σ),σ.sd,σ.ev) from rfl];dsimp only;rw [Z4 hw];simp only [Bq0];refine ZoJ hF hS hw (by omega) (hb w hw) _ _ (fun nx'=>?_);unfold Zd1;dsimp only;rw [Xk,Cq0,Zck];cases hpk:Uo s σ.ld w (σ.be w) (σ.be w).length with
     | none=>rw [show decide (pI none < 0)=true from rfl,Cq1,Qe (by omega)];rfl
     | some i=>
       have hi:=Zhd _ _ hpk;have self:ZE (tab (mm s) σ.be) (w:Int) (σ.be w)=tab (mm s) σ.be:=by rw [XD,ZfV]
       rw [decide_eq_false (show ¬ pI (some i) < 0 by simp [pI]),Cq0,show pI (some i)= (i:Int) from rfl];simp only [Z4 hw,Bq0,self];rw [Qi default hi];simp only [Bq0];rw [ZlS (by omega)];simp only [Bq0];rw [Zlu (by rw [List.length_nil,List.length_take];omega)];simp only [Bq0,List.nil_append];rw [Qe (by omega),Zha (by omega)];simp only [Bq0];rw [Zlu (by rw [List.length_take,List.length_drop];omega)];simp only [Bq0];obtain⟨⟨p,hp,hpn⟩,_,_⟩:=hb w hw _ (QO (d:=default) hi);have gr:=ZlV h hw hi;have br:=Zh2 (w:=w) (i:=i) hb;have lr:((rung s w i σ).be w).length <=n:=by rw [(Zan s w i σ).1,Ye];have:=ZcT hi;omega
       have hih:=ih F' (rung s w i σ) (by omega) lr gr br;rw [hnx] at hih;refine Eq.trans ?_ hih;unfold rung;rw [hp,Int.toNat_natCast,XD,show Z5.mk (Zc.mk s.qG s.Zh) (Ze.mk (tab (nn s) σ.st) (tab (nn s) fun j=>tab (mm s * mm s) (σ.ma j)) (tab (nn s) σ.kn) (tab (nn s) σ.wa) (tab (mm s) (YE σ.be w (List.take i (σ.be w) ++ List.drop (i + 1) (σ.be w)))) (tab (mm s * mm s) (Jq σ)) σ.sd) σ.ev=XY s {σ with be:=YE σ.be w (Zb8 (σ.be w) i)} from rfl];unfold ZiW;rw [show(XY s {σ with be:=YE σ.be w (Zb8 (σ.be w) i)}).w.qV=tab (nn s) σ.st from rfl,Z4 hpn];simp only [Bq0];rw [Xl];by_cases e:σ.st p=1
       ·rw [decide_eq_true e,Cq1,if_pos e];have hpb:=Zl0 (s:=s) (σ:=σ) hw (Zb8 (σ.be w) i);have:=ZcT hi;have:=h.wf.pot;have w1:Wf s B {σ with be:=YE σ.be w (Zb8 (σ.be w) i)}:= ⟨by omega,h.wf.ld,h.wf.ws⟩
        rw [ZaS (w1.few (by omega))]
        rfl
       ·rw [decide_eq_false e,Cq0,if_neg e];rfl
theorem ZkE (hF:1000000 <=F) (hS:QJ s) (hB:B <=600000) (h:Gd s B σ) (hb:BeA s σ):ZvQ F (XY s σ)=some (XY s (rings s (mm s) σ)):=by
 have h4:=hS.mm.2.2;unfold ZvQ;refine Xz (fun k=>((k:Int),Zb7 s (rings s k σ))) rfl (n:=mm s) (by omega) (fun k hk next=>?_) (fun next=>?_)
 ·obtain⟨g1,g2⟩:=Zh5 h hb k (by omega);have hl7:((rings s k σ).be k).length <=600000:=by have:=g1.wf.pot;have:=J4 (f:=fun m=>((rings s k σ).be m).length) hk;unfold Pot at *;omega
  unfold ZmV;rw [show Zb7 s (rings s k σ)= (s.qG,s.Zh,tab (nn s) (rings s k σ).st,(tab (nn s) fun j=>tab (mm s * mm s) ((rings s k σ).ma j)),tab (nn s) (rings s k σ).kn,tab (nn s) (rings s k σ).wa,tab (mm s) (rings s k σ).be,tab (mm s * mm s) (Jq (rings s k σ)),(rings s k σ).sd,(rings s k σ).ev) from rfl];dsimp only;rw [show(XY s σ).w.Zr=tab (mm s) σ.be from rfl,Xy,YF hk,Cq1];exact ZuV hF hS hB hk next _ F (rings s k σ) (by omega) (Nat.le_refl _) g1 g2
 ·unfold ZmV Zb7;dsimp only;rw [show(XY s σ).w.Zr=tab (mm s) σ.be from rfl,Xy,Xk,Cq0];rfl
end
end
section
noncomputable section
variable (s:Zc)
def Zgi (p:Nat) (σ:TS):TS:=
 if inn s (p:Int) < 0 then Qc s p σ
 else if pl s (inn s (p:Int)).toNat=pl s p then YK s p (Ke s (Qc s p σ) p) (Qc s p σ)
 else send s (pl s p) (pl s (inn s (p:Int)).toNat) ⟨4,(p:Int),0,0,Ke s (Qc s p σ) p⟩ (Qc s p σ)
def kK (p q:Nat) (σ:TS):TS:=tell 1 p q σ.sd {σ with sd:=σ.sd + 1}
inductive Act:TS ->TS ->Prop
 | fall {σ:TS} {p:Nat} (hp:p < nn s) (h:σ.st p=1):Act σ (Wj p σ)
 | Zkz {σ:TS} {p k:Nat} (hp:p < nn s) (hk:k < nn s) (hi:inn s (k:Int)= (p:Int)) (h:σ.st p ≠ 1) (hr:pl s k ≠ pl s p) (hn:(k:Int) ∉ σ.kn p):Act σ (send s (pl s p) (pl s k) ⟨3,(k:Int),0,0,[]⟩ σ)
 | die {σ:TS} {p:Nat} (hp:p < nn s) (h:σ.st p=2) (ha:Alo s σ p):Act σ (Zgi s p σ)
 | ZuR {σ:TS} {p q:Nat} (hp:p < nn s) (hq:q < nn s) (h:σ.st p=1) (e:pl s p=pl s q):Act σ (see q p σ.sd (kK p q σ))
 | ZuQ {σ:TS} {p q:Nat} (hp:p < nn s) (hq:q < nn s) (h:σ.st p=1) (e:pl s p ≠ pl s q):Act σ (send s (pl s p) (pl s q) ⟨1,(p:Int),(q:Int),σ.sd,[]⟩ (kK p q σ))
 | ZuG {σ:TS} {p q:Nat} (hp:p < nn s) (hq:q < nn s) (h:σ.st p=1) (e:pl s p=pl s q):Act σ (note s p q (tell 3 p q 0 σ))
 | ZuF {σ:TS} {p q:Nat} (hp:p < nn s) (hq:q < nn s) (h:σ.st p=1) (e:pl s p ≠ pl s q):Act σ (send s (pl s p) (pl s q) ⟨2,(p:Int),(q:Int),0,[]⟩ (tell 3 p q 0 σ))
 | Zvm {σ:TS} {a b p q:Nat} (ha:a < mm s) (hb:b < mm s) (hl:σ.ld (li s a b) < (σ.sn (li s a b)).length) (hk:(hd σ (li s a b)).kW=1) (hp:(hd σ (li s a b)).kV= (p:Int)) (hq:(hd σ (li s a b)).kX= (q:Int)) (hpn:p < nn s) (hqn:q < nn s):Act σ (see q p (hd σ (li s a b)).n (drop1 (li s a b) σ))
 | Zvp {σ:TS} {a b p q:Nat} (ha:a < mm s) (hb:b < mm s) (hl:σ.ld (li s a b) < (σ.sn (li s a b)).length) (hk:(hd σ (li s a b)).kW=2) (hp:(hd σ (li s a b)).kV= (p:Int)) (hq:(hd σ (li s a b)).kX= (q:Int)) (hpn:p < nn s) (hqn:q < nn s):Act σ (note s p q (drop1 (li s a b) σ))
 | Zvn {σ:TS} {a b p:Nat} (ha:a < mm s) (hb:b < mm s) (hl:σ.ld (li s a b) < (σ.sn (li s a b)).length) (hk:(hd σ (li s a b)).kW=3) (hp:(hd σ (li s a b)).kV= (p:Int)) (hpn:p < nn s):Act σ (drop1 (li s a b) σ)
 | ZoT {σ:TS} {a b p:Nat} (ha:a < mm s) (hb:b < mm s) (hl:σ.ld (li s a b) < (σ.sn (li s a b)).length) (hk:(hd σ (li s a b)).kW=4) (hp:(hd σ (li s a b)).kV= (p:Int)) (hpn:p < nn s) (h0:0 <=inn s (p:Int)) (hm:(hd σ (li s a b)).qX.length=mm s * mm s) (h3:σ.st p=3) (hn:(p:Int) ∉ σ.kn (inn s (p:Int)).toNat):Act σ (YK s p (hd σ (li s a b)).qX (drop1 (li s a b) σ))
 | Zvo {σ:TS} {a b:Nat} (ha:a < mm s) (hb:b < mm s) (hl:σ.ld (li s a b) < (σ.sn (li s a b)).length) (hk:(hd σ (li s a b)).kW=5):Act σ (wait b (hd σ (li s a b)) (drop1 (li s a b) σ))
 | ring {σ:TS} {w i:Nat} (hw:w < mm s) (h:Uo s σ.ld w (σ.be w) (σ.be w).length=some i):Act σ (rung s w i σ)
inductive UR:TS ->TS ->Prop
 | refl {σ:TS}:UR σ σ
 | tail {σ τ υ:TS}:UR σ τ ->Act s τ υ ->UR σ υ
def Zdw (x:XA) (σ:TS):Prop:=
 (x.act=1/\∃ p q:Nat,x.a= (p:Int)/\x.b= (q:Int)/\p < nn s/\q < nn s/\σ.st p=1)\/
 (x.act=2/\∃ p q:Nat,x.a= (p:Int)/\x.b= (q:Int)/\p < nn s/\q < nn s/\σ.st p=1)\/
 (x.act=3/\∃ p:Nat,x.a= (p:Int)/\p < nn s/\σ.st p=1)\/
 (x.act=4/\∃ a b:Nat,x.a= (a:Int)/\x.b= (b:Int)/\a < mm s/\b < mm s/\σ.ld (li s a b) < (σ.sn (li s a b)).length)
def Zaw (x:XA) (σ:TS):TS:=
 if x.act=1 then(if pl s x.a.toNat=pl s x.b.toNat then see x.b.toNat x.a.toNat σ.sd (kK x.a.toNat x.b.toNat σ) else send s (pl s x.a.toNat) (pl s x.b.toNat) ⟨1,x.a,x.b,σ.sd,[]⟩ (kK x.a.toNat x.b.toNat σ))
 else if x.act=2 then(if pl s x.a.toNat=pl s x.b.toNat then note s x.a.toNat x.b.toNat (tell 3 x.a x.b 0 σ) else send s (pl s x.a.toNat) (pl s x.b.toNat) ⟨2,x.a,x.b,0,[]⟩ (tell 3 x.a x.b 0 σ))
 else if x.act=3 then JI s (nn s) x.a.toNat σ
 else ZeW s x.a.toNat x.b.toNat σ
def stepW (x:XA) (σ:TS):TS:=rings s (mm s) (Zaw s x σ)
end
section
variable {s:Zc} {σ τ υ:TS} {F B a b p q w i n d:Nat} {x:Zd}
theorem UR.trans (h:UR s σ τ) (h':UR s τ υ):UR s σ υ:=by
 induction h' with
 | refl=>exact h
 | tail _ a ih=>exact .tail ih a
theorem UR.one (h:Act s σ τ):UR s σ τ:= .tail .refl h
theorem UR.keep {P:TS ->Prop} (hP:∀ σ τ,P σ ->Act s σ τ ->P τ) (h:UR s σ τ) (h0:P σ):P τ:=by
 induction h with
 | refl=>exact h0
 | tail _ a ih=>exact hP _ _ ih a
theorem Ze4 {α:Type} (f:TS ->α ->TS) (Q:TS ->Prop):∀ (l:List α) (σ:TS),Q σ ->(∀ σ x,x ∈ l ->Q σ ->Q (f σ x)) ->Q (l.foldl f σ):=by
 intro l
 induction l with
 | nil=>intro σ h _;exact h
 | cons x l ih=>intro σ h hf;exact ih _ (hf σ x (by simp) h) fun σ y hy=>hf σ y (by simp [hy])
theorem Zbs (p q:Nat) (n:Int) (σ:TS):(see p q n σ).st=σ.st/\(see p q n σ).kn=σ.kn/\(see p q n σ).ma=σ.ma/\(see p q n σ).ld=σ.ld/\(see p q n σ).sn=σ.sn/\(see p q n σ).be=σ.be/\(see p q n σ).wa=σ.wa/\(see p q n σ).sd=σ.sd:=by
 unfold see;split <;> exact⟨rfl,rfl,rfl,rfl,rfl,rfl,rfl,rfl⟩
theorem Zao (p q:Nat) (σ:TS):(note s p q σ).st=σ.st/\(note s p q σ).kn=σ.kn/\(note s p q σ).ma=σ.ma/\(note s p q σ).ld=σ.ld/\(note s p q σ).sd=σ.sd/\(note s p q σ).ev=σ.ev:=by
 unfold note;split
 ·have:=Znu (s:=s) p q σ;exact⟨this.1,this.2.1,this.2.2.1,this.2.2.2.1,this.2.2.2.2.1,this.2.2.2.2.2.1⟩
 ·exact⟨rfl,rfl,rfl,rfl,rfl,rfl⟩
theorem ZFp (p:Nat) (σ:TS):(Zgi s p σ).st=YE σ.st p 3:=by
 have e:= (KO (s:=s) p σ).1;unfold Zgi;split
 ·exact e
 ·split
  ·exact e
  ·exact e
theorem Zpy {f:Nat ->Int} {k j:Nat} {v:Int} (hv:v ≠ 1) (h:f j ≠ 1):YE f k v j ≠ 1:=by
 unfold YE;by_cases e:j=k
 ·rw [if_pos e];exact hv
 ·rw [if_neg e];exact h
theorem ZMG (h:Act s σ τ) (hp:σ.st p ≠ 1):τ.st p ≠ 1:=by
 cases h with
 | fall hq h=>exact Zpy (by decide) hp
 | Zkz=>exact hp
 | die hq h ha=>rw [ZFp];exact Zpy (by decide) hp
 | ZuR=>rw [(Zbs _ _ _ _).1];exact hp
 | ZuQ=>exact hp
 | ZuG=>rw [(Zao _ _ _).1];exact hp
 | ZuF=>exact hp
 | Zvm=>rw [(Zbs _ _ _ _).1];exact hp
 | Zvp=>rw [(Zao _ _ _).1];exact hp
 | Zvn=>exact hp
 | ZoT=>exact hp
 | Zvo=>exact hp
 | ring=>rw [(Zan _ _ _ _).2.2.1];exact hp
theorem ZFQ (h:UR s σ τ) (hp:σ.st p ≠ 1):τ.st p ≠ 1:=h.keep (P:=fun σ=>σ.st p ≠ 1) (fun _ _ h a=>ZMG a h) hp
theorem Zp7 (hS:QJ s):∀ (d p:Nat) (σ:TS),p < nn s ->up s d (p:Int) < 0 ->σ.st p=2 ->Alo s σ p ->UR s σ (Zi8 s d p σ):=by
 intro d
 induction d with
 | zero=>intro p σ hp hu _ _;exact absurd hu (by show ¬ ((p:Int)) < 0;omega)
 | succ d ih=>
   intro p σ hp hu h2 hA;have h1:UR s σ (Zgi s p σ):= .one (.die hp h2 hA);show UR s σ (Znl s (Zi8 s d) p (Qc s p σ));unfold Znl;unfold Zgi at h1;by_cases h0:inn s (p:Int) < 0
   ·rw [if_pos h0] at h1 |-;exact h1
   ·rw [if_neg h0] at h1 |-;obtain⟨eq,hq⟩:=Jh hS hp h0;by_cases e:pl s (inn s (p:Int)).toNat=pl s p
    ·rw [if_pos e] at h1 |-;unfold Kt;by_cases c:(YK s p (Ke s (Qc s p σ) p) (Qc s p σ)).st (inn s (p:Int)).toNat=2/\Alo s (YK s p (Ke s (Qc s p σ) p) (Qc s p σ)) (inn s (p:Int)).toNat
     ·rw [Yk c];exact h1.trans (ih _ _ hq (by rw [<- eq];exact Zxu hp hu) c.1 c.2)
     ·rw [Z7 c];exact h1
    ·rw [if_neg e] at h1 |-;exact h1
theorem Zld (hS:QJ s):∀ (d p:Nat) (σ:TS),p < nn s ->KA s d p ->σ.st p=1 ->UR s σ (JI s d p σ):=by
 intro d
 induction d with
 | zero=>intro p σ hp hs _;exact absurd rfl (hs p hp 0 (Nat.le_refl _))
 | succ d ih=>
   intro p σ hp hs h1;have h0:UR s σ (Wj p σ):= .one (.fall hp h1);have hne:(Wj p σ).st p ≠ 1:=by show YE σ.st p 2 p ≠ 1;rw [Ye];decide
   have hk:UR s σ (fk s (JI s d) p (nn s) (Wj p σ))/\(fk s (JI s d) p (nn s) (Wj p σ)).st p ≠ 1:=by
    refine Ze4 _ (fun τ=>UR s σ τ/\τ.st p ≠ 1) _ _ ⟨h0,hne⟩ (fun τ k hk ⟨ha,hτ⟩=>?_);obtain⟨hkn,hki⟩:=ZcF.1 (show k ∈ KN s p from hk)
    have:UR s τ (Zat s (JI s d) p τ k):=by
     unfold Zat;by_cases e:pl s k=pl s p
     ·rw [if_pos e];by_cases e1:τ.st k=1
      ·rw [if_pos e1];exact ih k τ hkn (hs.kid hki) e1
      ·rw [if_neg e1];exact .refl
     ·rw [if_neg e];by_cases e1:(k:Int) ∈ τ.kn p
      ·rw [if_pos e1];exact .refl
      ·rw [if_neg e1];exact .one (.Zkz hp hkn hki hτ e e1)
    exact⟨ha.trans this,ZFQ this hτ⟩
   show UR s σ (ZmE s p (fk s (JI s d) p (nn s) (Wj p σ)));unfold ZmE;by_cases c:(fk s (JI s d) p (nn s) (Wj p σ)).st p=2/\Alo s (fk s (JI s d) p (nn s) (Wj p σ)) p
   ·rw [Yk c];exact hk.1.trans (Zp7 hS _ _ _ hp (Zc2 hS hp) c.1 c.2)
   ·rw [Z7 c];exact hk.1
theorem ZuU (hw:w < mm s):∀ (n:Nat) (σ:TS),UR s σ (Zck s w n σ):=by
 intro n
 induction n with
 | zero=>intro σ;exact .refl
 | succ n ih=>
   intro σ;rw [Zck];cases hpk:Uo s σ.ld w (σ.be w) (σ.be w).length with
   | none=>exact .refl
   | some i=>exact(UR.one (.ring hw hpk)).trans (ih _)
theorem Zh6:∀ k,k <=mm s ->UR s σ (rings s k σ):=by
 intro k
 induction k with
 | zero=>intro _;exact .refl
 | succ k ih=>intro hk;exact(ih (by omega)).trans (ZuU (by omega) _ _)
theorem Zvl (hS:QJ s) (ha:a < mm s) (hb:b < mm s) (hl:σ.ld (li s a b) < (σ.sn (li s a b)).length) (hx:ZwH s b (hd σ (li s a b))) (hD:Zs1 s (hd σ (li s a b)) σ):UR s σ (ZeW s a b σ):=by
 obtain⟨p,hp,hpn,c⟩:=hx;unfold ZeW ZkW;rcases c with⟨k,q,hq,hqn⟩ | ⟨k,q,hq,hqn⟩ | k | ⟨k,h0,hm⟩ | ⟨k,e,hm,q,hq,hqn⟩
 ·rw [if_pos k,hp,hq,Int.toNat_natCast,Int.toNat_natCast];exact .one (.Zvm ha hb hl k hp hq hpn hqn)
 ·rw [if_neg (by omega),if_pos k,hp,hq,Int.toNat_natCast,Int.toNat_natCast];exact .one (.Zvp ha hb hl k hp hq hpn hqn)
 ·rw [if_neg (by omega),if_neg (by omega),if_pos k,hp,Int.toNat_natCast];have h1:UR s σ (drop1 (li s a b) σ):= .one (.Zvn ha hb hl k hp hpn);by_cases e:(drop1 (li s a b) σ).st p=1
  ·rw [if_pos e];exact h1.trans (Zld hS _ _ _ hpn (KA.all hS.inn) e)
  ·rw [if_neg e];exact h1
 ·rw [if_neg (by omega),if_neg (by omega),if_neg (by omega),if_pos k,hp,Int.toNat_natCast];obtain⟨h3,hn⟩:=ZeV hp hD k;obtain⟨eq,hq⟩:=Jh hS hpn (by omega);have h1:UR s σ (YK s p (hd σ (li s a b)).qX (drop1 (li s a b) σ)):= .one (.ZoT ha hb hl k hp hpn h0 hm h3 hn);unfold ZbI Kt;by_cases c:(YK s p (hd σ (li s a b)).qX (drop1 (li s a b) σ)).st (inn s (p:Int)).toNat=2/\Alo s (YK s p (hd σ (li s a b)).qX (drop1 (li s a b) σ)) (inn s (p:Int)).toNat
  ·rw [Yk c];exact h1.trans (Zp7 hS _ _ _ hq (Zc2 hS hq) c.1 c.2)
  ·rw [Z7 c];exact h1
 ·rw [if_neg (by omega),if_neg (by omega),if_neg (by omega),if_neg (by omega)];exact .one (.Zvo ha hb hl k)
end
end
section
def ZCM (s:Zc) (a b:Nat) (x:Zd):Prop:=∃ p:Nat,x.kV= (p:Int)/\p < nn s/\x.qX.length <=16/\
 ((x.kW=1/\pl s p=a/\∃ q:Nat,x.kX= (q:Int)/\q < nn s/\pl s q=b)\/(x.kW=2/\pl s p=a/\∃ q:Nat,x.kX= (q:Int)/\q < nn s/\pl s q=b)\/(x.kW=3/\pl s p=b/\0 <=inn s (p:Int)/\pl s (inn s (p:Int)).toNat=a)\/(x.kW=4/\0 <=inn s (p:Int)/\x.qX.length=mm s * mm s/\pl s p=a/\pl s (inn s (p:Int)).toNat=b)\/(x.kW=5/\pl s p=b/\x.qX.length=mm s * mm s/\∃ q:Nat,x.kX= (q:Int)/\q < nn s/\pl s q=a))
theorem ZCM.s {s:Zc} {a b:Nat} {x:Zd} (h:ZCM s a b x):ZwH s b x:=by
 obtain⟨p,hp,hpn,_,c⟩:=h;refine⟨p,hp,hpn,?_⟩;rcases c with⟨k,_,q,hq,hqn,_⟩ | ⟨k,_,q,hq,hqn,_⟩ | ⟨k,_⟩ | ⟨k,h0,hm,_⟩ | ⟨k,e,hm,q,hq,hqn,_⟩
 ·exact .inl ⟨k,q,hq,hqn⟩
 ·exact .inr (.inl ⟨k,q,hq,hqn⟩)
 ·exact .inr (.inr (.inl k))
 ·exact .inr (.inr (.inr (.inl ⟨k,h0,hm⟩)))
 ·exact .inr (.inr (.inr (.inr ⟨k,e,hm,q,hq,hqn⟩)))
structure P1 (s:Zc) (σ:TS):Prop where
 lets:∀ a b,a < mm s ->b < mm s ->∀ x ∈ σ.sn (li s a b),ZCM s a b x
 self:∀ a,a < mm s ->σ.sn (li s a a)= []
 bea:∀ w,w < mm s ->∀ x ∈ σ.be w,BeS s x/\x.kW=5
 ws:∀ q,q < nn s ->∀ x ∈ σ.wa q,∃ k:Nat,x= (k:Int)/\k < nn s
section
variable {s:Zc} {σ τ υ:TS} {F B a b p q w i n d:Nat} {x:Zd}
theorem ZyW {a b a' b':Nat} (hb:b < mm s) (hb':b' < mm s) (h:li s a b=li s a' b'):a=a'/\b=b':=by
 obtain⟨e1,e2⟩:= (Zaq hb).1 (show li s a b=a * mm s + b from rfl);obtain⟨e3,e4⟩:= (Zaq hb').1 (show li s a' b'=a' * mm s + b' from rfl);rw [h] at e1 e2;exact⟨by omega,by omega⟩
theorem P1.congr (h:P1 s σ) (h1:τ.sn=σ.sn) (h2:τ.be=σ.be) (h3:τ.wa=σ.wa):P1 s τ:= ⟨by rw [h1];exact h.lets,by rw [h1];exact h.self,by rw [h2];exact h.bea,by rw [h3];exact h.ws⟩
theorem P1.send (h:P1 s σ) (ha:a < mm s) (hb:b < mm s) (hne:a ≠ b) (hx:ZCM s a b x):P1 s (Proofs.YtcnahmgekicbdaaGreat.send s a b x σ):=by
 refine⟨fun a' b' ha' hb' y hy=>?_,fun a' ha'=>?_,h.bea,h.ws⟩
 ·by_cases e:li s a' b'=li s a b
  ·obtain⟨rfl,rfl⟩:=ZyW hb' hb e;rw [Zel] at hy;rcases List.mem_append.1 hy with hy | hy
   ·exact h.lets _ _ ha' hb' y hy
   ·rw [List.mem_singleton.1 hy];exact hx
  ·rw [Wx e] at hy;exact h.lets _ _ ha' hb' y hy
 ·rw [Wx (fun e=>hne (by obtain⟨e1,e2⟩:=ZyW ha' hb e;omega))];exact h.self a' ha'
theorem P1.wait (h:P1 s σ) (hx:BeS s x/\x.kW=5):P1 s (Proofs.YtcnahmgekicbdaaGreat.wait a x σ):=by
 refine⟨h.lets,h.self,fun w hw y hy=>?_,h.ws⟩;have hy:y ∈ YE σ.be a (σ.be a ++ [x]) w:=hy;by_cases e:w=a
 ·subst e;rw [Ye] at hy;rcases List.mem_append.1 hy with hy | hy
  ·exact h.bea w hw y hy
  ·rw [List.mem_singleton.1 hy];exact hx
 ·rw [Xg e] at hy;exact h.bea w hw y hy
theorem P1.JG (hS:QJ s) (h:P1 s σ) (hp:p < nn s) (hq:q < nn s):P1 s (Proofs.YtcnahmgekicbdaaGreat.JG s p q σ):=by
 unfold Proofs.YtcnahmgekicbdaaGreat.JG;by_cases e:pl s p=pl s q
 ·rw [if_pos e];exact h.wait ⟨⟨⟨p,rfl,hp⟩,⟨q,rfl,hq⟩,Xy⟩,rfl⟩
 ·rw [if_neg e];exact h.send (hS.pl hq).2 (hS.pl hp).2 (fun z=>e z.symm) ⟨p,rfl,hp,(by show(tab _ _).length <=16;rw [Xy];exact ZdB hS),.inr (.inr (.inr (.inr ⟨rfl,rfl,Xy,q,rfl,hq,rfl⟩)))⟩
theorem P1.see (h:P1 s σ) (p q:Nat) (n:Int):P1 s (Proofs.YtcnahmgekicbdaaGreat.see p q n σ):=by
 have e:=Zbs p q n σ;exact h.congr e.2.2.2.2.1 e.2.2.2.2.2.1 e.2.2.2.2.2.2.1
theorem P1.note (hS:QJ s) (h:P1 s σ) (hp:p < nn s) (hq:q < nn s):P1 s (Proofs.YtcnahmgekicbdaaGreat.note s p q σ):=by
 unfold Proofs.YtcnahmgekicbdaaGreat.note;by_cases e:σ.st q=3
 ·rw [if_pos e];exact h.JG hS hp hq
 ·rw [if_neg e];refine⟨h.lets,h.self,h.bea,fun j hj y hy=>?_⟩;have hy:y ∈ YE σ.wa q (σ.wa q ++ [(p:Int)]) j:=hy;by_cases e1:j=q
  ·subst e1;rw [Ye] at hy;rcases List.mem_append.1 hy with hy | hy
   ·exact h.ws j hj y hy
   ·rw [List.mem_singleton.1 hy];exact⟨p,rfl,hp⟩
  ·rw [Xg e1] at hy;exact h.ws j hj y hy
theorem P1.Kz (h:P1 s σ) (p:Nat):P1 s (Proofs.YtcnahmgekicbdaaGreat.Kz p σ):=by
 refine⟨h.lets,h.self,h.bea,fun j hj y hy=>?_⟩;have hy:y ∈ YE σ.wa p [] j:=hy;by_cases e1:j=p
 ·subst e1;rw [Ye] at hy;cases hy
 ·rw [Xg e1] at hy;exact h.ws j hj y hy
theorem P1.Zr (hS:QJ s) (h:P1 s σ) (hp:p < nn s) (l:List Int) (hl:∀ x ∈ l,∃ k:Nat,x= (k:Int)/\k < nn s):P1 s (Proofs.YtcnahmgekicbdaaGreat.Zr s p l σ):=
 Ze4 _ (P1 s) l σ h fun τ x hx hτ=>by
  obtain⟨k,e,hk⟩:=hl x hx;rw [e,Int.toNat_natCast];exact hτ.JG hS hk hp
theorem P1.Qc (hS:QJ s) (h:P1 s σ) (hp:p < nn s):P1 s (Proofs.YtcnahmgekicbdaaGreat.Qc s p σ):= ((h.Kz p).Zr hS hp _ (h.ws p hp)).congr rfl rfl rfl
theorem P1.Zgi (hS:QJ s) (h:P1 s σ) (hp:p < nn s):P1 s (Proofs.YtcnahmgekicbdaaGreat.Zgi s p σ):=by
 have hA:=h.Qc hS hp;unfold Proofs.YtcnahmgekicbdaaGreat.Zgi;by_cases h0:inn s (p:Int) < 0
 ·rw [if_pos h0];exact hA
 ·rw [if_neg h0];obtain⟨eq,hq⟩:=Jh hS hp h0;by_cases e:pl s (inn s (p:Int)).toNat=pl s p
  ·rw [if_pos e];exact hA.congr rfl rfl rfl
  ·rw [if_neg e];exact hA.send (hS.pl hp).2 (hS.pl hq).2 (fun z=>e z.symm) ⟨p,rfl,hp,(by show(tab _ _).length <=16;rw [Xy];exact ZdB hS),.inr (.inr (.inr (.inl ⟨rfl,by omega,Xy,rfl,rfl⟩)))⟩
theorem ZAf (h:σ.ld i < (σ.sn i).length):hd σ i ∈ σ.sn i:=QO h
theorem P1.act (hS:QJ s) (h:P1 s σ) (ac:Act s σ τ):P1 s τ:=by
 cases ac with
 | fall=>exact h.congr rfl rfl rfl
 | @Zkz p k hp hk hi h1 hr hn=>
   exact h.send (hS.pl hp).2 (hS.pl hk).2 (fun z=>hr z.symm) ⟨k,rfl,hk,(by show 0 <=16;omega),.inr (.inr (.inl ⟨rfl,rfl,by omega,by rw [hi,Int.toNat_natCast]⟩))⟩
 | die hp=>exact h.Zgi hS hp
 | ZuR hp hq h1 e=>exact(h.congr (τ:=kK _ _ σ) rfl rfl rfl).see _ _ _
 | @ZuQ p q hp hq h1 e=>exact(h.congr (τ:=kK _ _ σ) rfl rfl rfl).send (hS.pl hp).2 (hS.pl hq).2 e ⟨p,rfl,hp,(by show 0 <=16;omega),.inl ⟨rfl,rfl,q,rfl,hq,rfl⟩⟩
 | ZuG hp hq h1 e=>exact(h.congr (τ:=tell _ _ _ _ σ) rfl rfl rfl).note hS hp hq
 | @ZuF p q hp hq h1 e=>exact(h.congr (τ:=tell _ _ _ _ σ) rfl rfl rfl).send (hS.pl hp).2 (hS.pl hq).2 e ⟨p,rfl,hp,(by show 0 <=16;omega),.inr (.inl ⟨rfl,rfl,q,rfl,hq,rfl⟩)⟩
 | Zvm=>exact(h.congr (τ:=drop1 _ σ) rfl rfl rfl).see _ _ _
 | Zvp ha hb hl hk hp hq hpn hqn=>exact(h.congr (τ:=drop1 _ σ) rfl rfl rfl).note hS hpn hqn
 | Zvn=>exact h.congr rfl rfl rfl
 | ZoT=>exact h.congr rfl rfl rfl
 | @Zvo a b ha hb hl hk=>
   have hm:=ZAf hl;obtain⟨p,hp,hpn,_,c⟩:=h.lets a b ha hb _ hm;refine(h.congr (τ:=drop1 _ σ) rfl rfl rfl).wait ⟨?_,hk⟩;rcases c with⟨k,_⟩ | ⟨k,_⟩ | ⟨k,_⟩ | ⟨k,_⟩ | ⟨k,e,hm,q,hq,hqn,_⟩
   ·omega
   ·omega
   ·omega
   ·omega
   ·exact⟨⟨p,hp,hpn⟩,⟨q,hq,hqn⟩,hm⟩
 | @ring w i hw hpk=>
   have e:=Zan s w i σ;refine⟨by rw [e.2.2.2.2.2.1];exact h.lets,by rw [e.2.2.2.2.2.1];exact h.self,fun v hv y hy=>?_,by rw [e.2.2.2.2.2.2.1];exact h.ws⟩;rw [e.1] at hy;by_cases z:v=w
   ·subst z;rw [Ye] at hy;exact h.bea v hv y (Zqa hy)
   ·rw [Xg z] at hy;exact h.bea v hv y hy
def SnM (σ τ:TS):Prop:=∀ i,(σ.sn i).length <= (τ.sn i).length
theorem SnM.refl' (h:τ.sn=σ.sn):SnM σ τ:=fun i=>by rw [h];exact Nat.le_refl _
theorem SnM.trans (h:SnM σ τ) (h':SnM τ υ):SnM σ υ:=fun i=>Nat.le_trans (h i) (h' i)
theorem SnM.send (x:Zd):SnM σ (Proofs.YtcnahmgekicbdaaGreat.send s a b x σ):=fun i=>by
 by_cases e:i=li s a b
 ·subst e;rw [Zel,List.length_append];omega
 ·rw [Wx e];exact Nat.le_refl _
theorem SnM.JG (p q:Nat):SnM σ (Proofs.YtcnahmgekicbdaaGreat.JG s p q σ):=by
 unfold Proofs.YtcnahmgekicbdaaGreat.JG;split
 ·exact .refl' rfl
 ·exact .send _
theorem SnM.Zr (p:Nat) (l:List Int):SnM σ (Proofs.YtcnahmgekicbdaaGreat.Zr s p l σ):=Ze4 _ (SnM σ) l σ (.refl' rfl) fun τ x _ h=>h.trans (.JG _ _)
theorem SnM.note (p q:Nat):SnM σ (Proofs.YtcnahmgekicbdaaGreat.note s p q σ):=by
 unfold Proofs.YtcnahmgekicbdaaGreat.note;split
 ·exact .JG _ _
 ·exact .refl' rfl
theorem SnM.Qc (p:Nat):SnM σ (Proofs.YtcnahmgekicbdaaGreat.Qc s p σ):= (SnM.Zr (σ:=Proofs.YtcnahmgekicbdaaGreat.Kz p σ) p (σ.wa p)).trans (.refl' rfl)
structure P2 (s:Zc) (σ:TS):Prop where
 ld:∀ i,σ.ld i <= (σ.sn i).length
 kn:Kn s σ
theorem P2.of (h:P2 s σ) (h1:τ.ld=σ.ld) (h2:SnM σ τ) (h3:τ.kn=σ.kn) (h4:∀ k,σ.st k=3 ->τ.st k=3):P2 s τ:=
 ⟨fun i=>by rw [h1];exact Nat.le_trans (h.ld i) (h2 i),fun q hq=>by rw [h3];exact h.kn.srt q hq,fun q hq x hx=>by
   rw [h3] at hx;obtain⟨k,a,b,c,d⟩:=h.kn.rng q hq x hx;exact⟨k,a,b,c,h4 k d⟩⟩
theorem P2.drop (h:P2 s σ) (hl:σ.ld i < (σ.sn i).length):P2 s (drop1 i σ):= ⟨fun j=>by
 show YE σ.ld i (σ.ld i + 1) j <= (σ.sn j).length;by_cases e:j=i
 ·subst e;rw [Ye];exact hl
 ·rw [Xg e];exact h.ld j,⟨h.kn.srt,h.kn.rng⟩⟩
theorem ZLu {f:Nat ->Int} {k j:Nat} (h:f j=3):YE f k 3 j=3:=by
 unfold YE;by_cases e:j=k
 ·rw [if_pos e]
 ·rw [if_neg e];exact h
theorem P2.Qc (h:P2 s σ) (p:Nat):P2 s (Proofs.YtcnahmgekicbdaaGreat.Qc s p σ):=by
 have sA:=KO (s:=s) p σ;exact h.of sA.2.2.1 (.Qc p) sA.2.1 fun k hk=>by rw [sA.1];exact ZLu hk
theorem P2.not_mem (h:P2 s σ) {q:Nat} (hq:q < nn s) (h2:σ.st p ≠ 3):(p:Int) ∉ σ.kn q:=fun hm=>by
 obtain⟨k,e1,_,_,e4⟩:=h.kn.rng q hq _ hm;have:k=p:=by omega
 subst this;exact h2 e4
theorem P2.act (hS:QJ s) (h:P2 s σ) (ac:Act s σ τ):P2 s τ:=by
 cases ac with
 | @fall p hp h1=>
   refine h.of rfl (.refl' rfl) rfl fun k hk=>?_
   show YE σ.st p 2 k=3;rw [Xg (fun z=>by subst z;rw [h1] at hk;cases hk)];exact hk
 | Zkz=>exact h.of rfl (.send _) rfl fun _ z=>z
 | @die p hp h2 hA=>
   have hD:=h.Qc p;have sA:=KO (s:=s) p σ;unfold Zgi;by_cases h0:inn s (p:Int) < 0
   ·rw [if_pos h0];exact hD
   ·rw [if_neg h0];obtain⟨eq,hq⟩:=Jh hS hp h0;by_cases e:pl s (inn s (p:Int)).toNat=pl s p
    ·rw [if_pos e];exact⟨hD.ld,JV hS hD.kn hp h0 (by rw [sA.1,Ye]) (by rw [sA.2.1];exact h.not_mem hq (by rw [h2];decide)) _⟩
    ·rw [if_neg e];exact hD.of rfl (.send _) rfl fun _ z=>z
 | @ZuR p q=>have e:=Zbs q p σ.sd (kK p q σ);exact h.of e.2.2.2.1 (.refl' e.2.2.2.2.1) e.2.1 fun k z=>by rw [e.1];exact z
 | @ZuQ p q=>exact h.of rfl (SnM.trans (.refl' (τ:=kK p q σ) rfl) (.send _)) rfl fun _ z=>z
 | @ZuG p q=>have e:=Zao (s:=s) p q (tell 3 p q 0 σ);exact h.of e.2.2.2.1 (SnM.trans (.refl' (τ:=tell 3 p q 0 σ) rfl) (.note _ _)) e.2.1 fun k z=>by rw [e.1];exact z
 | @ZuF p q=>exact h.of rfl (SnM.trans (.refl' (τ:=tell 3 p q 0 σ) rfl) (.send _)) rfl fun _ z=>z
 | @Zvm a b p q ha hb hl=>have e:=Zbs q p (hd σ (li s a b)).n (drop1 (li s a b) σ);exact(h.drop hl).of e.2.2.2.1 (.refl' e.2.2.2.2.1) e.2.1 fun k z=>by rw [e.1];exact z
 | @Zvp a b p q ha hb hl=>have e:=Zao (s:=s) p q (drop1 (li s a b) σ);exact(h.drop hl).of e.2.2.2.1 (.note _ _) e.2.1 fun k z=>by rw [e.1];exact z
 | Zvn ha hb hl=>exact h.drop hl
 | ZoT ha hb hl hk hp hpn h0 hm h3 hn=>exact⟨(h.drop hl).ld,JV hS (h.drop hl).kn hpn (by omega) h3 hn _⟩
 | Zvo ha hb hl=>exact(h.drop hl).of rfl (.refl' rfl) rfl fun _ z=>z
 | @ring w i=>have e:=Zan s w i σ;exact h.of e.2.1 (.refl' e.2.2.2.2.2.1) e.2.2.2.1 fun k z=>by rw [e.2.2.1];exact z
structure KI (s:Zc) (σ:TS):Prop where
 k1:∀ (i j:Nat) (x:Zd),(σ.sn i)[j]? =some x ->x.kW=4 ->∃ k:Nat,x.kV= (k:Int)/\k < nn s/\σ.st k=3/\((k:Int) ∈ σ.kn (inn s (k:Int)).toNat↔j < σ.ld i)
 k2:∀ (i i' j j':Nat) (x x':Zd),(σ.sn i)[j]? =some x ->(σ.sn i')[j']? =some x' ->x.kW=4 ->x'.kW=4 ->x.kV=x'.kV ->i=i'/\j=j'
 k3:∀ p,p < nn s ->σ.st p=3 ->0 <=inn s (p:Int) ->(p:Int) ∈ σ.kn (inn s (p:Int)).toNat\/∃ (i j:Nat) (x:Zd),(σ.sn i)[j]? =some x/\x.kW=4/\x.kV= (p:Int)
 k4:∀ p,p < nn s ->σ.st p=3 ->Alo s σ p
def S4 (σ τ:TS):Prop:=∀ (i j:Nat) (x:Zd),x.kW=4 ->((τ.sn i)[j]? =some x↔(σ.sn i)[j]? =some x)
theorem S4.refl' (h:τ.sn=σ.sn):S4 σ τ:=fun i j x _=>by rw [h]
theorem S4.trans (h:S4 σ τ) (h':S4 τ υ):S4 σ υ:=fun i j x hx=>(h' i j x hx).trans (h i j x hx)
theorem ZaV {x y:Zd} {j:Nat}:((send s a b x σ).sn i)[j]? =some y↔(σ.sn i)[j]? =some y\/(i=li s a b/\j= (σ.sn i).length/\y=x):=by
 by_cases e:i=li s a b
 ·subst e;rw [Zel];rcases Nat.lt_trichotomy j (σ.sn (li s a b)).length with h | h | h
  ·rw [List.getElem?_append_left h];exact⟨.inl,fun z=>z.elim id fun w=>absurd w.2.1 (by omega)⟩
  ·subst h;rw [List.getElem?_append_right (Nat.le_refl _),Nat.sub_self]
   constructor
   ·intro z;simp at z;exact .inr ⟨rfl,rfl,z.symm⟩
   ·rintro(z | ⟨_,_,z⟩)
    ·rw [List.getElem?_eq_none (Nat.le_refl _)] at z;cases z
    ·simp [z]
  ·constructor
   ·intro z;have:= (Li0 z).1;rw [List.length_append,List.length_singleton] at this;omega
   ·rintro(z | ⟨_,z,_⟩)
    ·have:= (Li0 z).1;omega
    ·omega
 ·rw [Wx e];exact⟨.inl,fun z=>z.elim id fun w=>absurd w.1 e⟩
theorem S4.send (hx:x.kW ≠ 4):S4 σ (Proofs.YtcnahmgekicbdaaGreat.send s a b x σ):=fun i j y hy=>by
 rw [ZaV];exact⟨fun z=>z.elim id fun w=>absurd (w.2.2 ▸ hy) hx,.inl⟩
theorem S4.JG (p q:Nat):S4 σ (Proofs.YtcnahmgekicbdaaGreat.JG s p q σ):=by
 unfold Proofs.YtcnahmgekicbdaaGreat.JG;split
 ·exact .refl' rfl
 ·exact .send (by show(5:Int) ≠ 4;decide)
theorem S4.Zr (p:Nat) (l:List Int):S4 σ (Proofs.YtcnahmgekicbdaaGreat.Zr s p l σ):=Ze4 _ (S4 σ) l σ (.refl' rfl) fun τ x _ h=>h.trans (.JG _ _)
theorem S4.note (p q:Nat):S4 σ (Proofs.YtcnahmgekicbdaaGreat.note s p q σ):=by
 unfold Proofs.YtcnahmgekicbdaaGreat.note;split
 ·exact .JG _ _
 ·exact .refl' rfl
theorem S4.Qc (p:Nat):S4 σ (Proofs.YtcnahmgekicbdaaGreat.Qc s p σ):= (S4.Zr (σ:=Proofs.YtcnahmgekicbdaaGreat.Kz p σ) p (σ.wa p)).trans (.refl' rfl)
theorem KI.same (h:KI s σ) (h1:∀ p,τ.st p=3↔σ.st p=3) (h2:τ.kn=σ.kn) (h3:τ.ld=σ.ld) (h4:S4 σ τ):KI s τ:=by
 refine⟨fun i j x hx hk=>?_,fun i i' j j' x x' hx hx' hk hk' e=>h.k2 i i' j j' x x' ((h4 i j x hk).1 hx) ((h4 i' j' x' hk').1 hx') hk hk' e,fun p hp h3' h0=>?_,fun p hp h3'=>?_⟩
 ·obtain⟨k,e1,e2,e3,e4⟩:=h.k1 i j x ((h4 i j x hk).1 hx) hk;exact⟨k,e1,e2,(h1 k).2 e3,by rw [h2,h3];exact e4⟩
 ·rw [h2];exact(h.k3 p hp ((h1 p).1 h3') h0).imp id fun⟨i,j,x,a,b,c⟩=>⟨i,j,x,(h4 i j x b).2 a,b,c⟩
 ·intro k hk e;rw [h2];exact h.k4 p hp ((h1 p).1 h3') k hk e
theorem KI.drop (h:KI s σ) (hl:σ.ld i < (σ.sn i).length) (hk:(hd σ i).kW ≠ 4):KI s (drop1 i σ):=by
 refine⟨fun i' j x hx hk'=>?_,h.k2,h.k3,h.k4⟩;obtain⟨k,e1,e2,e3,e4⟩:=h.k1 i' j x hx hk';refine⟨k,e1,e2,e3,e4.trans ?_⟩;show j < σ.ld i'↔j < YE σ.ld i (σ.ld i + 1) i';by_cases e:i'=i
 ·subst e;rw [Ye]
  have:j ≠ σ.ld i':=fun z=>hk (by
   subst z;have hx:(σ.sn i')[σ.ld i']? =some x:=hx;unfold hd;rw [List.getD_eq_getElem?_getD,hx];exact hk')
  omega
 ·rw [Xg e]
theorem ZS4 {f:Nat ->Int} {k j:Nat} {v:Int} (hv:v ≠ 3) (h:f k ≠ 3):YE f k v j=3↔f j=3:=by
 unfold YE;by_cases e:j=k
 ·subst e;rw [if_pos rfl];exact⟨fun z=>absurd z hv,fun z=>absurd z h⟩
 ·rw [if_neg e]
theorem KI.die (hS:QJ s) (hP:P2 s σ) (h:KI s σ) (hp:p < nn s) (h2:σ.st p=2) (hA:Alo s σ p):KI s (Zgi s p σ):=by
 have sA:=KO (s:=s) p σ;have h4:=S4.Qc (s:=s) (σ:=σ) p
 have no4:∀ (i j:Nat) (x:Zd),(σ.sn i)[j]? =some x ->x.kW=4 ->x.kV ≠ (p:Int):=fun i j x hx hk e=>by
  obtain⟨k,e1,_,e3,_⟩:=h.k1 i j x hx hk;have:k=p:=by omega
  subst this;rw [h2] at e3;cases e3
 have st3:∀ k,σ.st k=3 ->YE σ.st p 3 k=3:=fun k hk=>by
  unfold YE;by_cases e:k=p
  ·rw [if_pos e]
  ·rw [if_neg e];exact hk
 have ZuN:∀ k,YE σ.st p 3 k=3 ->k=p\/σ.st k=3:=fun k hk=>by
  by_cases e:k=p
  ·exact .inl e
  ·rw [Xg e] at hk;exact .inr hk
 unfold Zgi;by_cases h0:inn s (p:Int) < 0
 ·rw [if_pos h0];refine⟨fun i j x hx hk=>?_,fun i i' j j' x x' hx hx' hk hk' e=>h.k2 i i' j j' x x' ((h4 i j x hk).1 hx) ((h4 i' j' x' hk').1 hx') hk hk' e,fun k hk h3' h0'=>?_,fun k hk h3'=>?_⟩
  ·obtain⟨k,e1,e2,e3,e4⟩:=h.k1 i j x ((h4 i j x hk).1 hx) hk;exact⟨k,e1,e2,by rw [sA.1];exact st3 k e3,by rw [sA.2.1,sA.2.2.1];exact e4⟩
  ·rw [sA.1] at h3';rcases ZuN k h3' with e | e
   ·subst e;omega
   ·rw [sA.2.1];exact(h.k3 k hk e h0').imp id fun⟨i,j,x,a,b,c⟩=>⟨i,j,x,(h4 i j x b).2 a,b,c⟩
  ·rw [sA.1] at h3';intro j hj e;rw [sA.2.1];rcases ZuN k h3' with z | z
   ·subst z;exact hA j hj e
   ·exact h.k4 k hk z j hj e
 ·rw [if_neg h0];obtain⟨eq,hq⟩:=Jh hS hp h0;by_cases e:pl s (inn s (p:Int)).toNat=pl s p
  ·rw [if_pos e]
   have kne:∀ (k q':Nat),k ≠ p ->(((k:Int)) ∈ YE (Qc s p σ).kn (inn s (p:Int)).toNat (ins (p:Int) ((Qc s p σ).kn (inn s (p:Int)).toNat)) q'↔(k:Int) ∈ σ.kn q'):=fun k q' hne=>by
    rw [sA.2.1];by_cases z:q'= (inn s (p:Int)).toNat
    ·subst z;rw [Ye,Zar];exact⟨fun w=>w.elim (fun w=>absurd (by omega) hne) id,.inr⟩
    ·rw [Xg z]
   refine⟨fun i j x hx hk=>?_,fun i i' j j' x x' hx hx' hk hk' e=>h.k2 i i' j j' x x' ((h4 i j x hk).1 hx) ((h4 i' j' x' hk').1 hx') hk hk' e,fun k hk h3' h0'=>?_,fun k hk h3'=>?_⟩
   ·have hx':= (h4 i j x hk).1 hx;obtain⟨k,e1,e2,e3,e4⟩:=h.k1 i j x hx' hk;have hne:k ≠ p:=fun z=>no4 i j x hx' hk (by rw [e1,z])
    refine⟨k,e1,e2,by show(Qc s p σ).st k=3;rw [sA.1];exact st3 k e3,?_⟩;refine(kne k _ hne).trans ?_;show _↔j < (Qc s p σ).ld i;rw [sA.2.2.1];exact e4
   ·have h3':(Qc s p σ).st k=3:=h3';rw [sA.1] at h3';rcases ZuN k h3' with z | z
    ·subst z;left;show _ ∈ YE _ _ _ _;rw [Ye];exact Zar.2 (.inl rfl)
    ·have hne:k ≠ p:=fun w=>by subst w;rw [h2] at z;cases z
     refine(h.k3 k hk z h0').imp (fun w=>(kne k _ hne).2 w) fun⟨i,j,x,a,b,c⟩=>⟨i,j,x,(h4 i j x b).2 a,b,c⟩
   ·have h3':(Qc s p σ).st k=3:=h3';rw [sA.1] at h3';intro j hj ej
    have hold:(j:Int) ∈ σ.kn k:=by
     rcases ZuN k h3' with z | z
     ·subst z;exact hA j hj ej
     ·exact h.k4 k hk z j hj ej
    show _ ∈ YE _ _ _ _;rw [sA.2.1];by_cases z:k= (inn s (p:Int)).toNat
    ·subst z;rw [Ye];exact Zar.2 (.inr hold)
    ·rw [Xg z];exact hold
  ·rw [if_neg e];obtain⟨y,hy⟩:∃ y:Zd,y= ⟨4,(p:Int),0,0,Ke s (Qc s p σ) p⟩:= ⟨_,rfl⟩
   rw [<- hy];have yk:y.kW=4:=by rw [hy]
   have yp:y.kV= (p:Int):=by rw [hy]
   refine⟨fun i j x hx hk=>?_,fun i i' j j' x x' hx hx' hk hk' e=>?_,fun k hk h3' h0'=>?_,fun k hk h3'=>?_⟩
   ·rcases ZaV.1 hx with hx | ⟨e1,e2,e3⟩
    ·obtain⟨k,e1,e2,e3,e4⟩:=h.k1 i j x ((h4 i j x hk).1 hx) hk
     exact⟨k,e1,e2,by show(Qc s p σ).st k=3;rw [sA.1];exact st3 k e3,by
      show _ ∈ (Qc s p σ).kn _↔_ < (Qc s p σ).ld i;rw [sA.2.1,sA.2.2.1];exact e4⟩
    ·refine⟨p,by rw [e3];exact yp,hp,by show(Qc s p σ).st p=3;rw [sA.1,Ye],?_⟩;show _ ∈ (Qc s p σ).kn _↔_ < (Qc s p σ).ld i;rw [sA.2.1,e2,e1];have:= (hP.Qc p).ld (li s (pl s p) (pl s (inn s (p:Int)).toNat));exact⟨fun w=>absurd w (hP.not_mem hq (by rw [h2];decide)),fun w=>by omega⟩
   ·rcases ZaV.1 hx with hx | ⟨a1,a2,a3⟩ <;> rcases ZaV.1 hx' with hx' | ⟨b1,b2,b3⟩
    ·exact h.k2 i i' j j' x x' ((h4 i j x hk).1 hx) ((h4 i' j' x' hk').1 hx') hk hk' e
    ·exact absurd (by rw [e,b3,yp]) (no4 i j x ((h4 i j x hk).1 hx) hk)
    ·exact absurd (by rw [<- e,a3,yp]) (no4 i' j' x' ((h4 i' j' x' hk').1 hx') hk')
    ·have:i=i':=by rw [a1,b1]
     subst this;exact⟨rfl,by rw [a2,b2]⟩
   ·have h3':(Qc s p σ).st k=3:=h3';rw [sA.1] at h3';rcases ZuN k h3' with z | z
    ·subst z;exact .inr ⟨_,_,y,ZaV.2 (.inr ⟨rfl,rfl,rfl⟩),yk,yp⟩
    ·refine(h.k3 k hk z h0').imp (fun w=>by show _ ∈ (Qc s p σ).kn _;rw [sA.2.1];exact w) fun⟨i,j,x,a,b,c⟩=>⟨i,j,x,ZaV.2 (.inl ((h4 i j x b).2 a)),b,c⟩
   ·have h3':(Qc s p σ).st k=3:=h3';rw [sA.1] at h3';intro j hj ej;show _ ∈ (Qc s p σ).kn k;rw [sA.2.1];rcases ZuN k h3' with z | z
    ·subst z;exact hA j hj ej
    ·exact h.k4 k hk z j hj ej
theorem KI.ZoT (hS:QJ s) (h:KI s σ) (hl:σ.ld i < (σ.sn i).length) (hk:(hd σ i).kW=4) (hp:(hd σ i).kV= (p:Int)) (hpn:p < nn s) (l:List Int):KI s (YK s p l (drop1 i σ)):=by
 have hh:(σ.sn i)[σ.ld i]? =some (hd σ i):=by
  unfold hd;rw [List.getD_eq_getElem?_getD,List.getElem?_eq_getElem hl];rfl
 have kne:∀ (k q':Nat),k ≠ p ->(((k:Int)) ∈ YE σ.kn (inn s (p:Int)).toNat (ins (p:Int) (σ.kn (inn s (p:Int)).toNat)) q'↔(k:Int) ∈ σ.kn q'):=fun k q' hne=>by
  by_cases z:q'= (inn s (p:Int)).toNat
  ·subst z;rw [Ye,Zar];exact⟨fun w=>w.elim (fun w=>absurd (by omega) hne) id,.inr⟩
  ·rw [Xg z]
 have kup:∀ (k q':Nat),(k:Int) ∈ σ.kn q' ->((k:Int)) ∈ YE σ.kn (inn s (p:Int)).toNat (ins (p:Int) (σ.kn (inn s (p:Int)).toNat)) q':=fun k q' hm=>by
  by_cases e:k=p
  ·by_cases z:q'= (inn s (p:Int)).toNat
   ·subst z;rw [Ye];exact Zar.2 (.inr hm)
   ·rw [Xg z];exact hm
  ·exact(kne k q' e).2 hm
 refine⟨fun i' j x hx hk'=>?_,h.k2,fun k hk' h3 h0=>(h.k3 k hk' h3 h0).imp (fun w=>kup k _ w) id,fun k hk' h3 j hj e=>kup j k (h.k4 k hk' h3 j hj e)⟩;obtain⟨k,e1,e2,e3,e4⟩:=h.k1 i' j x hx hk';refine⟨k,e1,e2,e3,?_⟩;show(k:Int) ∈ YE σ.kn (inn s (p:Int)).toNat (ins (p:Int) (σ.kn (inn s (p:Int)).toNat)) (inn s (k:Int)).toNat↔j < YE σ.ld i (σ.ld i + 1) i';by_cases z:k=p
 ·subst z;obtain⟨a,c⟩:=h.k2 i' i j _ x _ hx hh hk' hk (by rw [e1,hp]);subst a c;rw [Ye,Ye];exact⟨fun _=>by omega,fun _=>Zar.2 (.inl rfl)⟩
 ·rw [kne k _ z];by_cases e:i'=i
  ·subst e;rw [Ye]
   have:j ≠ σ.ld i':=fun w=>by
    subst w;have hx:(σ.sn i')[σ.ld i']? =some x:=hx;rw [hh] at hx;cases hx;rw [hp] at e1;omega
   exact e4.trans (by omega)
  ·rw [Xg e];exact e4
theorem KI.act (hS:QJ s) (hP:P2 s σ) (h:KI s σ) (ac:Act s σ τ):KI s τ:=by
 cases ac with
 | @fall p hp h1=>exact h.same (fun k=>ZS4 (by decide) (by rw [h1];decide)) rfl rfl (.refl' rfl)
 | Zkz=>exact h.same (fun _=>Iff.rfl) rfl rfl (.send (by show(3:Int) ≠ 4;decide))
 | die hp h2 hA=>exact h.die hS hP hp h2 hA
 | @ZuR p q=>have e:=Zbs q p σ.sd (kK p q σ);exact h.same (fun k=>by rw [e.1];exact Iff.rfl) e.2.1 e.2.2.2.1 (.refl' e.2.2.2.2.1)
 | @ZuQ p q=>exact h.same (fun _=>Iff.rfl) rfl rfl (S4.trans (.refl' (τ:=kK p q σ) rfl) (.send (by show(1:Int) ≠ 4;decide)))
 | @ZuG p q=>have e:=Zao (s:=s) p q (tell 3 p q 0 σ);exact h.same (fun k=>by rw [e.1];exact Iff.rfl) e.2.1 e.2.2.2.1 (S4.trans (.refl' (τ:=tell 3 p q 0 σ) rfl) (.note _ _))
 | @ZuF p q=>exact h.same (fun _=>Iff.rfl) rfl rfl (S4.trans (.refl' (τ:=tell 3 p q 0 σ) rfl) (.send (by show(2:Int) ≠ 4;decide)))
 | @Zvm a b p q ha hb hl hk=>have e:=Zbs q p (hd σ (li s a b)).n (drop1 (li s a b) σ);exact(h.drop hl (by rw [hk];decide)).same (fun k=>by rw [e.1]) e.2.1 e.2.2.2.1 (.refl' e.2.2.2.2.1)
 | @Zvp a b p q ha hb hl hk=>have e:=Zao (s:=s) p q (drop1 (li s a b) σ);exact(h.drop hl (by rw [hk];decide)).same (fun k=>by rw [e.1]) e.2.1 e.2.2.2.1 (.note _ _)
 | Zvn ha hb hl hk=>exact h.drop hl (by rw [hk];decide)
 | ZoT ha hb hl hk hp hpn=>exact h.ZoT hS hl hk hp hpn _
 | Zvo ha hb hl hk=>exact(h.drop hl (by rw [hk];decide)).same (fun _=>Iff.rfl) rfl rfl (.refl' rfl)
 | @ring w i=>have e:=Zan s w i σ;exact h.same (fun k=>by rw [e.2.2.1]) e.2.2.2.1 e.2.1 (.refl' e.2.2.2.2.2.1)
end
end
section
def SD (σ:TS):Prop:=0 <=σ.sd/\σ.sd <= (σ.ev.length:Int)
structure Ok (s:Zc) (B:Nat) (σ:TS):Prop where
 gd:Gd s B σ
 p1:P1 s σ
 p2:P2 s σ
 ki:KI s σ
 sd:SD σ
section
variable {s:Zc} {σ τ υ:TS} {F B a b p q w i n d:Nat} {x:XA}
theorem SD.of (h:SD σ) (h1:τ.sd=σ.sd) (h2:σ.ev.length <=τ.ev.length):SD τ:= ⟨by rw [h1];exact h.1,by rw [h1];have:=h.2;omega⟩
theorem ZxK (p q:Nat) (n:Int) (σ:TS):σ.ev.length <= (see p q n σ).ev.length:=by
 unfold see;split
 ·show _ <= (σ.ev ++ [_]).length;rw [List.length_append];omega
 ·exact Nat.le_refl _
theorem SD.act (h:SD σ) (ac:Act s σ τ):SD τ:=by
 cases ac with
 | fall=>exact h.of rfl (by show _ <= (σ.ev ++ [_]).length;rw [List.length_append];omega)
 | Zkz=>exact h
 | @die p hp h2 hA=>
   have sA:=KO (s:=s) p σ;have:SD (Qc s p σ):=h.of sA.2.2.2.1 (by rw [sA.2.2.2.2.1,List.length_append];omega);unfold Zgi;split
   ·exact this
   ·split
    ·exact this
    ·exact this
 | @ZuR p q hp hq=>
   have e:=Zbs q p σ.sd (kK p q σ);have e2:=ZxK q p σ.sd (kK p q σ);have e3:(kK p q σ).ev.length=σ.ev.length + 1:=by show(σ.ev ++ [_]).length=_;simp
   refine⟨?_,?_⟩
   ·rw [e.2.2.2.2.2.2.2];show 0 <=σ.sd + 1;have:=h.1;omega
   ·rw [e.2.2.2.2.2.2.2];show σ.sd + 1 <=_;have:=h.2;omega
 | @ZuQ p q=>
   have e3:(kK p q σ).ev.length=σ.ev.length + 1:=by show(σ.ev ++ [_]).length=_;simp
   exact⟨by show 0 <=σ.sd + 1;have:=h.1;omega,by show σ.sd + 1 <= ((kK p q σ).ev.length:Int);have:=h.2;omega⟩
 | @ZuG p q=>
   have e:=Zao (s:=s) p q (tell 3 p q 0 σ);exact h.of e.2.2.2.2.1 (by rw [e.2.2.2.2.2];show _ <= (σ.ev ++ [_]).length;rw [List.length_append];omega)
 | ZuF=>exact h.of rfl (by show _ <= (σ.ev ++ [_]).length;rw [List.length_append];omega)
 | @Zvm a b p q=>exact h.of (Zbs q p (hd σ (li s a b)).n (drop1 (li s a b) σ)).2.2.2.2.2.2.2 (ZxK q p (hd σ (li s a b)).n (drop1 (li s a b) σ))
 | @Zvp a b p q=>have e:=Zao (s:=s) p q (drop1 (li s a b) σ);exact h.of e.2.2.2.2.1 (by rw [e.2.2.2.2.2];exact Nat.le_refl _)
 | Zvn=>exact h
 | ZoT=>exact h
 | Zvo=>exact h
 | @ring w i=>
   refine h.of (Zan s w i σ).2.2.2.2.2.2.2 ?_;unfold rung;split
   ·show _ <= (σ.ev ++ [_]).length;rw [List.length_append];omega
   ·exact Nat.le_refl _
theorem Ok.acts (hS:QJ s) (h:Ok s B σ) (ha:UR s σ τ) {B':Nat} (g:Gd s B' τ):Ok s B' τ:=by
 have:=ha.keep (P:=fun σ=>P1 s σ/\P2 s σ/\KI s σ/\SD σ) (fun _ _ ⟨a,b,c,d⟩ ac=>⟨a.act hS ac,b.act hS ac,c.act hS b ac,d.act ac⟩) ⟨h.p1,h.p2,h.ki,h.sd⟩;exact⟨g,this.1,this.2.1,this.2.2.1,this.2.2.2⟩
theorem Ok.head (h:Ok s B σ) (ha:a < mm s) (hb:b < mm s) (hl:σ.ld (li s a b) < (σ.sn (li s a b)).length):ZCM s a b (hd σ (li s a b))/\Zs1 s (hd σ (li s a b)) σ:=by
 have hx:=h.p1.lets a b ha hb _ (ZAf hl);refine⟨hx,fun hk=>?_⟩
 have hh:(σ.sn (li s a b))[σ.ld (li s a b)]? =some (hd σ (li s a b)):=by
  unfold hd;rw [List.getD_eq_getElem?_getD,List.getElem?_eq_getElem hl];rfl
 obtain⟨k,e1,e2,e3,e4⟩:=h.ki.k1 _ _ _ hh hk;rw [e1,Int.toNat_natCast];exact⟨e3,fun m=>absurd (e4.1 m) (Nat.lt_irrefl _)⟩
theorem Zhb (h:Gd s B σ) (p q:Nat):Gd s (B + 1) (kK p q σ):=
 ⟨(Wf.tell (σ:= {σ with sd:=σ.sd + 1}) ⟨h.wf.pot,h.wf.ld,h.wf.ws⟩ 1 p q σ.sd),⟨h.kn.srt,h.kn.rng⟩⟩
theorem Zg7 (h:Gd s B σ) (d p q n:Int):Gd s (B + 1) (tell d p q n σ):= ⟨h.wf.tell d p q n,⟨h.kn.srt,h.kn.rng⟩⟩
theorem Zs7 (h:Gd s B σ) (ha:a < mm s) (hb:b < mm s) (x:Zd):Gd s (B + 1 + ew x) (send s a b x σ):= ⟨h.wf.send ha hb x,⟨h.kn.srt,h.kn.rng⟩⟩
theorem Zfh (hS:QJ s) (h:Ok s B σ) (hx:Zdw s x σ):Gd s (B + 4) (Zaw s x σ)/\UR s σ (Zaw s x σ):=by
 unfold Zaw;rcases hx with⟨k,p,q,ep,eq,hp,hq,h1⟩ | ⟨k,p,q,ep,eq,hp,hq,h1⟩ | ⟨k,p,ep,hp,h1⟩ | ⟨k,a,b,ea,eb,ha,hb,hl⟩
 ·rw [if_pos k,ep,eq,Int.toNat_natCast,Int.toNat_natCast];by_cases e:pl s p=pl s q
  ·rw [if_pos e];exact⟨(ZxJ (Zhb h.gd p q) q p σ.sd).up (by omega),.one (.ZuR hp hq h1 e)⟩
  ·rw [if_neg e];exact⟨(Zs7 (Zhb h.gd p q) (hS.pl hp).2 (hS.pl hq).2 _).up (by show B + 1 + 1 + 1 <=B + 4;omega),.one (.ZuQ hp hq h1 e)⟩
 ·rw [if_neg (by omega),if_pos k,ep,eq,Int.toNat_natCast,Int.toNat_natCast];by_cases e:pl s p=pl s q
  ·rw [if_pos e];exact⟨(Ztn hS (Zg7 h.gd 3 p q 0) hp hq).up (by omega),.one (.ZuG hp hq h1 e)⟩
  ·rw [if_neg e];exact⟨(Zs7 (Zg7 h.gd 3 p q 0) (hS.pl hp).2 (hS.pl hq).2 _).up (by show B + 1 + 1 + 2 <=B + 4;omega),.one (.ZuF hp hq h1 e)⟩
 ·rw [if_neg (by omega),if_neg (by omega),if_pos k,ep,Int.toNat_natCast];exact⟨(Zhm hS _ _ _ _ hp (KA.all hS.inn) h.gd h1).up (by omega),Zld hS _ _ _ hp (KA.all hS.inn) h1⟩
 ·rw [if_neg (by omega),if_neg (by omega),if_neg (by omega),ea,eb,Int.toNat_natCast,Int.toNat_natCast];obtain⟨hf,hD⟩:=h.head ha hb hl;exact⟨(Zy1 hS h.gd ha hb hl hf.s hD).up (by omega),Zvl hS ha hb hl hf.s hD⟩
theorem P1.ZFE (h:P1 s σ):BeA s σ:=fun w hw x hx=>(h.bea w hw x hx).1
theorem step_ok (hS:QJ s) (h:Ok s B σ) (hx:Zdw s x σ):Ok s (B + 4) (stepW s x σ):=by
 obtain⟨g,ac⟩:=Zfh hS h hx;have o1:=h.acts hS ac g;exact o1.acts hS (Zh6 (mm s) (Nat.le_refl _)) (Zh5 g o1.p1.ZFE (mm s) (Nat.le_refl _)).1
theorem ZuL (hS:QJ s) (h:Ok s B σ) (hx:Zdw s x σ):UR s σ (stepW s x σ):= (Zfh hS h hx).2.trans (Zh6 (mm s) (Nat.le_refl _))
theorem Zq9 (hF:1000000 <=F) (hS:QJ s) (hB:B <=600000) (h:Gd s B σ) (hb:BeA s σ):ZbM F (ZbJ s σ)=some (hal s (rings s (mm s) σ)):=by
 have h4:=hS.mm.2.2;unfold ZbM;rw [show ZbJ s σ= (tab (nn s) σ.st,(tab (nn s) fun j=>tab (mm s * mm s) (σ.ma j)),tab (nn s) σ.kn,tab (nn s) σ.wa,tab (mm s) σ.be,tab (mm s * mm s) (Jq σ),σ.sd,s.qG,s.Zh,σ.ev) from rfl];dsimp only;refine Xz (fun k=>((k:Int),ZbJ s (rings s k σ))) rfl (n:=mm s) (by omega) (fun k hk next=>?_) (fun next=>?_)
 ·obtain⟨g1,g2⟩:=Zh5 h hb k (by omega);have hl7:((rings s k σ).be k).length <=600000:=by have:=g1.wf.pot;have:=J4 (f:=fun m=>((rings s k σ).be m).length) hk;unfold Pot at *;omega
  unfold ZmY;rw [show ZbJ s (rings s k σ)= (tab (nn s) (rings s k σ).st,(tab (nn s) fun j=>tab (mm s * mm s) ((rings s k σ).ma j)),tab (nn s) (rings s k σ).kn,tab (nn s) (rings s k σ).wa,tab (mm s) (rings s k σ).be,tab (mm s * mm s) (Jq (rings s k σ)),(rings s k σ).sd,s.qG,s.Zh,(rings s k σ).ev) from rfl];dsimp only;rw [Za2 hS hk,Cq1,Zpq];unfold ZEY;rw [show loop F (ZdY F (k:Int)) ((hal s (rings s k σ)).Za.qV,(hal s (rings s k σ)).Za.qX,(hal s (rings s k σ)).Za.qZ,(hal s (rings s k σ)).Za.Zk,(hal s (rings s k σ)).Za.Zr,(hal s (rings s k σ)).Za.kQ,(hal s (rings s k σ)).Za.kK,(hal s (rings s k σ)).qK.qG,(hal s (rings s k σ)).qK.Zh,(hal s (rings s k σ)).kU)=some (hal s (rings s (k + 1) σ)) from ZuT hF hS hB hk _ F (rings s k σ) (by omega) (Nat.le_refl _) g1 g2];simp only [Bq0];rw [Qe (by omega)];rfl
 ·unfold ZmY ZbJ;dsimp only;rw [ZeS hS,Cq0];rfl
theorem ZuK (hF:1000000 <=F) (hS:QJ s) (hB:B <=500000) (h:Ok s B σ) (hx:Zdw s x σ):ZBC F (hal s σ) x=some (hal s (stepW s x σ)):=by
 obtain⟨g,ac⟩:=Zfh hS h hx;have o1:=h.acts hS ac g;have fin:=Zq9 (F:=F) hF hS (by omega) g o1.p1.ZFE;unfold stepW;have fw:=h.gd.wf.few (by omega);have hsd:=h.sd;have hev:=fw.ev;unfold ZBC;simp only [Xl];unfold Zaw at fin |-;rcases hx with⟨k,p,q,ep,eq,hp,hq,h1⟩ | ⟨k,p,q,ep,eq,hp,hq,h1⟩ | ⟨k,p,ep,hp,h1⟩ | ⟨k,a,b,ea,eb,ha,hb,hl⟩
 ·rw [if_pos k,ep,eq,Int.toNat_natCast,Int.toNat_natCast] at fin |-;have es:Yd (σ.sd + 1)=σ.sd + 1:=Zbn (by have:=hsd.1;omega) (by have:=hsd.2;omega);rw [decide_eq_true k,Cq1,show(hal s σ).Za.kK=σ.sd from rfl,KT fw];simp only [Bq0]
  have e5:Z6.mk (Ze.mk (hal s (tell 1 p q σ.sd σ)).Za.qV (hal s (tell 1 p q σ.sd σ)).Za.qX (hal s (tell 1 p q σ.sd σ)).Za.qZ (hal s (tell 1 p q σ.sd σ)).Za.Zk (hal s (tell 1 p q σ.sd σ)).Za.Zr (hal s (tell 1 p q σ.sd σ)).Za.kQ (Yd ((hal s (tell 1 p q σ.sd σ)).Za.kK + 1))) (hal s (tell 1 p q σ.sd σ)).qK (hal s (tell 1 p q σ.sd σ)).kU=hal s (kK p q σ):=by
   rw [show(hal s (tell 1 p q σ.sd σ)).Za.kK=σ.sd from rfl,es];rfl
  have gs:=Zhb h.gd p q;rw [e5,Wo hS hp,Wo hS hq];simp only [Bq0];rw [show decide (((pl s p:Nat):Int)= ((pl s q:Nat):Int))=decide (pl s p=pl s q) by rw [<- Xl];exact Wm _ _];by_cases e:pl s p=pl s q
  ·rw [if_pos e] at fin |-;rw [decide_eq_true e,Cq1,Zol (gs.wf.few (by omega)) rfl hq];exact fin
  ·rw [if_neg e] at fin |-;rw [decide_eq_false e,Cq0,ZaU hS (gs.wf.few (by omega)) (hS.pl hp).2 (hS.pl hq).2];exact fin
 ·rw [if_neg (by omega),if_pos k,ep,eq,Int.toNat_natCast,Int.toNat_natCast] at fin |-;rw [decide_eq_false (by omega),Cq0,decide_eq_true k,Cq1,KT fw];simp only [Bq0];have gs:=Zg7 h.gd 3 p q 0;rw [Wo hS hp,Wo hS hq];simp only [Bq0];rw [show decide (((pl s p:Nat):Int)= ((pl s q:Nat):Int))=decide (pl s p=pl s q) by rw [<- Xl];exact Wm _ _];by_cases e:pl s p=pl s q
  ·rw [if_pos e] at fin |-;rw [decide_eq_true e,Cq1,ZkU hS (gs.wf.few (by omega)) rfl rfl hp hq];exact fin
  ·rw [if_neg e] at fin |-;rw [decide_eq_false e,Cq0,ZaU hS (gs.wf.few (by omega)) (hS.pl hp).2 (hS.pl hq).2];exact fin
 ·rw [if_neg (by omega),if_neg (by omega),if_pos k,ep,Int.toNat_natCast] at fin |-;rw [decide_eq_false (by omega),Cq0,decide_eq_false (by omega),Cq0,decide_eq_true k,Cq1];unfold ZBs;have h8:nn s <=8:=hS.p2;rw [Zlc hF hS (nn s) _ _ F _ (by omega) hp (KA.all hS.inn) h.gd (by omega) h1];exact fin
 ·rw [if_neg (by omega),if_neg (by omega),if_neg (by omega),ea,eb,Int.toNat_natCast,Int.toNat_natCast] at fin |-;obtain⟨hf,hD⟩:=h.head ha hb hl;rw [decide_eq_false (by omega),Cq0,decide_eq_false (by omega),Cq0,decide_eq_false (by omega),Cq0,decide_eq_true k,Cq1,Zvk hF hS h.gd (by omega) ha hb hl hf.s hD];exact fin
end
end
section
section
variable {s:Zc} {σ τ υ:TS} {F B a b p q w i n d:Nat} {x:XA}
theorem ZeJ {z:Int} (h:¬ ∃ k:Nat,z= (k:Int)/\k < nn s):(decide (z >=0) && decide (z < (s.Zh.length:Int)))=false:=Bool.eq_false_iff.2 fun e=>h ((ZkQ s z).1 e)
theorem ZXj (h:σ.ld i <= (σ.sn i).length):(((Jq σ i).kG.length:Int)==0)=decide (¬ σ.ld i < (σ.sn i).length):=by
 have e:(Jq σ i).kG.length= (σ.sn i).length - σ.ld i:=by show((σ.sn i).drop (σ.ld i)).length=_;rw [List.length_drop]
 rw [Xl,e];congr 1;rw [eq_iff_iff];omega
theorem ZXi (h:σ.ld i <= (σ.sn i).length):decide (((Jq σ i).kG.length:Int) > 0)=decide (σ.ld i < (σ.sn i).length):=by
 have e:(Jq σ i).kG.length= (σ.sn i).length - σ.ld i:=by show((σ.sn i).drop (σ.ld i)).length=_;rw [List.length_drop]
 rw [e];congr 1;rw [eq_iff_iff];omega
theorem Kg (hS:QJ s) {z:Int}:(0 <=z/\z < s.qG)↔∃ k:Nat,z= (k:Int)/\k < mm s:=by
 rw [hS.mm.1]
 constructor
 ·rintro⟨h1,h2⟩;exact⟨z.toNat,by omega,by omega⟩
 ·rintro⟨k,rfl,h⟩;omega
theorem ZL0 (hF:1000000 <=F) (hS:QJ s) (hB:B <=500000) (h:Ok s B σ):ZBE F (XY s σ) x=ifc (Zdw s x σ) (some (XY s (stepW s x σ),true)) (some (XY s σ,false)):=by
 have fw:=h.gd.wf.few (by omega);have hsd:=h.sd;have hev:=fw.ev;unfold ZBE;by_cases k4:x.act=4
 ·rw [show(x.act==4)=true by rw [k4];rfl,Cq1,show(XY s σ).s.qG=s.qG from rfl];by_cases hr:(0 <=x.a/\x.a < s.qG)/\(0 <=x.b/\x.b < s.qG)
  ·have:(!((((decide (x.a < 0)) || (decide (x.a >=s.qG))) || (decide (x.b < 0))) || (decide (x.b >=s.qG))))=true:=by
    rw [decide_eq_false (by omega),decide_eq_false (by omega),decide_eq_false (by omega),decide_eq_false (by omega)];rfl
   rw [this,Cq1];obtain⟨a,ea,ha⟩:= (Kg hS).1 hr.1;obtain⟨b,eb,hb⟩:= (Kg hS).1 hr.2;have hi:=KD ha hb;rw [ea,eb,Ut hS ha hb,show(XY s σ).w.kQ=tab (mm s * mm s) (Jq σ) from rfl,Z4 hi];simp only [Bq0];rw [ZXj (h.p2.ld _)];by_cases hl:σ.ld (li s a b) < (σ.sn (li s a b)).length
   ·have hA:Zdw s x σ:= .inr (.inr (.inr ⟨k4,a,b,ea,eb,ha,hb,hl⟩));obtain⟨g,ac⟩:=Zfh hS h hA;have o1:=h.acts hS ac g;obtain⟨hf,hD⟩:=h.head ha hb hl;rw [decide_eq_false (fun z=>z hl),Cq0,Yk hA,ZyZ hF hS h.gd (by omega) ha hb hl hf.s hD];simp only [Bq0]
    have ec:Zaw s x σ=ZeW s a b σ:=by
     unfold Zaw;rw [if_neg (by omega),if_neg (by omega),if_neg (by omega),ea,eb,Int.toNat_natCast,Int.toNat_natCast]
    rw [ec] at g o1;rw [ZkE hF hS (by omega) g o1.p1.ZFE];simp only [Bq0];unfold stepW;rw [ec]
   ·rw [decide_eq_true hl,Cq1,Z7];rintro(⟨k',_⟩ | ⟨k',_⟩ | ⟨k',_⟩ | ⟨_,a',b',e1,e2,_,_,h'⟩)
    ·omega
    ·omega
    ·omega
    ·have:a'=a:=by omega
     have:b'=b:=by omega
     subst a' b';exact hl h'
  ·have:(!((((decide (x.a < 0)) || (decide (x.a >=s.qG))) || (decide (x.b < 0))) || (decide (x.b >=s.qG))))=false:=by
    rw [Bool.not_eq_false',Bool.or_eq_true,Bool.or_eq_true,Bool.or_eq_true,decide_eq_true_eq,decide_eq_true_eq,decide_eq_true_eq,decide_eq_true_eq];omega
   rw [this,Cq0,Z7];rintro(⟨k',_⟩ | ⟨k',_⟩ | ⟨k',_⟩ | ⟨_,a',b',e1,e2,h1,h2,h'⟩)
   ·omega
   ·omega
   ·omega
   ·exact hr ⟨(Kg hS).2 ⟨a',e1,h1⟩,(Kg hS).2 ⟨b',e2,h2⟩⟩
 ·rw [show(x.act==4)=false by rw [Xl];exact decide_eq_false k4,Cq0];unfold ZvS;rw [show(XY s σ).s=s from rfl];simp only [Bq0];by_cases hp:¬ ∃ p:Nat,x.a= (p:Int)/\p < nn s
  ·rw [ZeJ hp];simp only [Bool.not_false,Bool.not_true,Jj,Bq0,Bool.true_or,Bool.false_and,Cq1];rw [Z7];rintro(⟨_,p,q,e1,_,h1,_⟩ | ⟨_,p,q,e1,_,h1,_⟩ | ⟨_,p,e1,h1,_⟩ | ⟨k',_⟩)
   ·exact hp ⟨p,e1,h1⟩
   ·exact hp ⟨p,e1,h1⟩
   ·exact hp ⟨p,e1,h1⟩
   ·omega
  obtain⟨p,ep,hp⟩:=Classical.not_not.1 hp;rw [ep,ZeI hp];simp only [Bool.not_true,Bool.not_false,Qn,Bool.false_or];unfold ZiW;rw [show(XY s σ).w.qV=tab (nn s) σ.st from rfl,Z4 hp];simp only [Bq0];rw [Xl (σ.st p)];by_cases h1:σ.st p ≠ 1
  ·rw [decide_eq_false h1];simp only [Bool.not_false,Bool.not_true,Bool.false_and,Jj,Bq0,Bool.true_or,Cq1];rw [Z7];rintro(⟨_,p',q,e1,_,_,_,z⟩ | ⟨_,p',q,e1,_,_,_,z⟩ | ⟨_,p',e1,_,z⟩ | ⟨k',_⟩)
   ·have:p'=p:=by omega
    subst p';exact h1 z
   ·have:p'=p:=by omega
    subst p';exact h1 z
   ·have:p'=p:=by omega
    subst p';exact h1 z
   ·omega
  have h1:=Classical.not_not.1 h1;rw [decide_eq_true h1];simp only [Bool.not_true,Bool.not_false,Bool.true_and,Bool.false_or]
  have fin:∀ hA:Zdw s x σ,ZbN F (Zb7 s (Zaw s x σ))=some (XY s (stepW s x σ),true):=fun hA=>by
   obtain⟨g,ac⟩:=Zfh hS h hA;have o1:=h.acts hS ac g;unfold ZbN Zb7;dsimp only;rw [Zpx,ZkE hF hS (by omega) g o1.p1.ZFE];rfl
  by_cases k3:x.act=3
  ·rw [show(x.act !=3)=false by rw [k3];rfl,Jj];simp only [Bq0,Bool.false_and,Cq0];rw [show(x.act==1)=false by rw [k3];rfl,Cq0,show(x.act==2)=false by rw [k3];rfl,Cq0,show(x.act==3)=true by rw [k3];rfl,Cq1];have hA:Zdw s x σ:= .inr (.inr (.inl ⟨k3,p,ep,hp,h1⟩))
   have ec:Zaw s x σ=JI s (nn s) p σ:=by
    unfold Zaw;rw [if_neg (by omega),if_neg (by omega),if_pos k3,ep,Int.toNat_natCast]
   have fin:=fin hA;rw [ec] at fin;unfold ZBw;have h8:nn s <=8:=hS.p2;rw [ZpJ hF hS (nn s) _ _ F _ (by omega) hp (KA.all hS.inn) h.gd (by omega),if_pos h1,Yk hA];exact fin
  ·rw [show(x.act !=3)=true by rw [KP];exact decide_eq_true k3,Qn];simp only [Bq0,Bool.true_and];by_cases hq:¬ ∃ q:Nat,x.b= (q:Int)/\q < nn s
   ·rw [ZeJ hq,Bool.not_false,Cq1,Z7];rintro(⟨_,p',q,_,e1,_,z,_⟩ | ⟨_,p',q,_,e1,_,z,_⟩ | ⟨k',_⟩ | ⟨k',_⟩)
    ·exact hq ⟨q,e1,z⟩
    ·exact hq ⟨q,e1,z⟩
    ·omega
    ·omega
   obtain⟨q,eq,hq⟩:=Classical.not_not.1 hq;rw [eq,ZeI hq,Bool.not_true,Cq0];by_cases k1:x.act=1
   ·rw [show(x.act==1)=true by rw [k1];rfl,Cq1];have hA:Zdw s x σ:= .inl ⟨k1,p,q,ep,eq,hp,hq,h1⟩
    have ec:Zaw s x σ= (if pl s p=pl s q then see q p σ.sd (kK p q σ) else send s (pl s p) (pl s q) ⟨1,(p:Int),(q:Int),σ.sd,[]⟩ (kK p q σ)):=by
     unfold Zaw;rw [if_pos k1,ep,eq,Int.toNat_natCast,Int.toNat_natCast]
    have fin:=fin hA;rw [ec] at fin;have es:Yd (σ.sd + 1)=σ.sd + 1:=Zbn (by have:=hsd.1;omega) (by have:=hsd.2;omega);have w1:Few s 800000 {σ with sd:=σ.sd + 1}:= ⟨fw.ev,fw.sn,fw.be,fw.wa,fw.ld,fw.ws⟩
    rw [show(XY s σ).w.kK=σ.sd from rfl,es,show Z5.mk s (Ze.mk (tab (nn s) σ.st) (XY s σ).w.qX (XY s σ).w.qZ (XY s σ).w.Zk (XY s σ).w.Zr (XY s σ).w.kQ (σ.sd + 1)) (XY s σ).kU=XY s {σ with sd:=σ.sd + 1} from rfl,ZaS w1];simp only [Bq0];have gs:=Zhb h.gd p q;rw [show XY s (tell 1 (p:Int) (q:Int) σ.sd {σ with sd:=σ.sd + 1})=XY s (kK p q σ) from rfl,ZaL hS hp,ZaL hS hq];simp only [Bq0];rw [Wm,Yk hA];by_cases e:pl s p=pl s q
    ·rw [if_pos e] at fin;rw [decide_eq_true e,Cq1,Zs8 (gs.wf.few (by omega)) hq hp];exact fin
    ·rw [if_neg e] at fin;rw [decide_eq_false e,Cq0,Zcj hS (gs.wf.few (by omega)) (hS.pl hp).2 (hS.pl hq).2];exact fin
   ·rw [show(x.act==1)=false by rw [Xl];exact decide_eq_false k1,Cq0];by_cases k2:x.act=2
    ·rw [show(x.act==2)=true by rw [k2];rfl,Cq1];have hA:Zdw s x σ:= .inr (.inl ⟨k2,p,q,ep,eq,hp,hq,h1⟩)
     have ec:Zaw s x σ= (if pl s p=pl s q then note s p q (tell 3 p q 0 σ) else send s (pl s p) (pl s q) ⟨2,(p:Int),(q:Int),0,[]⟩ (tell 3 p q 0 σ)):=by
      unfold Zaw;rw [if_neg k1,if_pos k2,ep,eq,Int.toNat_natCast,Int.toNat_natCast]
     have fin:=fin hA;rw [ec] at fin;rw [ZaS fw];simp only [Bq0];have gs:=Zg7 h.gd 3 p q 0;rw [ZaL hS hp,ZaL hS hq];simp only [Bq0];rw [Wm,Yk hA];by_cases e:pl s p=pl s q
     ·rw [if_pos e] at fin;rw [decide_eq_true e,Cq1,ZoL hS (gs.wf.few (by omega)) hp hq];exact fin
     ·rw [if_neg e] at fin;rw [decide_eq_false e,Cq0,Zcj hS (gs.wf.few (by omega)) (hS.pl hp).2 (hS.pl hq).2];exact fin
    ·rw [show(x.act==2)=false by rw [Xl];exact decide_eq_false k2,Cq0,show(x.act==3)=false by rw [Xl];exact decide_eq_false k3,Cq0,Z7];rintro(⟨k',_⟩ | ⟨k',_⟩ | ⟨k',_⟩ | ⟨k',_⟩)
     ·omega
     ·omega
     ·omega
     ·omega
theorem ZnJ (hS:QJ s) (h:Ok s B σ):ZBz (hal s σ) x=ifc (Zdw s x σ) (some true) (some false):=by
 unfold ZBz ZmU;rw [show(hal s σ).qK=s from rfl];simp only [Bq0]
 obtain⟨L,v,eL,hL⟩:∃ (L:Bool) (v:Int),((gd (decide (x.a >=0) && decide (x.a < (s.Zh.length:Int))) (ZL (hal s σ).Za.qV x.a) default)=some v/\(((decide (x.a >=0) && decide (x.a < (s.Zh.length:Int))) && (v==1))=L))/\(L=true↔∃ p:Nat,x.a= (p:Int)/\p < nn s/\σ.st p=1):=by
  by_cases hp:∃ p:Nat,x.a= (p:Int)/\p < nn s
  ·obtain⟨p,ep,hp⟩:=hp;refine⟨decide (σ.st p=1),σ.st p,⟨?_,?_⟩,?_⟩
   ·rw [ep,ZeI hp,Qn];exact Z4 hp
   ·rw [ep,ZeI hp,Bool.true_and,Xl]
   ·rw [decide_eq_true_eq]
    constructor
    ·exact fun z=>⟨p,ep,hp,z⟩
    ·rintro⟨p',e,_,z⟩;have:p'=p:=by omega
     subst this;exact z
  ·refine⟨false,default,⟨by rw [ZeJ hp];rfl,by rw [ZeJ hp];rfl⟩,?_⟩
   constructor
   ·intro z;cases z
   ·rintro⟨p,e,h1,_⟩;exact absurd ⟨p,e,h1⟩ hp
 rw [eL.1];simp only [Bq0]
 have j:∀ v13:Bool,(v13=true↔x.act=1\/x.act=2) ->Zf7 (hal s σ) x (decide (x.a >=0) && decide (x.a < (s.Zh.length:Int))) v v13=ifc (Zdw s x σ) (some true) (some false):=fun v13 hv=>by
  unfold Zf7;rw [eL.2];by_cases k12:x.act=1\/x.act=2
  ·rw [hv.2 k12,Cq1];unfold ZmU;rw [show(hal s σ).qK=s from rfl];cases hLb:L with
   | false=>
     rw [Jj];simp only [Bq0,Bool.false_and];have:¬ ∃ p:Nat,x.a= (p:Int)/\p < nn s/\σ.st p=1:=fun z=>by have:=hL.2 z;rw [hLb] at this;cases this
     rw [Z7];rintro(⟨_,p,q,e1,_,h1,_,z⟩ | ⟨_,p,q,e1,_,h1,_,z⟩ | ⟨_,p,e1,h1,z⟩ | ⟨k',_⟩)
     ·exact this ⟨p,e1,h1,z⟩
     ·exact this ⟨p,e1,h1,z⟩
     ·exact this ⟨p,e1,h1,z⟩
     ·omega
   | true=>
     rw [Qn];simp only [Bq0,Bool.true_and];obtain⟨p,ep,hp,h1⟩:=hL.1 hLb;by_cases hq:∃ q:Nat,x.b= (q:Int)/\q < nn s
     ·obtain⟨q,eq,hq⟩:=hq;rw [eq,ZeI hq,Yk];rcases k12 with k | k
      ·exact .inl ⟨k,p,q,ep,eq,hp,hq,h1⟩
      ·exact .inr (.inl ⟨k,p,q,ep,eq,hp,hq,h1⟩)
     ·rw [ZeJ hq,Z7];rintro(⟨_,p',q,_,e1,_,z,_⟩ | ⟨_,p',q,_,e1,_,z,_⟩ | ⟨k',_⟩ | ⟨k',_⟩)
      ·exact hq ⟨q,e1,z⟩
      ·exact hq ⟨q,e1,z⟩
      ·omega
      ·omega
  ·have:v13=false:=Bool.eq_false_iff.2 fun z=>k12 (hv.1 z)
   rw [this,Cq0,Xl,Xl];by_cases k3:x.act=3
   ·rw [decide_eq_true k3,Cq1];cases hLb:L with
    | false=>
      have:¬ ∃ p:Nat,x.a= (p:Int)/\p < nn s/\σ.st p=1:=fun z=>by have:=hL.2 z;rw [hLb] at this;cases this
      rw [Z7];rintro(⟨k',_⟩ | ⟨k',_⟩ | ⟨_,p,e1,h1,z⟩ | ⟨k',_⟩)
      ·omega
      ·omega
      ·exact this ⟨p,e1,h1,z⟩
      ·omega
    | true=>
      obtain⟨p,ep,hp,h1⟩:=hL.1 hLb;rw [Yk (.inr (.inr (.inl ⟨k3,p,ep,hp,h1⟩)))]
   ·rw [decide_eq_false k3,Cq0];by_cases k4:x.act=4
    ·rw [decide_eq_true k4,Cq1,show(hal s σ).qK.qG=s.qG from rfl];by_cases hr:((0 <=x.a/\x.a < s.qG)/\(0 <=x.b/\x.b < s.qG))/\x.a ≠ x.b
     ·have:((decide ((if x.b < x.a then x.b else x.a) >=0)) && (decide ((if x.b > x.a then x.b else x.a) < s.qG)) && (x.a !=x.b))=true:=by
       rw [KP,decide_eq_true hr.2,decide_eq_true (by split <;> omega),decide_eq_true (by split <;> omega)];rfl
      rw [this,Cq1];obtain⟨a,ea,ha⟩:= (Kg hS).1 hr.1.1;obtain⟨b,eb,hb⟩:= (Kg hS).1 hr.1.2;have hi:=KD ha hb;rw [ea,eb,Ut hS ha hb,show(hal s σ).Za.kQ=tab (mm s * mm s) (Jq σ) from rfl,Z4 hi];simp only [Bq0];rw [ZXi (h.p2.ld _)];by_cases hl:σ.ld (li s a b) < (σ.sn (li s a b)).length
      ·rw [decide_eq_true hl,Yk (.inr (.inr (.inr ⟨k4,a,b,ea,eb,ha,hb,hl⟩)))]
      ·rw [decide_eq_false hl,Z7];rintro(⟨k',_⟩ | ⟨k',_⟩ | ⟨k',_⟩ | ⟨_,a',b',e1,e2,_,_,h'⟩)
       ·omega
       ·omega
       ·omega
       ·have:a'=a:=by omega
        have:b'=b:=by omega
        subst a' b';exact hl h'
     ·have:((decide ((if x.b < x.a then x.b else x.a) >=0)) && (decide ((if x.b > x.a then x.b else x.a) < s.qG)) && (x.a !=x.b))=false:=by
       rw [Bool.eq_false_iff];intro z;rw [Ba0,Ba0,decide_eq_true_eq,decide_eq_true_eq,KP,decide_eq_true_eq] at z;obtain⟨⟨z1,z2⟩,z3⟩:=z;split at z1 <;> split at z2 <;> (apply hr;omega)
      rw [this,Cq0,Z7];rintro(⟨k',_⟩ | ⟨k',_⟩ | ⟨k',_⟩ | ⟨_,a',b',e1,e2,h1,h2,h'⟩)
      ·omega
      ·omega
      ·omega
      ·refine hr ⟨⟨(Kg hS).2 ⟨a',e1,h1⟩,(Kg hS).2 ⟨b',e2,h2⟩⟩,fun z=>?_⟩;have:a'=b':=by omega
       subst this;rw [h.p1.self a' h1] at h';simp at h'
    ·rw [decide_eq_false k4,Cq0,Z7];rintro(⟨k',_⟩ | ⟨k',_⟩ | ⟨k',_⟩ | ⟨k',_⟩)
     ·omega
     ·omega
     ·omega
     ·omega
 rw [Xl];by_cases k1:x.act=1
 ·rw [decide_eq_true k1,Cq1];exact j true ⟨fun _=>.inl k1,fun _=>rfl⟩
 ·rw [decide_eq_false k1,Cq0,Xl];exact j _ ⟨fun z=>.inr (of_decide_eq_true z),fun z=>decide_eq_true (z.resolve_left k1)⟩
end
end
section
def ts0:TS:= ⟨fun _=>1,fun _ _=>0,fun _=>[],fun _=>[],fun _=>[],fun _=>[],fun _=>0,0,[]⟩
noncomputable def Jw (s:Zc) (l:List XA):Nat ->TS×List Int
 | 0=>(ts0,[])
 | k + 1=>ifc (Zdw s (l.getD k default) (Jw s l k).1) (stepW s (l.getD k default) (Jw s l k).1,(Jw s l k).2 ++ [(k:Int)]) (Jw s l k)
section
variable {s:Zc} {σ τ υ:TS} {F B a b p q w i n d k:Nat} {l:List XA}
theorem Ztv (hS:QJ s):Yd (s.qG * s.qG)= ((mm s * mm s:Nat):Int):=by
 obtain⟨e,h1,h4⟩:=hS.mm;have h16:=ZdB hS;rw [e,<- Int.natCast_mul];exact Zbn (by omega) (by omega)
theorem ZfQ {α:Type} (z:α) {JJ n:Nat} (h:JJ * n <=100000):mkL z JJ (n:Int) (n:Int)=some (tab n fun _=>z):=by
 unfold mkL;rw [decide_eq_true (show(0:Int) <= (n:Int) by omega),decide_eq_true (show(n:Int) <= (n:Int) by omega),Int.toNat_natCast,Nm0 h,ZDG];rfl
theorem ZsG (hF:1000 <=F) (hS:QJ s):ZBH F s=some (hal s ts0):=by
 have h8:nn s <=8:=hS.p2;obtain⟨em,h1,h4⟩:=hS.mm;have h16:=ZdB hS;unfold ZBH;refine Xz (fun k=>((k:Int),tab k (fun _=>(1:Int)),tab k (fun _=>tab (mm s * mm s) fun _=>(0:Int)),tab k (fun _=>([]:List Int)),tab k (fun _=>([]:List Int)))) rfl (n:=nn s) (by omega) (fun k hk next=>?_) (fun next=>?_)
 ·unfold Zm2;dsimp only;rw [show((s.Zh.length:Nat):Int)= ((nn s:Nat):Int) from rfl,YF hk,Cq1,app1 (by rw [Xy];omega) (by decide)];simp only [Bq0];rw [Ztv hS,ZfQ _ (by omega)];simp only [Bq0];rw [app1 (by rw [Xy];omega) (by decide)];simp only [Bq0];rw [app1 (by rw [Xy];omega) (by decide)];simp only [Bq0];rw [Qe (by omega),ZaT,ZaT,ZaT]
 ·unfold Zm2;dsimp only;rw [show((s.Zh.length:Nat):Int)= ((nn s:Nat):Int) from rfl,Xk,Cq0,Ztv hS];have e1:mkL ([]:List Zd) 24 s.qG s.qG=some (tab (mm s) fun _=>[]):=by rw [em];exact ZfQ _ (by omega)
  rw [e1];simp only [Bq0];rw [ZfQ _ (by omega)];rfl
theorem ZuM (hF:1000 <=F) (hS:QJ s):ZBF F s=some (XY s ts0):=by
 have h8:nn s <=8:=hS.p2;obtain⟨em,h1,h4⟩:=hS.mm;have h16:=ZdB hS;unfold ZBF;refine Xz (fun k=>((k:Int),tab k (fun _=>(1:Int)),tab k (fun _=>tab (mm s * mm s) fun _=>(0:Int)),tab k (fun _=>([]:List Int)),tab k (fun _=>([]:List Int)))) rfl (n:=nn s) (by omega) (fun k hk next=>?_) (fun next=>?_)
 ·unfold Zm0;dsimp only;rw [show((s.Zh.length:Nat):Int)= ((nn s:Nat):Int) from rfl,YF hk,Cq1,app1 (by rw [Xy];omega) (by decide)];simp only [Bq0];rw [Ztv hS,ZfQ _ (by omega)];simp only [Bq0];rw [app1 (by rw [Xy];omega) (by decide)];simp only [Bq0];rw [app1 (by rw [Xy];omega) (by decide)];simp only [Bq0];rw [Qe (by omega),ZaT,ZaT,ZaT]
 ·unfold Zm0;dsimp only;rw [show((s.Zh.length:Nat):Int)= ((nn s:Nat):Int) from rfl,Xk,Cq0,Ztv hS];have e1:mkL ([]:List Zd) 24 s.qG s.qG=some (tab (mm s) fun _=>[]):=by rw [em];exact ZfQ _ (by omega)
  rw [e1];simp only [Bq0];rw [ZfQ _ (by omega)];rfl
theorem ZfC {n:Nat} {f:Nat ->Nat} (h:∀ k,k < n ->f k=0):QX n f=0:=by rw [Zbq (g:=fun _=>0) h,ZhV];simp
theorem ZW0 (s:Zc):Pot s ts0=11 * nn s:=by
 have e1:QX (mm s * mm s) (lw ts0)=0:=ZfC fun k _=>rfl
 have e2:QX (mm s) (fun m=>(ts0.be m).length)=0:=ZfC fun k _=>rfl
 have e3:QX (nn s) (fun q=>2 * (ts0.wa q).length)=0:=ZfC fun k _=>rfl
 have e4:QX (nn s) (fun p=>sw (ts0.st p))=nn s * 11:= (Zbq (g:=fun _=>11) fun k _=>rfl).trans (ZhV _ _);unfold Pot;rw [e1,e2,e3,e4];show 0 + 0 + 0 + 0 + nn s * 11=_;omega
theorem ok0 (hS:QJ s):Ok s 88 ts0:=by
 have h8:nn s <=8:=hS.p2;have nil:∀ {α:Type} (x:α),¬ x ∈ ([]:List α):=fun x h=>by cases h
 have no3:∀ p,¬ ts0.st p=3:=fun p h=>absurd h (by show ¬ ((1:Int)=3);decide)
 have kn:Kn s ts0:= ⟨fun q _=>List.Pairwise.nil,fun q _ x hx=>absurd hx (nil x)⟩
 have k1:KI s ts0:= ⟨fun i j x hx _=>by simp [ts0] at hx,fun i i' j j' x x' hx _ _ _ _=>by simp [ts0] at hx,fun p _ h=>absurd h (no3 p),fun p _ h=>absurd h (no3 p)⟩
 have w:Wf s 88 ts0:= ⟨by rw [ZW0];omega,fun i _=>Nat.le_refl _,fun q _ x hx=>absurd hx (nil x)⟩
 exact⟨⟨w,kn⟩,⟨fun a b _ _ x hx=>absurd hx (nil x),fun a _=>rfl,fun w _ x hx=>absurd hx (nil x),fun q _ x hx=>absurd hx (nil x)⟩,⟨fun i=>Nat.le_refl _,kn⟩,k1,⟨Int.le_refl _,Int.le_refl _⟩⟩
theorem Zl1 (hS:QJ s):∀ k,Ok s (88 + 4 * k) (Jw s l k).1/\(Jw s l k).2.length <=k/\UR s ts0 (Jw s l k).1:=by
 intro k
 induction k with
 | zero=>exact⟨ok0 hS,Nat.le_refl _,.refl⟩
 | succ k ih=>
   obtain⟨h1,h2,h3⟩:=ih;rw [Jw];by_cases hA:Zdw s (l.getD k default) (Jw s l k).1
   ·rw [Yk hA];refine⟨?_,by rw [List.length_append,List.length_singleton];omega,h3.trans (ZuL hS h1 hA)⟩;have:=step_ok hS h1 hA;exact⟨this.gd.up (by omega),this.p1,this.p2,this.ki,this.sd⟩
   ·rw [Z7 hA];exact⟨⟨h1.gd.up (by omega),h1.p1,h1.p2,h1.ki,h1.sd⟩,by omega,h3⟩
theorem Zu8 (hF:1000000 <=F) (hS:QJ s) (hl:l.length <=100):ZBG F (hal s ts0) l=some (hal s (Jw s l l.length).1,(Jw s l l.length).2):=by
 unfold ZBG;refine Xz (fun k=>((Jw s l k).2,(k:Int),ZbJ s (Jw s l k).1)) rfl (n:=l.length) (by omega) (fun k hk next=>?_) (fun next=>?_)
 ·obtain⟨h1,h2,_⟩:=Zl1 (l:=l) hS k;rw [Jw];obtain⟨σ,hσ⟩:∃ σ,σ= (Jw s l k).1:= ⟨_,rfl⟩
  obtain⟨dn,hd⟩:∃ dn,dn= (Jw s l k).2:= ⟨_,rfl⟩
  rw [<- hd] at h2;rw [<- hσ] at h1 |-;unfold Zm1;rw [show ZbJ s σ= (tab (nn s) σ.st,(tab (nn s) fun j=>tab (mm s * mm s) (σ.ma j)),tab (nn s) σ.kn,tab (nn s) σ.wa,tab (mm s) σ.be,tab (mm s * mm s) (Jq σ),σ.sd,s.qG,s.Zh,σ.ev) from rfl];dsimp only;rw [YF hk,Cq1,Qi default hk];simp only [Bq0];rw [Zpq,ZnJ hS h1];by_cases hA:Zdw s (l.getD k default) σ
  ·rw [Yk hA,Yk hA];simp only [Bq0,Cq1];rw [ZuK hF hS (by omega) h1 hA];simp only [Bq0];rw [<- hd,ZnH (by rw [List.length_singleton];omega)];simp only [Bq0];unfold Zf9;dsimp only;rw [Qe (by omega)];rfl
  ·rw [Z7 hA,Z7 hA];simp only [Bq0,Cq0];unfold Zf9;dsimp only;rw [Qe (by omega),<- hσ];rfl
 ·unfold Zm1 ZbJ;dsimp only;rw [Xk,Cq0];rfl
theorem ZyB (hF:1000000 <=F) (hS:QJ s) (hl:l.length <=100):ZBM F s l=some (vw s (Jw s l l.length).1,(Jw s l l.length).1.ev,(Jw s l l.length).2):=by
 unfold ZBM;rw [ZuM (by omega) hS];simp only [Bq0];refine Xz (fun k=>((Jw s l k).2,(k:Int),Zb7 s (Jw s l k).1)) rfl (n:=l.length) (by omega) (fun k hk next=>?_) (fun next=>?_)
 ·obtain⟨h1,h2,_⟩:=Zl1 (l:=l) hS k;rw [Jw];obtain⟨σ,hσ⟩:∃ σ,σ= (Jw s l k).1:= ⟨_,rfl⟩
  obtain⟨dn,hd⟩:∃ dn,dn= (Jw s l k).2:= ⟨_,rfl⟩
  rw [<- hd] at h2;rw [<- hσ] at h1 |-;unfold Znc;rw [show Zb7 s σ= (s.qG,s.Zh,tab (nn s) σ.st,(tab (nn s) fun j=>tab (mm s * mm s) (σ.ma j)),tab (nn s) σ.kn,tab (nn s) σ.wa,tab (mm s) σ.be,tab (mm s * mm s) (Jq σ),σ.sd,σ.ev) from rfl];dsimp only;rw [YF hk,Cq1,Qi default hk];simp only [Bq0];rw [Zpx,ZL0 hF hS (by omega) h1];by_cases hA:Zdw s (l.getD k default) σ
  ·rw [Yk hA,Yk hA];simp only [Bq0,Cq1];rw [<- hd,ZnH (by rw [List.length_singleton];omega)];simp only [Bq0];unfold Zgc;dsimp only;rw [Qe (by omega)];rfl
  ·rw [Z7 hA,Z7 hA];simp only [Bq0,Cq0];unfold Zgc;dsimp only;rw [Qe (by omega),<- hσ];rfl
 ·unfold Znc Zb7;dsimp only;rw [Xk,Cq0];rfl
end
end
section
section
variable {s:Zc} {σ τ υ:TS} {F B a b p q w i n d k:Nat}
theorem ZeU {l:List Zd} (hF:1000000 <=F) (hl:l.length <=900000) (hm:∀ x ∈ l,x.qX.length <=16):Zsj F l l=some true:=by
 unfold Zsj;rw [WQ,Cq0];refine Xz (fun k=>(k:Int)) rfl (n:=l.length) (by omega) (fun k hk next=>?_) (fun next=>?_)
 ·unfold ZmZ;rw [YF hk,Cq1,Qi default hk];simp only [Bq0,WQ,Bool.or_self,Bool.not_false,Qn];rw [Za6 (by have:=hm _ (QO (d:=default) hk);omega) (by have:=hm _ (QO (d:=default) hk);omega)];simp only [Bq0,Bool.not_true,Bool.or_self,Cq0];rw [Qe (by omega)]
 ·unfold ZmZ;rw [Xk,Cq0]
theorem ZvX (x:Zv):Zav x x=true:=by simp [Zav]
theorem ZpT {l:List Zv} (hF:1000000 <=F) (hl:l.length <=900000):ZvT F l l=some true:=by
 unfold ZvT;rw [WQ,Cq0];refine Xz (fun k=>(k:Int)) rfl (n:=l.length) (by omega) (fun k hk next=>?_) (fun next=>?_)
 ·unfold Zm5;rw [YF hk,Cq1,Qi default hk];simp only [Bq0,ZvX,Bool.not_true,Cq0];rw [Qe (by omega)]
 ·unfold Zm5;rw [Xk,Cq0]
theorem ZPs {i:Nat} (h1:1 <=mm s) (h:i < mm s * mm s):∃ a b,a < mm s/\b < mm s/\i=li s a b:=by
 refine⟨i / mm s,i % mm s,Nat.div_lt_of_lt_mul h,Nat.mod_lt _ (by omega),?_⟩;unfold li;rw [Nat.mul_comm];exact(Nat.div_add_mod _ _).symm
theorem ZuS (hF:1000000 <=F) (hS:QJ s) (h:Ok s B σ) (hB:B <=600000):Zsk F (vw s σ) (vw s σ)=some true:=by
 have h8:nn s <=8:=hS.p2;have h16:=ZdB hS;obtain⟨_,h1,h4⟩:=hS.mm;have fw:=h.gd.wf.few (by omega);unfold Zsk;simp only [WQ,Bool.or_self,Cq0];refine Xz (fun k=>(k:Int)) rfl (n:=nn s) (by omega) (fun k hk next=>?_) (fun next=>?_)
 ·unfold Znb;rw [show(vw s σ).qV=tab (nn s) σ.st from rfl,Xy,YF hk,Cq1,Z4 hk];simp only [Bq0,WQ,Cq0];rw [Qe (by omega)]
 unfold Znb;rw [show(vw s σ).qV=tab (nn s) σ.st from rfl,Xy,Xk,Cq0];refine Xz (fun k=>(k:Int)) rfl (n:=nn s) (by omega) (fun k hk next=>?_) (fun next=>?_)
 ·unfold Zna;rw [show(vw s σ).qX=Uh s σ.ma from rfl,show(Uh s σ.ma).length=nn s from Xy,YF hk,Cq1,Za1 hk];simp only [Bq0];rw [Za6 (by rw [Xy];omega) (by rw [Xy];omega)];simp only [Bq0,Bool.not_true,Cq0];rw [Qe (by omega)]
 unfold Zna;rw [show(vw s σ).qX=Uh s σ.ma from rfl,show(Uh s σ.ma).length=nn s from Xy,Xk,Cq0];refine Xz (fun k=>(k:Int)) rfl (n:=nn s) (by omega) (fun k hk next=>?_) (fun next=>?_)
 ·unfold Zm9;have:=h.gd.kn.len hS hk;rw [show(vw s σ).qZ=tab (nn s) σ.kn from rfl,Xy,YF hk,Cq1,Z4 hk];simp only [Bq0];rw [Za6 (by omega) (by omega)];simp only [Bq0,Bool.not_true,Cq0];rw [Qe (by omega)]
 unfold Zm9;rw [show(vw s σ).qZ=tab (nn s) σ.kn from rfl,Xy,Xk,Cq0];refine Xz (fun k=>(k:Int)) rfl (n:=nn s) (by omega) (fun k hk next=>?_) (fun next=>?_)
 ·unfold Zm8;have:=fw.wa k hk;rw [show(vw s σ).Zk=tab (nn s) σ.wa from rfl,Xy,YF hk,Cq1,Z4 hk];simp only [Bq0];rw [Za6 (by omega) (by omega)];simp only [Bq0,Bool.not_true,Cq0];rw [Qe (by omega)]
 unfold Zm8;rw [show(vw s σ).Zk=tab (nn s) σ.wa from rfl,Xy,Xk,Cq0];refine Xz (fun k=>(k:Int)) rfl (n:=mm s) (by omega) (fun k hk next=>?_) (fun next=>?_)
 ·unfold Zm7;have:=fw.be k hk;rw [show(vw s σ).Zr=tab (mm s) σ.be from rfl,Xy,YF hk,Cq1,Z4 hk];simp only [Bq0];rw [ZeU hF (by omega) (fun x hx=>by rw [(h.p1.bea k hk x hx).1.2.2];exact h16)];simp only [Bq0,Bool.not_true,Cq0];rw [Qe (by omega)]
 unfold Zm7;rw [show(vw s σ).Zr=tab (mm s) σ.be from rfl,Xy,Xk,Cq0];refine Xz (fun k=>(k:Int)) rfl (n:=mm s * mm s) (by omega) (fun k hk next=>?_) (fun next=>?_)
 ·unfold Zm6;have:=fw.sn k hk;obtain⟨a,b,ha,hb,e⟩:=ZPs h1 hk;rw [show(vw s σ).kQ=tab (mm s * mm s) (Jq σ) from rfl,Xy,YF hk,Cq1,Z4 hk];simp only [Bq0,WQ,Bool.not_false,Qn]
  rw [ZeU hF (by show((σ.sn k).drop _).length <=_;rw [List.length_drop];omega) (fun x hx=>by
   obtain⟨p,_,_,hm,_⟩:=h.p1.lets a b ha hb x (by rw [<- e];exact List.mem_of_mem_drop hx);exact hm)]
  simp only [Bq0,Bool.not_true,Bool.or_self,Cq0];rw [Qe (by omega)]
 unfold Zm6;rw [show(vw s σ).kQ=tab (mm s * mm s) (Jq σ) from rfl,Xy,Xk,Cq0]
theorem ZkV (hF:1000000 <=F):ZBN F (Ze.mk [] [] [] [] [] [] 0)=some true:=by
 obtain⟨F',rfl⟩:∃ F',F=F' + 1:= ⟨F - 1,by omega⟩
 rfl
end
theorem Zkr {F:Nat} (hF:1000000 <=F) (s:Zc) (l:List XA):f3L F s l=some true:=by
 unfold f3L ZE2;simp only [Bq0];by_cases h30:(!decide ((s.Zh.length:Int) <=30) || decide ((l.length:Int) > 120))=true
 ·rw [h30];rfl
 rw [Bool.eq_false_iff.2 h30,Cq0];unfold ZE1;rw [Zsw (by omega),ZuP (by omega)];have f15:ZBO=some true:=rfl;by_cases hS:QJ s
 ·rw [Yk hS,Yk hS];simp only [Bq0,WQ,Bool.false_or,Bool.not_true];by_cases hl:(l.length:Int) > 100
  ·rw [decide_eq_true hl];simp only [Cq1,Bq0,beq_self_eq_true,Qn];rw [ZkV hF];simp only [Bq0]
   rfl
  ·rw [decide_eq_false hl];simp only [Cq0];rw [ZsG (by omega) hS];simp only [Bq0];obtain⟨ok,dl,_⟩:=Zl1 (l:=l) hS l.length;rw [Zu8 hF hS (by omega),ZyB hF hS (by omega)];simp only [Bq0,beq_self_eq_true,Qn];rw [show(hal s (Jw s l l.length).1).Za=vw s (Jw s l l.length).1 from rfl,ZuS hF hS ok (by omega)];simp only [Bq0,Bool.true_and,Qn];have hev:= (ok.gd.wf.few (by omega)).ev;rw [show(hal s (Jw s l l.length).1).kU= (Jw s l l.length).1.ev from rfl,ZpT hF (by omega)];simp only [Bq0,Bool.true_and,Qn];rw [Za6 (by omega) (by omega)];simp only [Bq0,Qn];rw [f15];rfl
 ·rw [Z7 hS,Z7 hS];simp only [Bq0];simp only [show((2:Int) !=0)=true from rfl,Bool.true_or,Cq1,Bool.not_false,Bq0,beq_self_eq_true,Qn];rw [ZkV hF]
  rfl
end
end Go.Proofs.YtcnahmgekicbdaaGreat
end
