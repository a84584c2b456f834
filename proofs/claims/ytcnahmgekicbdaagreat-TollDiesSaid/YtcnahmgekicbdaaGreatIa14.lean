/- Part 14. -/
import Derived.Test.YtcnahmgekicbdaaGreatIa13
set_option linter.all false
set_option maxHeartbeats 2000000
section
namespace Go.Proofs.YtcnahmgekicbdaaGreat
open Go.Lf
section
theorem Xf {β γ:Type} {body:γ ->(γ ->Option β) ->Option β} {r:Option β} {s0:γ} (S:Nat ->γ) (h0:S 0=s0) {n F:Nat} (hF:n < F) (hb:∀ k,k < n ->∀ next,body (S k) next=next (S (k + 1))) (he:∀ next,body (S n) next=r):loop F body s0=r:=h0 ▸ ZfV S hF hb he
theorem Xd {α:Type} {l:List α} {k:Nat} {d:α} (h:k < l.length):l.getD k d ∈ l:=by
 rw [List.getD_eq_getElem?_getD,List.getElem?_eq_getElem h];exact List.getElem_mem h
theorem Qf {α:Type} {l:List α} {k:Nat} (d:α) (h:k < l.length):ZM l (k:Int)=some (l.getD k d):=by
 rw [ZIt h,List.getD_eq_getElem?_getD,List.getElem?_eq_getElem h];rfl
theorem ZbK (a b:Int):(a !=b)=decide (a ≠ b):=by
 by_cases h:a=b <;> simp [h]
theorem Xg (a b:Int):(a==b)=decide (a=b):=by
 by_cases h:a=b <;> simp [h]
theorem KX {c:Nat ->Prop} {n:Nat} (h:c n):∃ m,m <=n∧c m∧∀ k,k < m ->¬ c k:=by
 induction n using Nat.strongRecOn with
 | _ n ih=>
   by_cases hz:∃ j,j < n∧c j
   ·obtain⟨j,h1,h2⟩:=hz;obtain⟨m,q1,q2,q3⟩:=ih j h1 h2;exact⟨m,by omega,q2,q3⟩
   ·exact⟨n,Nat.le_refl _,h,fun k hk q=>hz ⟨k,hk,q⟩⟩
theorem ZG1:∀ (n:Nat) (f:Nat ->Nat),(∀ i,i <=n ->f i < n) ->∃ i j,i < j∧j <=n∧f i=f j:=by
 intro n
 induction n with
 | zero=>intro f h;exact absurd (h 0 (Nat.le_refl _)) (Nat.not_lt_zero _)
 | succ n ih=>
   intro f h;by_cases hz:∃ i,i <=n∧f i=f (n + 1)
   ·obtain⟨i,h1,h2⟩:=hz;exact⟨i,n + 1,by omega,Nat.le_refl _,h2⟩
   ·have hne:∀ i,i <=n ->f i ≠ f (n + 1):=fun i hi q=>hz ⟨i,hi,q⟩
    have hl:=h (n + 1) (Nat.le_refl _)
    obtain⟨i,j,h1,h2,h3⟩:=ih (fun i=>if f i < f (n + 1) then f i else f i - 1) (fun i hi=>by
     have:=h i (by omega);have:=hne i hi;by_cases q:f i < f (n + 1)
     ·rw [if_pos q];omega
     ·rw [if_neg q];omega)
    refine⟨i,j,h1,by omega,?_⟩;have a1:=hne i (by omega);have a2:=hne j h2;by_cases q1:f i < f (n + 1) <;> by_cases q2:f j < f (n + 1)
    ·rwa [if_pos q1,if_pos q2] at h3
    ·rw [if_pos q1,if_neg q2] at h3;omega
    ·rw [if_neg q1,if_pos q2] at h3;omega
    ·rw [if_neg q1,if_neg q2] at h3;omega
section
variable {β γ:Type} {R:β ->Prop}
end
theorem ZbD (k:Nat):decide ((k:Int) >=0)=true:=decide_eq_true (by omega)
noncomputable def ifc {α:Sort _} (c:Prop) (a b:α):α:=@ite α c (Classical.propDecidable c) a b
theorem ZH {α:Sort _} {c:Prop} (h:c) {a b:α}:ifc c a b=a:=by unfold ifc;exact if_pos h
theorem ZG {α:Sort _} {c:Prop} (h:¬ c) {a b:α}:ifc c a b=b:=by unfold ifc;exact if_neg h
theorem Zan {β γ:Type} {body:γ ->(γ ->Option β) ->Option β} {r1 r2:Option β} {s0:γ} (S:Nat ->γ) (h0:S 0=s0) (c:Nat ->Prop) {n F:Nat} (hF:n < F)
 (hb:∀ k,k < n ->∀ next,body (S k) next=ifc (c k) (next (S (k + 1))) r1) (he:∀ next,body (S n) next=r2):loop F body s0=ifc (∀ k,k < n ->c k) r2 r1:=by
 by_cases hall:∀ k,k < n ->c k
 ·rw [ZH hall];exact Xf S h0 hF (fun k hk next=>by rw [hb k hk,ZH (hall k hk)]) he
 ·rw [ZG hall];have hz:∃ k,k < n∧¬ c k:=Classical.byContradiction fun q=>hall fun p hp=>Classical.byContradiction fun q2=>q ⟨p,hp,q2⟩
  obtain⟨k0,hk0⟩:=hz;obtain⟨m,_,hm,hlt⟩:=KX (c:=fun k=>k < n∧¬ c k) hk0;exact Xf S h0 (n:=m) (by omega) (fun k hk next=>by rw [hb k (by omega),ZH (Classical.byContradiction fun q=>hlt k hk ⟨by omega,q⟩)]) (fun next=>by rw [hb m hm.1,ZG hm.2])
theorem Zj2 {α:Type} (l:List α) (c:α ->Bool) (d:α):(List.range l.length).any (fun k=>c (l.getD k d))=l.any c:=by
 rw [Bool.eq_iff_iff,List.any_eq_true,List.any_eq_true]
 constructor
 ·rintro⟨k,h1,h2⟩;have hk:=List.mem_range.1 h1;rw [List.getD_eq_getElem?_getD,List.getElem?_eq_getElem hk] at h2;exact⟨_,List.getElem_mem hk,h2⟩
 ·rintro⟨x,h1,h2⟩;obtain⟨k,hk,rfl⟩:=List.getElem_of_mem h1;exact⟨k,List.mem_range.2 hk,by rw [List.getD_eq_getElem?_getD,List.getElem?_eq_getElem hk];exact h2⟩
theorem WT {α:Type} {l:List α} {k:Nat} {d:α} (h:k < l.length):l.getD k d=l[k]:=by
 rw [List.getD_eq_getElem?_getD,List.getElem?_eq_getElem h];rfl
theorem Zrb {xs ys:List Int} (h:xs.length + ys.length <=1000000):app 8 xs ys=some (xs ++ ys):=Zq9 h (by decide)
end
section
def inn (w:Zb) (q:Int):Int:= (w.Zf.getD q.toNat default).UE
def up (w:Zb):Nat ->Int ->Int
 | 0,q=>q
 | k + 1,q=>if q < 0 then q else up w k (inn w q)
theorem ZfI {w:Zb} {q:Int} (h:q < 0) (k:Nat):up w k q=q:=by
 cases k with
 | zero=>rfl
 | succ k=>show(if q < 0 then q else _)=q;rw [if_pos h]
theorem JD (w:Zb) (k:Nat) (q:Int):up w (k + 1) q=if up w k q < 0 then up w k q else inn w (up w k q):=by
 induction k generalizing q with
 | zero=>rfl
 | succ k ih=>
   show(if q < 0 then q else up w (k + 1) (inn w q))=_;by_cases h:q < 0
   ·rw [if_pos h,ZfI h,if_pos h]
   ·rw [if_neg h,ih];show _=if(if q < 0 then q else up w k (inn w q)) < 0 then _ else _
    rw [if_neg h];show _=if _ then(if q < 0 then q else up w k (inn w q)) else inn w (if q < 0 then q else up w k (inn w q))
    rw [if_neg h]
theorem up_add (w:Zb) (a b:Nat) (q:Int):up w (a + b) q=up w b (up w a q):=by
 induction a generalizing q with
 | zero=>rw [Nat.zero_add];rfl
 | succ a ih=>
   rw [show a + 1 + b= (a + b) + 1 by omega];show(if q < 0 then q else up w (a + b) (inn w q))=up w b (if q < 0 then q else up w a (inn w q));by_cases h:q < 0
   ·rw [if_pos h,if_pos h,ZfI h]
   ·rw [if_neg h,if_neg h,ih]
theorem JN {w:Zb} {q:Int} {a:Nat} (h:up w a q < 0) {b:Nat} (hb:a <=b):up w b q < 0:=by
 obtain⟨d,rfl⟩:∃ d,b=a + d:= ⟨b - a,by omega⟩
 rw [up_add,ZfI h];exact h
def okN (w:Zb) (q:Int):Prop:=-1 <=q∧q < (w.Zf.length:Int)
instance (w:Zb) (q:Int):Decidable (okN w q):=by unfold okN;infer_instance
structure Inn (w:Zb):Prop where
 rng:∀ p:Nat,p < w.Zf.length ->okN w (inn w p)
 acy:∀ p:Nat,p < w.Zf.length ->up w w.Zf.length p < 0
theorem Inn.up {w:Zb} (h:Inn w) {q:Int} (hq:okN w q) (k:Nat):okN w (up w k q):=by
 induction k with
 | zero=>exact hq
 | succ k ih=>
   rw [JD];by_cases h2:Proofs.YtcnahmgekicbdaaGreat.up w k q < 0
   ·rw [if_pos h2];exact ih
   ·rw [if_neg h2];have:=h.rng (Proofs.YtcnahmgekicbdaaGreat.up w k q).toNat (by have:=ih.2;omega)
    rwa [Int.toNat_of_nonneg (by omega)] at this
theorem ZmK {w:Zb} (hr:∀ p:Nat,p < w.Zf.length ->okN w (inn w p)):(∀ p:Nat,p < w.Zf.length ->up w w.Zf.length p < 0)↔∀ p:Nat,p < w.Zf.length ->∀ j,j <=w.Zf.length ->up w (j + 1) p ≠ (p:Int):=by
 constructor
 ·intro h p hp j hj e
  have:∀ m:Nat,up w (m * (j + 1)) p= (p:Int):=fun m=>by
   induction m with
   | zero=>rw [Nat.zero_mul];rfl
   | succ m ih=>rw [Nat.succ_mul,up_add,ih,e]
  have h2:=JN (h p hp) (b:=w.Zf.length * (j + 1)) (Nat.le_mul_of_pos_right _ (by omega));rw [this] at h2;omega
 ·intro h p hp;rcases Int.lt_or_le (up w w.Zf.length p) 0 with q | q
  ·exact q
  ·exfalso
   have hk:∀ k,k <=w.Zf.length ->0 <=up w k p:=fun k hk=>by
    rcases Int.lt_or_le (up w k p) 0 with z | z
    ·have:=JN z hk;omega
    ·exact z
   have hok:∀ k,okN w (up w k p):=fun k=>by
    induction k with
    | zero=>exact⟨by show(-1:Int) <= (p:Int);omega,by show(p:Int) < _;omega⟩
    | succ k ih=>
      rw [JD];by_cases h2:up w k p < 0
      ·rw [if_pos h2];exact ih
      ·rw [if_neg h2];have:=hr (up w k p).toNat (by have:=ih.2;omega)
       rwa [Int.toNat_of_nonneg (by omega)] at this
   obtain⟨i,j,h1,h2,h3⟩:=ZG1 w.Zf.length (fun k=>(up w k p).toNat) fun k hk'=>by
    have:= (hok k).2;have:=hk k hk';omega
   have e:up w i p=up w j p:=by have:=hk i (by omega);have:=hk j h2;omega
   have hi:=hk i (by omega);have:=h (up w i p).toNat (by have:= (hok i).2;omega) (j - i - 1) (by omega);apply this;rw [Int.toNat_of_nonneg hi,show j - i - 1 + 1=j - i by omega,← up_add,show i + (j - i)=j by omega,e]
theorem Zah {w:Zb} {q:Int} (h:okN w q) (h2:¬ q < 0):∃ k:Nat,q= (k:Int)∧k < w.Zf.length:= ⟨q.toNat,by omega,by have:=h.2;omega⟩
def spt (w:Zb) (p:Nat):ZQ:=w.Zf.getD p default
theorem X5 {w:Zb} {p:Nat} (hp:p < w.Zf.length):ZM w.Zf (p:Int)=some (spt w p):=Qf default hp
theorem Ja (w:Zb) (p:Nat):(spt w p).UE=inn w (p:Int):=by unfold spt inn;rw [Int.toNat_natCast]
def Wth (w:Zb) (p x:Nat):Prop:=∃ j,up w j (x:Int)= (p:Int)
theorem Wth.bound {w:Zb} (hi:Inn w) {p x:Nat} (hx:x < w.Zf.length) (h:Wth w p x):∃ j,j < w.Zf.length∧up w j (x:Int)= (p:Int):=by
 obtain⟨j,e⟩:=h;refine⟨j,Classical.byContradiction fun q=>?_,e⟩;have:=JN (hi.acy x hx) (show w.Zf.length <=j by omega);omega
def ZeG (w:Zb) (p x:Nat):Bool:= (List.range w.Zf.length).any fun j=>up w j (x:Int)== (p:Int)
theorem ZaK {w:Zb} (hi:Inn w) {p x:Nat} (hx:x < w.Zf.length):ZeG w p x=true↔Wth w p x:=by
 unfold ZeG;rw [List.any_eq_true]
 constructor
 ·rintro⟨j,_,e⟩;exact⟨j,beq_iff_eq.1 e⟩
 ·intro h;obtain⟨j,hj,e⟩:=h.bound hi hx;exact⟨j,List.mem_range.2 hj,beq_iff_eq.2 e⟩
def desc (w:Zb):Nat ->Nat ->List Int
 | 0,_=>[]
 | d + 1,v=>(v:Int)::(List.range w.Zf.length).flatMap fun k:Nat=>if inn w (k:Int)= (v:Int) then desc w d k else []
def Ww (w:Zb) (d v:Nat):Prop:=∀ k,k < w.Zf.length ->∀ j,d <=j ->up w j (k:Int) ≠ (v:Int)
theorem Ww.all {w:Zb} (hi:Inn w) {v:Nat}:Ww w w.Zf.length v:=fun k hk j hj q=>by
 have:=JN (hi.acy k hk) hj;omega
theorem ZA1 {w:Zb} {x k v j:Nat} (h1:up w j (x:Int)= (k:Int)) (h2:inn w (k:Int)= (v:Int)):up w (j + 1) (x:Int)= (v:Int):=by
 rw [JD,h1,if_neg (by omega),h2]
theorem Ww.kid {w:Zb} {d v k:Nat} (h:Ww w (d + 1) v) (h2:inn w (k:Int)= (v:Int)):Ww w d k:=fun x hx j hj q=>h x hx (j + 1) (by omega) (ZA1 q h2)
def kids (w:Zb) (d v k:Nat):List Int:= (List.range k).flatMap fun k:Nat=>if inn w (k:Int)= (v:Int) then desc w d k else []
structure Y8 (s:Zb):Prop where
 m1:1 <=s.qG
 m2:s.qG <=4
 p1:1 <=s.Zf.length
 p2:s.Zf.length <=8
 at_:∀ p,p < s.Zf.length ->0 <= (spt s p).at_∧(spt s p).at_ < s.qG
 inn:Inn s
def Ends (s:Zb) (p:Nat):Prop:=∃ m,m <=s.Zf.length∧up s (m + 1) (p:Int) < 0
section
variable {F:Nat} {s:Zb}
theorem Zlg (hr:∀ p:Nat,p < s.Zf.length ->okN s (inn s p)) {p:Nat} (hp:p < s.Zf.length):∀ k,okN s (up s k (p:Int)):=by
 intro k
 induction k with
 | zero=>exact⟨by show(-1:Int) <= (p:Int);omega,by show(p:Int) < _;omega⟩
 | succ k ih=>
   rw [JD];by_cases h2:up s k p < 0
   ·rw [if_pos h2];exact ih
   ·rw [if_neg h2];obtain⟨j,e,hj⟩:=Zah ih h2;rw [e];exact hr j hj
theorem Zov (hr:∀ p:Nat,p < s.Zf.length ->okN s (inn s p)):(∀ p,p < s.Zf.length ->Ends s p)↔∀ p:Nat,p < s.Zf.length ->up s s.Zf.length (p:Int) < 0:=by
 constructor
 ·intro h;refine(ZmK hr).2 fun p hp j hj e=>?_
  obtain⟨m,hm,he⟩:=h p hp
  have:∀ k:Nat,up s (k * (j + 1)) p= (p:Int):=fun k=>by
   induction k with
   | zero=>rw [Nat.zero_mul];rfl
   | succ k ih=>rw [Nat.succ_mul,up_add,ih,e]
  have h2:=JN he (b:= (m + 1) * (j + 1)) (Nat.le_mul_of_pos_right _ (by omega));rw [this] at h2;omega
 ·intro h p hp;exact⟨s.Zf.length,Nat.le_refl _,JN (h p hp) (by omega)⟩
theorem ZqU (hF:1000 <=F) (h8:s.Zf.length <=8) (hr:∀ p:Nat,p < s.Zf.length ->okN s (inn s p)) {p:Nat} (hp:p < s.Zf.length) (v30:Int) (next:Int×Int ->Option Int):
 loop F (ZiT s (p:Int) next) (inn s (p:Int),v30,0,false)=ifc (Ends s p) (next (((p + 1:Nat):Int),v30)) (some 2):=by
 have e0:(inn s (p:Int),v30,(0:Int),false)= (up s (0 + 1) p,v30,((0:Nat):Int),false):=by
  rw [JD];show _= (if((p:Int)) < 0 then _ else _,_);rw [if_neg (by omega)];rfl
 obtain⟨m,hm,hs,hlt⟩:=KX (c:=fun k=>s.Zf.length <=k∨up s (k + 1) p < 0) (n:=s.Zf.length) (.inl (by omega))
 have hj:∀ j,j < m ->j < s.Zf.length∧¬ up s (j + 1) p < 0:=fun j hj=>by
  have:=hlt j hj;exact⟨Classical.byContradiction fun z=>this (.inl (by omega)),fun q=>this (.inr q)⟩
 refine Xf (fun j=>(up s (j + 1) p,v30,(j:Int),false)) e0.symm (n:=m) (by omega) (fun j hjm nx=>?_) (fun nx=>?_)
 ·obtain⟨a1,a2⟩:=hj j hjm;obtain⟨k,e,hk⟩:=Zah (Zlg hr hp (j + 1)) a2;unfold ZiT;dsimp only;rw [JD s (j + 1),if_neg a2,e,ZbD,Cq1,Qw (by omega),decide_eq_false (by omega),X5 hk];simp only [Cq0,Bool.not_true,Bq0];rw [Ja]
 ·unfold ZiT;dsimp only;by_cases h2:up s (m + 1) p < 0
  ·rw [decide_eq_false (show ¬ up s (m + 1) p >=0 by omega),Cq0,ZH ⟨m,hm,h2⟩];unfold Zgg;dsimp only;rw [Cq0,Qw (by omega)]
  ·have hml:m=s.Zf.length:=by rcases hs with z | z;· omega
                              ·exact absurd z h2
   obtain⟨k,e,hk⟩:=Zah (Zlg hr hp (m + 1)) h2
   have hne:¬ Ends s p:=by
    rintro⟨j,h1,h3⟩;have:=JN h3 (show j + 1 <=m + 1 by omega);exact h2 this
   rw [e,ZbD,Cq1,Qw (by omega),decide_eq_true (show((m + 1:Nat):Int) > (s.Zf.length:Int) by omega),ZG hne]
   rfl
theorem Zxj (hF:1000 <=F) (h8:s.Zf.length <=8) (hr:∀ p:Nat,p < s.Zf.length ->okN s (inn s p)) {p:Nat} (hp:p < s.Zf.length) (next:Int ->Option Bool):
 loop F (ZiY s (p:Int) next) (inn s (p:Int),0)=ifc (∀ j,j <=s.Zf.length ->up s (j + 1) p ≠ (p:Int)) (next ((p + 1:Nat):Int)) (some false):=by
 have hok:=Zlg hr hp
 have e0:(inn s (p:Int),(0:Int))= (up s (0 + 1) p,((0:Nat):Int)):=by
  rw [JD];show _= (if((p:Int)) < 0 then _ else _,_);rw [if_neg (by omega)];rfl
 obtain⟨m,hm,hs,hlt⟩:=KX (c:=fun k=>s.Zf.length < k∨up s (k + 1) p < 0∨up s (k + 1) p= (p:Int)) (n:=s.Zf.length + 1) (.inl (by omega))
 have hj:∀ j,j < m ->j <=s.Zf.length∧¬ up s (j + 1) p < 0∧up s (j + 1) p ≠ (p:Int):=fun j hj=>by
  have:=hlt j hj;exact⟨Classical.byContradiction fun z=>this (.inl (by omega)),fun q=>this (.inr (.inl q)),fun q=>this (.inr (.inr q))⟩
 refine Xf (fun j=>(up s (j + 1) p,(j:Int))) e0.symm (n:=m) (by omega) (fun j hjm nx=>?_) (fun nx=>?_)
 ·obtain⟨a1,a2,a3⟩:=hj j hjm;obtain⟨k,e,hk⟩:=Zah (hok (j + 1)) a2;unfold ZiY;dsimp only;rw [JD s (j + 1),if_neg a2];rw [e] at a3 ⊢;rw [decide_eq_true (show(j:Int) <= (s.Zf.length:Int) by omega),ZbD,Bool.and_self,Cq1,Xg,decide_eq_false a3,Cq0,X5 hk];simp only [Bq0];rw [Qw (by omega),Ja]
 ·unfold ZiY;dsimp only;by_cases h1:s.Zf.length < m
  ·rw [decide_eq_false (show ¬ (m:Int) <= (s.Zf.length:Int) by omega),Bool.false_and,Cq0,Qw (by omega),ZH fun j q1=>(hj j (by omega)).2.2]
  ·by_cases h2:up s (m + 1) p < 0
   ·rw [decide_eq_false (show ¬ up s (m + 1) p >=0 by omega),Bool.and_false,Cq0,Qw (by omega),ZH];intro j q1 q2;rcases Nat.lt_or_ge j m with z | z
    ·exact(hj j z).2.2 q2
    ·have:=JN h2 (show m + 1 <=j + 1 by omega);omega
   ·have h3:up s (m + 1) p= (p:Int):=by
     rcases hs with z | z | z
     ·exact absurd z h1
     ·exact absurd z h2
     ·exact z
    rw [decide_eq_true (show(m:Int) <= (s.Zf.length:Int) by omega),h3,ZbD,Bool.and_self,Cq1,Xg,decide_eq_true rfl,Cq1,ZG fun z=>z m (by omega) h3]
def Rng (s:Zb) (p:Nat):Prop:= (0 <= (spt s p).at_∧(spt s p).at_ < s.qG)∧okN s (inn s (p:Int))
def Bnd (s:Zb):Prop:=1 <=s.qG∧s.qG <=4∧1 <=s.Zf.length∧s.Zf.length <=8
theorem ZhJ (s:Zb):((((decide (s.qG < 1)) || (decide (s.qG > 4))) || (decide ((s.Zf.length:Int) < 1))) || (decide ((s.Zf.length:Int) > 8)))=true↔¬ Bnd s:=by
 unfold Bnd;simp only [Bool.or_eq_true,decide_eq_true_eq];omega
theorem Zae:Y8 s↔Bnd s∧(∀ p,p < s.Zf.length ->Rng s p)∧∀ p:Nat,p < s.Zf.length ->up s s.Zf.length (p:Int) < 0:=
 ⟨fun h=>⟨⟨h.m1,h.m2,h.p1,h.p2⟩,fun p hp=>⟨h.at_ p hp,h.inn.rng p hp⟩,h.inn.acy⟩,fun h=>⟨h.1.1,h.1.2.1,h.1.2.2.1,h.1.2.2.2,fun p hp=>(h.2.1 p hp).1,⟨fun p hp=>(h.2.1 p hp).2,h.2.2⟩⟩⟩
theorem Zts (hF:1000 <=F) (s:Zb):ZqG F s=ifc (Y8 s) (some true) (some false):=by
 unfold ZqG;rcases Classical.em (¬ Bnd s) with hb | hb
 ·rw [(ZhJ s).2 hb,Cq1,ZG fun z=>hb (Zae.1 z).1]
 have hb:=Classical.not_not.1 hb;rw [Bool.eq_false_iff.2 fun z=>(ZhJ s).1 z hb,Cq0];have h8:=hb.2.2.2
 have e1:=Zan (body:=ZiZ F s) (r1:=some false) (r2:=loop F (Zgk F s) 0) (s0:= (0:Int)) (fun k=>(k:Int)) rfl (Rng s) (n:=s.Zf.length) (F:=F) (by omega) (fun k hk next=>by
  unfold ZiZ;rw [YQ hk,Cq1,X5 hk];simp only [Bq0];rw [Ja];by_cases r:Rng s k
  ·have r1:=r.1.1;have r2:=r.1.2;have r3:=r.2.1;have r4:=r.2.2;rw [ZH r,decide_eq_false (by omega),decide_eq_false (by omega),decide_eq_false (by omega),decide_eq_false (by omega)];simp only [Bool.or_self,Cq0];rw [Qw (by omega)]
  ·rw [ZG r]
   have:((((decide ((spt s k).at_ < 0)) || (decide ((spt s k).at_ >=s.qG))) || (decide (inn s (k:Int) < (-1)))) || (decide (inn s (k:Int) >= (s.Zf.length:Int))))=true:=by
    rw [← Bool.not_eq_false];intro z;simp only [Bool.or_eq_false_iff,decide_eq_false_iff_not] at z;exact r ⟨⟨by omega,by omega⟩,by omega,by omega⟩
   rw [this,Cq1]) (fun next=>by
  unfold ZiZ;rw [Y2,Cq0])
 rw [e1];by_cases hr:∀ p,p < s.Zf.length ->Rng s p
 ·have hr':∀ p:Nat,p < s.Zf.length ->okN s (inn s p):=fun p hp=>(hr p hp).2
  have e2:=Zan (body:=Zgk F s) (r1:=some false) (r2:=some true) (s0:= (0:Int)) (fun k=>(k:Int)) rfl (fun p:Nat=>∀ j,j <=s.Zf.length ->up s (j + 1) p ≠ (p:Int)) (n:=s.Zf.length) (F:=F) (by omega) (fun k hk next=>by
   unfold Zgk;rw [YQ hk,Cq1,X5 hk];simp only [Bq0];rw [Ja];exact Zxj hF h8 hr' hk next) (fun next=>by
   unfold Zgk;rw [Y2,Cq0])
  rw [ZH hr,e2];by_cases ha:∀ p:Nat,p < s.Zf.length ->up s s.Zf.length (p:Int) < 0
  ·rw [ZH (Zae.2 ⟨hb,hr,ha⟩),ZH ((ZmK hr').1 ha)]
  ·rw [ZG fun z=>ha (Zae.1 z).2.2,ZG fun z=>ha ((ZmK hr').2 z)]
 ·rw [ZG hr,ZG fun z=>hr (Zae.1 z).2.1]
theorem Zev (hF:1000 <=F) (s:Zb):ZqB F s=ifc (Y8 s) (some 0) (some 2):=by
 unfold ZqB;rcases Classical.em (¬ Bnd s) with hb | hb
 ·rw [(ZhJ s).2 hb,Cq1,ZG fun z=>hb (Zae.1 z).1]
 have hb:=Classical.not_not.1 hb;rw [Bool.eq_false_iff.2 fun z=>(ZhJ s).1 z hb,Cq0];have h8:=hb.2.2.2
 have e1:=Zan (body:=ZiU F s) (r1:=some 2) (r2:=loop F (Zgh F s) (0,0)) (s0:= (0:Int)) (fun k=>(k:Int)) rfl (Rng s) (n:=s.Zf.length) (F:=F) (by omega) (fun k hk next=>by
  unfold ZiU ZiS;rw [YQ hk,Cq1,X5 hk];simp only [Bq0];rw [Ja];by_cases r1:0 <= (spt s k).at_∧(spt s k).at_ < s.qG
  ·rw [decide_eq_false (show ¬ (spt s k).at_ < 0 by omega),decide_eq_false (show ¬ (spt s k).at_ >=s.qG by omega)];simp only [Bool.or_self,Bool.not_false,Bool.true_and,Bool.false_or];by_cases r2:inn s (k:Int)=-1
   ·rw [r2,Zam,Za5];simp only [Bq0,Bool.false_and,Cq0];rw [Qw (by omega),ZH ⟨r1,by rw [r2];unfold okN;omega⟩]
   ·rw [ZbK,decide_eq_true r2,UY];simp only [Bq0,Bool.true_and];by_cases r3:0 <=inn s (k:Int)∧inn s (k:Int) < (s.Zf.length:Int)
    ·rw [decide_eq_true (show inn s (k:Int) >=0 from r3.1),decide_eq_true r3.2,Bool.and_self,Bool.not_true,Cq0,Qw (by omega),ZH ⟨r1,by unfold okN;omega⟩]
    ·have:(decide (inn s (k:Int) >=0) && decide (inn s (k:Int) < (s.Zf.length:Int)))=false:=by
      rw [← Bool.not_eq_true];intro z;simp only [Ba0,decide_eq_true_eq] at z;exact r3 ⟨z.1,z.2⟩
     rw [this,Bool.not_false,Cq1,ZG];rintro⟨_,a,b⟩;exact r3 ⟨by omega,b⟩
  ·have:(decide ((spt s k).at_ < 0) || decide ((spt s k).at_ >=s.qG))=true:=by
    rw [← Bool.not_eq_false];intro z;simp only [Bool.or_eq_false_iff,decide_eq_false_iff_not] at z;exact r1 ⟨by omega,by omega⟩
   rw [this];simp only [Bool.not_true,Bool.false_and,Za5,Bq0,Bool.true_or,Cq1];rw [ZG fun z=>r1 z.1]) (fun next=>by
  unfold ZiU;rw [Y2,Cq0])
 rw [e1];by_cases hr:∀ p,p < s.Zf.length ->Rng s p
 ·have hr':∀ p:Nat,p < s.Zf.length ->okN s (inn s p):=fun p hp=>(hr p hp).2
  have e2:=Zan (body:=Zgh F s) (r1:=some 2) (r2:=some 0) (s0:= ((0:Int),(0:Int))) (fun k=>((k:Int),(0:Int))) rfl (Ends s) (n:=s.Zf.length) (F:=F) (by omega) (fun k hk next=>by
   unfold Zgh;dsimp only;rw [YQ hk,Cq1,X5 hk];simp only [Bq0];rw [Ja];exact ZqU hF h8 hr' hk 0 next) (fun next=>by
   unfold Zgh;dsimp only;rw [Y2,Cq0])
  rw [ZH hr,e2];by_cases ha:∀ p:Nat,p < s.Zf.length ->up s s.Zf.length (p:Int) < 0
  ·rw [ZH (Zae.2 ⟨hb,hr,ha⟩),ZH ((Zov hr').2 ha)]
  ·rw [ZG fun z=>ha (Zae.1 z).2.2,ZG fun z=>ha ((Zov hr').1 z)]
 ·rw [ZG hr,ZG fun z=>hr (Zae.1 z).2.1]
end
end
section
def arK (s:Zb) (p:Nat) (k:Nat):List Int:= (List.range k).map fun j=>up s (j + 1) (p:Int)
theorem ZoT (s:Zb) (p k:Nat):arK s p (k + 1)=arK s p k ++ [up s (k + 1) (p:Int)]:=by
 unfold arK;rw [List.range_succ,List.map_append];rfl
theorem ZmC (s:Zb) (p k:Nat):(arK s p k).length=k:=by unfold arK;rw [List.length_map,List.length_range]
section
variable {F:Nat} {s:Zb}
theorem Zkk (s:Zb) (p:Int):(decide (p >=0) && decide (p < (s.Zf.length:Int)))=true↔∃ k:Nat,p= (k:Int)∧k < s.Zf.length:=by
 rw [Ba0,decide_eq_true_eq,decide_eq_true_eq]
 constructor
 ·rintro⟨a,b⟩;exact⟨p.toNat,by omega,by omega⟩
 ·rintro⟨k,rfl,h⟩;omega
theorem Zhq {k:Nat} (h:k < s.Zf.length):(decide ((k:Int) >=0) && decide ((k:Int) < (s.Zf.length:Int)))=true:= (Zkk s k).2 ⟨k,rfl,h⟩
theorem up1 {p:Nat}:up s (0 + 1) (p:Int)=inn s (p:Int):=by
 rw [JD];show(if((p:Int)) < 0 then _ else _)=_;rw [if_neg (by omega)];rfl
theorem around (hF:1000 <=F) (hS:Y8 s) {p:Nat} (hp:p < s.Zf.length):
 ∃ L,Zy5 F s (p:Int)=some L∧ZOH F s (p:Int)=some (L,0)∧L.length <=8∧∀ q:Nat,((q:Int) ∈ L↔∃ j,up s (j + 1) (p:Int)= (q:Int)):=by
 obtain⟨m,hm,hs,hlt⟩:=KX (c:=fun k=>up s (k + 1) (p:Int) < 0) (n:=s.Zf.length) (JN (hS.inn.acy p hp) (by omega));have h8:=hS.p2;refine⟨arK s p m,?_,?_,by rw [ZmC];omega,fun q=>?_⟩
 ·unfold Zy5;rw [X5 hp];simp only [Bq0];rw [Ja];refine Xf (fun k=>(arK s p k,up s (k + 1) (p:Int))) (by show(arK s p 0,up s (0 + 1) (p:Int))=_;rw [up1];rfl) (n:=m) (by omega) (fun k hk next=>?_) (fun next=>?_)
  ·have h2:=hlt k hk;obtain⟨j,e,hj⟩:=Zah (hS.inn.up (q:= (p:Int)) ⟨by omega,by omega⟩ (k + 1)) h2;unfold Zl3;dsimp only;rw [JD s (k + 1),if_neg h2,ZoT,e,ZbD,Cq1,Zrb (by rw [ZmC,List.length_singleton];omega),X5 hj];simp only [Bq0];rw [Ja]
  ·unfold Zl3;dsimp only;rw [decide_eq_false (by omega),Cq0]
 ·unfold ZOH ZiS;rw [Zev hF,ZH hS,X5 hp,Zhq hp];simp only [Bq0,Zam,Bool.not_false,UY,Bool.not_true,Bool.or_false,Cq0];rw [Ja];refine Xf (fun k=>(up s (k + 1) (p:Int),arK s p k)) (by show(up s (0 + 1) (p:Int),arK s p 0)=_;rw [up1];rfl) (n:=m) (by omega) (fun k hk next=>?_) (fun next=>?_)
  ·have h2:=hlt k hk;obtain⟨j,e,hj⟩:=Zah (hS.inn.up (q:= (p:Int)) ⟨by omega,by omega⟩ (k + 1)) h2;unfold ZqA;dsimp only;rw [JD s (k + 1),if_neg h2,ZoT,e,ZbD,Cq1,Zrb (by rw [ZmC,List.length_singleton];omega),X5 hj];simp only [Bq0,Bool.not_true,Cq0];rw [Ja]
  ·unfold ZqA;dsimp only;rw [decide_eq_false (by omega),Cq0];rfl
 ·unfold arK;rw [List.mem_map]
  constructor
  ·rintro⟨j,_,e⟩;exact⟨j,e⟩
  ·rintro⟨j,e⟩;refine⟨j,List.mem_range.2 (Classical.byContradiction fun z=>?_),e⟩;have:=JN hs (show m + 1 <=j + 1 by omega);omega
theorem lies (hF:1000 <=F) (hS:Y8 s) {p:Nat} (hp:p < s.Zf.length) (q:Nat):ZqE F s (p:Int) (q:Int)=some (ZeG s q p):=by
 obtain⟨L,e1,_,hl,hm⟩:=around hF hS hp
 have hW:Wth s q p↔p=q∨(q:Int) ∈ L:=by
  rw [hm]
  constructor
  ·rintro⟨j,e⟩;cases j with
   | zero=>left;have:(p:Int)= (q:Int):=e;omega
   | succ j=>exact .inr ⟨j,e⟩
  ·rintro(rfl | ⟨j,e⟩)
   ·exact⟨0,rfl⟩
   ·exact⟨j + 1,e⟩
 unfold ZqE;by_cases h:p=q
 ·subst h;rw [beq_self_eq_true,Cq1,(ZaK hS.inn hp).2 ⟨0,rfl⟩]
 ·rw [Xg,decide_eq_false (by omega),Cq0,e1];simp only [Bq0];rw [show(0:Int)= ((0:Nat):Int) from rfl]
  rw [Zxk (fun k=>(k:Int)) (fun k=>L.getD k 0== (q:Int)) (r1:=some true) (r2:=some false) (n:=L.length) (by omega) (fun k hk next=>by
   unfold Zl5;rw [YQ hk,Cq1,Qf 0 hk];simp only [Bq0];rw [Qw (by omega)]) (fun next=>by
   unfold Zl5;rw [Y2,Cq0])]
  rw [Zj2 L (fun x=>x== (q:Int)) 0]
  have:L.any (fun x=>x== (q:Int))=ZeG s q p:=by
   rw [Bool.eq_iff_iff,ZaK hS.inn hp,hW,List.any_eq_true]
   constructor
   ·rintro⟨x,h1,h2⟩;right;rwa [← beq_iff_eq.1 h2]
   ·rintro(h1 | h1)
    ·exact absurd h1 h
    ·exact⟨_,h1,beq_self_eq_true _⟩
  rw [this];cases ZeG s q p <;> rfl
end
end
section
def Pl (w:Zb) (p:Int):Prop:=∃ k:Nat,p= (k:Int)∧k < w.Zf.length
structure Told (w:Zb) (e:Zg):Prop where
 pl:Pl w e.kV
 n0:0 <=e.n
 dd:((e.kZ=1∨e.kZ=2)∧Pl w e.kX)∨((e.kZ=3∨e.kZ=4)∧Pl w e.kX∧e.n=0)∨((e.kZ=5∨e.kZ=6)∧e.kX=0∧e.n=0)
section
variable {F:Nat} {w:Zb} {d p o n:Int}
theorem ZCM {l:List Zg} {k:Nat} (h:k < l.length) (f:Zg ->Bool):((l.take (k + 1)).countP f:Nat)= (l.take k).countP f + (if f (l.getD k default)=true then 1 else 0):=by
 rw [List.take_succ_eq_append_getElem h,List.countP_append,WT h];congr 1;rw [List.countP_cons,List.countP_nil,Nat.zero_add]
def c3 (l:List Zg) (d p o:Int):Nat:=l.countP fun x=>((x.kZ==d) && (x.kV==p)) && (x.kX==o)
end
end
section
def k1 (l:List Zg) (e:Zg):Nat:=l.countP fun x=>((x.kZ==1) && (x.n==e.n)) && ((e.kZ==1) || ((x.kV==e.kX) && (x.kX==e.kV)))
def k2 (l:List Zg) (e:Zg):Nat:=l.countP fun x=>(x.kZ==2) && (x.n==e.n)
def Zsh (w:Zb) (l:List Zg) (p:Int):Bool:= (List.range w.Zf.length).any fun q:Nat=>(inn w (q:Int)==p) && decide (c3 l 6 (q:Int) 0=0)
def atW (w:Zb) (p:Int):Int:= (w.Zf.getD p.toNat default).at_
def Zv6 (w:Zb) (l:List Zg) (e:Zg):Bool:=l.any fun x=>((x.kZ==4) && (atW w x.kV==atW w e.kV)) && ZeG w x.kX.toNat e.kX.toNat
def KR (w:Zb) (l:List Zg) (e:Zg):Int:=
 bif(e.kZ !=6) && decide (c3 l 5 e.kV 0 > 0) then 1
 else bif e.kZ==1 then(bif decide (k1 l e > 0) then 2 else 0)
 else bif e.kZ==2 then(bif decide (k1 l e=0) || decide (k2 l e > 0) then 2 else bif Zv6 w l e then 5 else 0)
 else bif e.kZ==6 then(bif(decide (c3 l 5 e.kV 0=0) || decide (c3 l 6 e.kV 0 > 0)) || Zsh w l e.kV then 3 else 0)
 else bif e.kZ==4 then(bif decide (c3 l 6 e.kX 0=0) || decide (c3 l 4 e.kV e.kX >=c3 l 3 e.kV e.kX) then 4 else 0)
 else 0
section
variable {F:Nat} {w:Zb}
end
end
section
section
variable {F:Nat} {w:Zb}
end
end
section
def tab {α:Type} (n:Nat) (f:Nat ->α):List α:= (List.range n).map f
def ZT {α:Type} (f:Nat ->α) (k:Nat) (v:α):Nat ->α:=fun j=>if j=k then v else f j
theorem Zq {α:Type} (f:Nat ->α) (k:Nat) (v:α):ZT f k v k=v:=if_pos rfl
theorem ZA {α:Type} {f:Nat ->α} {k j:Nat} {v:α} (h:j ≠ k):ZT f k v j=f j:=if_neg h
theorem Zt2 {α:Type} (f:Nat ->α) (k:Nat) (v w:α):ZT (ZT f k v) k w=ZT f k w:=by funext j;unfold ZT;by_cases h:j=k <;> simp [h]
section
variable {α:Type} {n k:Nat} {f g:Nat ->α} {v:α}
theorem Qp:(tab n f).length=n:=by simp [tab]
theorem Zhm (h:k < n):(tab n f)[k]? =some (f k):=by simp [tab,h]
theorem Yw (h:k < n):ZM (tab n f) (k:Int)=some (f k):=by rw [Ze3,Zhm h]
theorem Qy:YU (tab n f) (k:Int) v=tab n (ZT f k v):=by
 unfold YU;apply List.ext_getElem?;intro j;rw [Int.toNat_natCast,List.getElem?_set,Qp];by_cases hj:j < n
 ·rw [Zhm hj,Zhm hj];unfold ZT;by_cases e:k=j
  ·subst e;simp [hj]
  ·rw [if_neg e,if_neg (fun q=>e q.symm)]
 ·rw [List.getElem?_eq_none (by rw [Qp];omega),List.getElem?_eq_none (by rw [Qp];omega)];by_cases e:k=j
  ·subst e;simp [hj]
  ·rw [if_neg e]
theorem JY (h:∀ k,k < n ->f k=g k):tab n f=tab n g:=by
 unfold tab;exact List.map_congr_left fun k hk=>h k (List.mem_range.1 hk)
theorem ZhP:tab (n + 1) f=tab n f ++ [f n]:=by simp [tab,List.range_succ]
end
theorem ZA2 {α:Type} (n:Nat) (x:α):List.replicate n x=tab n fun _=>x:=by
 apply List.ext_getElem?;intro j;by_cases hj:j < n
 ·rw [Zhm hj,List.getElem?_replicate,if_pos hj]
 ·rw [List.getElem?_eq_none (by simp;omega),List.getElem?_eq_none (by rw [Qp];omega)]
structure TS where
 st:Nat ->Int
 ma:Nat ->Nat ->Int
 kn:Nat ->List Int
 wa:Nat ->List Int
 be:Nat ->List Zd
 sn:Nat ->List Zd
 ld:Nat ->Nat
 sd:Int
 ev:List Zg
section
variable (s:Zb)
def nn:Nat:=s.Zf.length
def mm:Nat:=s.qG.toNat
def pl (p:Nat):Nat:= (spt s p).at_.toNat
def li (a b:Nat):Nat:=a * mm s + b
def lnk (σ:TS) (i:Nat):Zn:= ⟨(σ.ld i:Int),(σ.sn i).drop (σ.ld i)⟩
def vw (σ:TS):Zh:= ⟨tab (nn s) σ.st,tab (nn s) fun p=>tab (mm s * mm s) (σ.ma p),tab (nn s) σ.kn,tab (nn s) σ.wa,tab (mm s) σ.be,tab (mm s * mm s) (lnk σ),σ.sd⟩
def hal (σ:TS):ZC:= ⟨vw s σ,s,σ.ev⟩
def tell (d p q n:Int) (σ:TS):TS:= {σ with ev:=σ.ev ++ [⟨d,p,q,n⟩]}
def send (a b:Nat) (x:Zd) (σ:TS):TS:= {σ with sn:=ZT σ.sn (li s a b) (σ.sn (li s a b) ++ [x])}
def wait (m:Nat) (x:Zd) (σ:TS):TS:= {σ with be:=ZT σ.be m (σ.be m ++ [x])}
def Us (σ:TS) (p:Nat):List Int:=tab (mm s * mm s) (σ.ma p)
def YH (p q:Nat) (σ:TS):TS:=if pl s p=pl s q then wait (pl s p) ⟨5,p,q,0,Us s σ q⟩ σ else send s (pl s q) (pl s p) ⟨5,p,q,0,Us s σ q⟩ σ
def see (p q:Nat) (n:Int) (σ:TS):TS:=if σ.st p=1 then tell 2 p q n σ else σ
def note (p q:Nat) (σ:TS):TS:=if σ.st q=3 then YH s p q σ else{σ with wa:=ZT σ.wa q (σ.wa q ++ [(p:Int)])}
structure Few (B:Nat) (σ:TS):Prop where
 ev:σ.ev.length <=B
 sn:∀ i,i < mm s * mm s ->(σ.sn i).length <=B
 be:∀ m,m < mm s ->(σ.be m).length <=B
 wa:∀ q,q < nn s ->(σ.wa q).length <=B
 ld:∀ i,i < mm s * mm s ->σ.ld i <= (σ.sn i).length
 ws:∀ q,q < nn s ->∀ x ∈ σ.wa q,∃ k:Nat,x= (k:Int)∧k < nn s
end
section
variable {s:Zb} {σ:TS} {a b p q k B:Nat}
theorem Y8.mm (h:Y8 s):s.qG= (Proofs.YtcnahmgekicbdaaGreat.mm s:Int)∧1 <=Proofs.YtcnahmgekicbdaaGreat.mm s∧Proofs.YtcnahmgekicbdaaGreat.mm s <=4:=by
 have:=h.m1;have:=h.m2;unfold Proofs.YtcnahmgekicbdaaGreat.mm;omega
theorem Y8.pl (h:Y8 s) (hp:p < nn s):(spt s p).at_= (Proofs.YtcnahmgekicbdaaGreat.pl s p:Int)∧Proofs.YtcnahmgekicbdaaGreat.pl s p < Proofs.YtcnahmgekicbdaaGreat.mm s:=by
 have:=h.at_ p hp;have:=h.mm.1;unfold Proofs.YtcnahmgekicbdaaGreat.pl;omega
theorem Jj (ha:a < mm s) (hb:b < mm s):li s a b < mm s * mm s:=by
 unfold li;have:(a + 1) * mm s <=mm s * mm s:=Nat.mul_le_mul_right _ ha;rw [Nat.add_mul,Nat.one_mul] at this;omega
theorem ZcD (hS:Y8 s) (ha:a < mm s) (hb:b < mm s):YB (YB ((a:Int) * s.qG) + (b:Int))= ((li s a b:Nat):Int):=by
 obtain⟨e,h1,h4⟩:=hS.mm;have hl:=Jj ha hb;have h16:mm s * mm s <=16:=Nat.mul_le_mul h4 h4;have hm:a * mm s <=li s a b:=by unfold li;omega
 rw [e];have e1:(a:Int) * ((mm s:Nat):Int)= ((a * mm s:Nat):Int):=by rw [Int.natCast_mul]
 have e3:YB ((a * mm s:Nat):Int)= ((a * mm s:Nat):Int):=Wm (by omega) (by omega);have e2:((a * mm s:Nat):Int) + (b:Int)= ((li s a b:Nat):Int):=by unfold li;omega
 rw [e1,e3,e2];exact Wm (by omega) (by omega)
theorem U2 (hS:Y8 s) (hp:p < nn s):WZ (hal s σ) (p:Int)=some (pl s p:Int):=by
 unfold WZ;show(ZM s.Zf (p:Int)).bind _=_;rw [X5 hp];simp only [Bq0];rw [(hS.pl hp).1]
theorem Kz (h:Few s 800000 σ) (d p q n:Int):ZjM (hal s σ) d p q n=some (hal s (tell d p q n σ)):=by
 unfold ZjM;show(app 32 σ.ev _).bind _=_;rw [app1 (by have:=h.ev;omega) (by decide)];rfl
theorem Zxl (h:Few s B σ) (ha:a < mm s) (hb:b < mm s) (x:Zd):tab (mm s * mm s) (ZT (lnk σ) (li s a b) ⟨(σ.ld (li s a b):Int),(σ.sn (li s a b)).drop (σ.ld (li s a b)) ++ [x]⟩)=tab (mm s * mm s) (lnk (send s a b x σ)):=by
 refine JY fun k hk=>?_
 by_cases e:k=li s a b
 ·subst e;rw [Zq];show _= (⟨_,(ZT σ.sn (li s a b) _ (li s a b)).drop _⟩:Zn);rw [Zq];show _= (⟨_,(σ.sn (li s a b) ++ [x]).drop (σ.ld (li s a b))⟩:Zn);rw [List.drop_append_of_le_length (h.ld _ hk)];rfl
 ·rw [ZA e];show _= (⟨_,(ZT σ.sn (li s a b) _ k).drop _⟩:Zn);rw [ZA e];rfl
theorem ZaQ (hS:Y8 s) (h:Few s 800000 σ) (ha:a < mm s) (hb:b < mm s) (x:Zd):ZlR (hal s σ) (a:Int) (b:Int) x=some (hal s (send s a b x σ)):=by
 unfold ZlR;show(ZM (tab (mm s * mm s) (lnk σ)) (YB (YB ((a:Int) * s.qG) + (b:Int)))).bind _=_;have hl:=Jj ha hb;rw [ZcD hS ha hb,Yw hl];simp only [Bq0];have:((lnk σ (li s a b)).kG).length <=900000:=by have:=h.sn _ hl;unfold lnk;simp;omega
 rw [app1 this (by decide)];simp only [Bq0];show some (ZC.mk (Zh.mk _ _ _ _ _ (YU (tab (mm s * mm s) (lnk σ)) (YB (YB ((a:Int) * s.qG) + (b:Int))) _) _) _ _)=_;rw [ZcD hS ha hb,Qy,show(lnk σ (li s a b)).ZV= (σ.ld (li s a b):Int) from rfl,show(lnk σ (li s a b)).kG= (σ.sn (li s a b)).drop (σ.ld (li s a b)) from rfl,Zxl h ha hb x];rfl
theorem Zj8 (h:Few s 800000 σ) (ha:a < mm s) (x:Zd):ZkG (hal s σ) (a:Int) x=some (hal s (wait a x σ)):=by
 unfold ZkG;show(ZM (tab (mm s) σ.be) (a:Int)).bind _=_;rw [Yw ha];simp only [Bq0];rw [app1 (by have:=h.be a ha;omega) (by decide)];simp only [Bq0];show(ZM (tab (mm s) σ.be) (a:Int)).bind (fun _=>some (ZC.mk (Zh.mk _ _ _ _ (YU (tab (mm s) σ.be) (a:Int) _) _ _) _ _))=_;rw [Yw ha,Qy];rfl
theorem ZnI (hS:Y8 s) (hq:q < nn s):app 8 ([]:List Int) (Us s σ q)=some (Us s σ q):=by
 have:(Us s σ q).length <=16:=by unfold Us;rw [Qp];exact Nat.mul_le_mul hS.mm.2.2 hS.mm.2.2
 rw [Zrb (by simp;omega)];rfl
theorem Zdo (a b:Nat):(((a:Int))== ((b:Int)))=decide (a=b):=by
 rw [Xg];by_cases h:a=b
 ·subst h;simp
 ·rw [decide_eq_false h,decide_eq_false (by omega)]
theorem ZkQ (hS:Y8 s) (h:Few s 800000 σ) (hp:p < nn s) (hq:q < nn s):Zud (hal s σ) (p:Int) (q:Int)=some (hal s (YH s p q σ)):=by
 unfold Zud ZgX;show(ZM (tab (nn s) fun p=>tab (mm s * mm s) (σ.ma p)) (q:Int)).bind _=_;rw [Yw hq];simp only [Bq0];rw [show app 8 ([]:List Int) (tab (mm s * mm s) (σ.ma q))=some (Us s σ q) from ZnI hS hq];simp only [Bq0];rw [U2 hS hp,U2 hS hq];simp only [Bq0];rw [Zdo];unfold YH;by_cases e:pl s p=pl s q
 ·rw [decide_eq_true e,Cq1,if_pos e,Zj8 h (hS.pl hp).2];rfl
 ·rw [decide_eq_false e,Cq0,if_neg e,ZaQ hS h (hS.pl hq).2 (hS.pl hp).2];rfl
theorem Zne (h:Few s 800000 σ) {x:Zd} (hx:x.kX= (p:Int)) (hp:p < nn s):Zuf (hal s σ) x=some (hal s (if σ.st p=1 then tell 2 p x.kV x.n σ else σ)):=by
 unfold Zuf;rw [hx];show(ZM (tab (nn s) σ.st) (p:Int)).bind _=_;rw [Yw hp];simp only [Bq0];rw [Xg];by_cases e:σ.st p=1
 ·rw [decide_eq_true e,Cq1,if_pos e,Kz h];rfl
 ·rw [decide_eq_false e,Cq0,if_neg e]
theorem Zko (hS:Y8 s) (h:Few s 800000 σ) {x:Zd} (hx:x.kV= (p:Int)) (hy:x.kX= (q:Int)) (hp:p < nn s) (hq:q < nn s):Zue (hal s σ) x=some (hal s (note s p q σ)):=by
 unfold Zue;rw [hx,hy];show(ZM (tab (nn s) σ.st) (q:Int)).bind _=_;rw [Yw hq];simp only [Bq0];unfold note;rw [Xg];by_cases e:σ.st q=3
 ·rw [decide_eq_true e,Cq1,if_pos e,ZkQ hS h hp hq];rfl
 ·rw [decide_eq_false e,Cq0,if_neg e];show(ZM (tab (nn s) σ.wa) (q:Int)).bind _=_;rw [Yw hq];simp only [Bq0];rw [app1 (by have:=h.wa _ hq;omega) (by decide)];simp only [Bq0];show(ZM (tab (nn s) σ.wa) (q:Int)).bind (fun _=>some (ZC.mk (Zh.mk _ _ _ (YU (tab (nn s) σ.wa) (q:Int) _) _ _ _) _ _))=_;rw [Yw hq,Qy];rfl
end
end
section
def Alo (s:Zb) (σ:TS) (p:Nat):Prop:=∀ k:Nat,k < nn s ->inn s (k:Int)= (p:Int) ->(k:Int) ∈ σ.kn p
def ins (k:Int) (l:List Int):List Int:=l.takeWhile (fun x=>decide (x < k)) ++ k::l.dropWhile (fun x=>decide (x < k))
def mx (f:Nat ->Int) (l:List Int) (i:Nat):Int:=if l.getD i 0 > f i then l.getD i 0 else f i
theorem ZC9:∀ (l:List Int) (a b:Int),l.Pairwise (· < ·) ->(∀ x ∈ l,a <=x∧x < b) ->(l.length:Int) <=max 0 (b - a):=by
 intro l
 induction l with
 | nil=>intro a b _ _;simp;omega
 | cons x xs ih=>
   intro a b h1 h2;obtain⟨p1,p2⟩:=List.pairwise_cons.1 h1;have:=ih (x + 1) b p2 fun y hy=>⟨by have:=p1 y hy;omega,(h2 y (by simp [hy])).2⟩
   have:=h2 x (by simp);rw [List.length_cons];omega
section
variable {s:Zb} {σ:TS} {F p k q:Nat}
theorem Zxz {l:List Int} (hF:1000 <=F) (hl:l.length <=500) (x:Int):∃ r,Zok F l x=some r∧(r >=0↔x ∈ l):=by
 unfold Zok;by_cases hz:∃ j,j < l.length∧l.getD j 0=x
 ·obtain⟨j,hj⟩:=hz;obtain⟨m,_,⟨hm,hx⟩,hlt⟩:=KX (c:=fun j=>j < l.length∧l.getD j 0=x) hj;refine⟨(m:Int),Xf (fun k=>(k:Int)) rfl (n:=m) (by omega) (fun k hk next=>?_) (fun next=>?_),?_⟩
  ·unfold Zdl;rw [YQ (show k < l.length by omega),Cq1,Qf 0 (show k < l.length by omega)];simp only [Bq0];rw [Xg,decide_eq_false (fun e=>hlt k hk ⟨by omega,e.symm⟩),Cq0,Qw (by omega)]
  ·unfold Zdl;rw [YQ hm,Cq1,Qf 0 hm];simp only [Bq0];rw [Xg,decide_eq_true hx.symm,Cq1]
  ·exact⟨fun _=>by rw [← hx];exact Xd hm,fun _=>by omega⟩
 ·refine⟨-1,Xf (fun k=>(k:Int)) rfl (n:=l.length) (by omega) (fun k hk next=>?_) (fun next=>?_),?_⟩
  ·unfold Zdl;rw [YQ hk,Cq1,Qf 0 hk];simp only [Bq0];rw [Xg,decide_eq_false (fun e=>hz ⟨k,hk,e.symm⟩),Cq0,Qw (by omega)]
  ·unfold Zdl;rw [Y2,Cq0]
  ·refine⟨fun h=>by omega,fun h=>?_⟩;obtain⟨j,hj,e⟩:=List.getElem_of_mem h;exact absurd ⟨j,hj,by rw [WT hj];exact e⟩ hz
theorem contains_eq {l:List Int} (hF:1000 <=F) (hl:l.length <=500) (x:Int):Zuc F l x=some (decide (x ∈ l)):=by
 obtain⟨r,h1,h2⟩:=Zxz (F:=F) hF hl x;unfold Zuc;rw [h1];simp only [Bq0];congr 1;by_cases h:x ∈ l
 ·rw [decide_eq_true h,decide_eq_true (h2.2 h)]
 ·rw [decide_eq_false h,decide_eq_false fun q=>h (h2.1 q)]
theorem ZeA (hF:1000 <=F) (hS:Y8 s) (hp:p < nn s) (hl:(σ.kn p).length <=500):Zoh F (hal s σ) (p:Int)=ifc (Alo s σ p) (some true) (some false):=by
 unfold Zoh ZlQ;simp only [Bq0];have h8:=hS.p2
 have e:=Zan (body:=ZiO F (hal s σ) (p:Int)) (r1:=some false) (r2:=some true) (s0:= ((0:Int),false)) (fun k=>((k:Int),false)) rfl (fun k:Nat=>inn s (k:Int)= (p:Int) ->(k:Int) ∈ σ.kn p) (n:=nn s) (F:=F) (by unfold nn;omega) (fun k hk next=>by
  unfold ZiO;dsimp only;rw [show(hal s σ).qK.Zf=s.Zf from rfl,show((s.Zf.length:Nat):Int)= ((nn s:Nat):Int) from rfl,YQ hk,Cq1,X5 hk];simp only [Bq0];rw [Ja,Xg];by_cases e:inn s (k:Int)= (p:Int)
  ·rw [decide_eq_true e,Cq1,Cq0];show(ZM (tab (nn s) σ.kn) (p:Int)).bind _=_;rw [Yw hp];simp only [Bq0];rw [contains_eq hF hl];simp only [Bq0,Bool.not_false,Bool.not_true,Cq1,Cq0];by_cases m:(k:Int) ∈ σ.kn p
   ·rw [decide_eq_true m,Bool.not_true,Cq0,ZH (fun _=>m),Qw (by unfold nn at hk;omega)]
   ·rw [decide_eq_false m,Bool.not_false,Cq1,ZG (fun z=>m (z e))];rfl
  ·rw [decide_eq_false e,Cq0,ZH (fun z=>absurd z e),Qw (by unfold nn at hk;omega)]) (fun next=>by
  unfold ZiO;dsimp only;rw [show(hal s σ).qK.Zf=s.Zf from rfl,show((s.Zf.length:Nat):Int)= ((nn s:Nat):Int) from rfl,Y2,Cq0]
  rfl)
 rw [e];rfl
def Zxv (s:Zb) (p:Nat):List Nat:= (List.range (nn s)).filter fun q:Nat=>inn s (q:Int)== (p:Int)
theorem Zis:k ∈ Zxv s p↔k < nn s∧inn s (k:Int)= (p:Int):=by unfold Zxv;simp
end
theorem Zj9 {l:List Int} {k:Int}:(l.takeWhile fun x=>decide (x < k)).length <=l.length:=by
 induction l with
 | nil=>simp
 | cons x xs ih=>
   rw [List.takeWhile_cons];by_cases h:x < k <;> simp [h];omega
theorem ZK7 {l:List Int} {k:Int}:∀ j,j < (l.takeWhile fun x=>decide (x < k)).length ->l.getD j 0 < k:=by
 induction l with
 | nil=>intro j hj;simp at hj
 | cons x xs ih=>
   intro j hj;rw [List.takeWhile_cons] at hj;by_cases h:x < k
   ·rw [decide_eq_true h,if_pos rfl,List.length_cons] at hj;cases j with
    | zero=>simpa using h
    | succ j=>have:=ih j (by omega);simpa using this
   ·rw [decide_eq_false h] at hj;simp at hj
theorem ZK8 {l:List Int} {k:Int} (hs:l.Pairwise (· < ·)):∀ j,(l.takeWhile fun x=>decide (x < k)).length <=j ->j < l.length ->k <=l.getD j 0:=by
 induction l with
 | nil=>intro j _ hj;simp at hj
 | cons x xs ih=>
   intro j h1 h2;obtain⟨p1,p2⟩:=List.pairwise_cons.1 hs;rw [List.takeWhile_cons] at h1;by_cases h:x < k
   ·rw [decide_eq_true h,if_pos rfl,List.length_cons] at h1;cases j with
    | zero=>omega
    | succ j=>have:=ih p2 j (by omega) (by simpa using h2);simpa using this
   ·cases j with
    | zero=>simpa using h
    | succ j=>
      have hj:j < xs.length:=by simpa using h2
      have:=p1 _ (Xd (d:=0) hj);simp only [List.getD_cons_succ];omega
theorem Zm2 {l:List Int} {k:Int}:l.take (l.takeWhile fun x=>decide (x < k)).length=l.takeWhile (fun x=>decide (x < k))∧l.drop (l.takeWhile fun x=>decide (x < k)).length=l.dropWhile (fun x=>decide (x < k)):=by
 have h:=List.takeWhile_append_dropWhile (p:=fun x:Int=>decide (x < k)) (l:=l)
 constructor
 ·conv=>lhs;rw [← h]
  rw [List.takeWhile_append_dropWhile];have:∀ (a b:List Int),(a ++ b).take a.length=a:=fun a b=>by simp
  conv=>lhs;arg 2;rw [← h]
  exact this _ _
 ·have:∀ (a b:List Int),(a ++ b).drop a.length=b:=fun a b=>by simp
  conv=>lhs;arg 2;rw [← h]
  exact this _ _
theorem ZHh (k:Int) (l:List Int):ins k l=l.take (l.takeWhile fun x=>decide (x < k)).length ++ k::l.drop (l.takeWhile fun x=>decide (x < k)).length:=by
 unfold ins;rw [Zm2.1,Zm2.2]
theorem WA {k x:Int} {l:List Int}:x ∈ ins k l↔x=k∨x ∈ l:=by
 unfold ins
 conv=>rhs;rhs;rw [← List.takeWhile_append_dropWhile (p:=fun x:Int=>decide (x < k)) (l:=l)]
 simp only [List.mem_append,List.mem_cons]
 constructor
 ·rintro(h | h | h)
  ·exact .inr (.inl h)
  ·exact .inl h
  ·exact .inr (.inr h)
 ·rintro(h | h | h)
  ·exact .inr (.inl h)
  ·exact .inl h
  ·exact .inr (.inr h)
theorem Zp4 {k:Int}:∀ {l:List Int},l.Pairwise (· < ·) ->k ∉ l ->(ins k l).Pairwise (· < ·):=by
 intro l
 induction l with
 | nil=>intro _ _;simp [ins]
 | cons x xs ih=>
   intro hs hk;obtain⟨p1,p2⟩:=List.pairwise_cons.1 hs;simp at hk;by_cases h:x < k
   ·have e:ins k (x::xs)=x::ins k xs:=by unfold ins;simp [List.takeWhile_cons,List.dropWhile_cons,h]
    rw [e]
    exact List.pairwise_cons.2 ⟨fun y hy=>by rcases WA.1 hy with z | z;· rw [z];exact h
                                             ·exact p1 y z,ih p2 hk.2⟩
   ·have e:ins k (x::xs)=k::x::xs:=by unfold ins;simp [List.takeWhile_cons,List.dropWhile_cons,h]
    rw [e]
    exact List.pairwise_cons.2 ⟨fun y hy=>by rcases List.mem_cons.1 hy with z | z;· rw [z];omega
                                             ·have:=p1 y z;omega,hs⟩
theorem ZBm (a b:Int):Zol a b=some (decide (a < b)):=by
 unfold Zol ZkF;simp [gd]
theorem Zkc {F:Nat} {l:List Int} {k:Int} (hF:1000 <=F) (hl:l.length <=500) (hs:l.Pairwise (· < ·)) (hk:k ∉ l):ZkE F l k=some (((l.takeWhile fun x=>decide (x < k)).length:Int),false):=by
 unfold ZkE;obtain⟨c,hc⟩:∃ c,c= (l.takeWhile fun x=>decide (x < k)).length:= ⟨_,rfl⟩
 have h1:∀ j,j < c ->l.getD j 0 < k:=fun j hj=>ZK7 j (by omega)
 have h2:∀ j,c <=j ->j < l.length ->k <=l.getD j 0:=fun j a b=>ZK8 hs j (by omega) b
 have hcl:c <=l.length:=by rw [hc];exact Zj9
 rw [← hc]
 have key:∀ d F i j:Nat,d < F ->j - i <=d ->i <=c ->c <=j ->j <=l.length ->loop F (Ze8 l k) ((i:Int),(j:Int))=some ((c:Int),false):=by
  intro d
  induction d with
  | zero=>
    intro F i j hF hd hi hj hjl;have:i=c:=by omega
    subst this;have:j=i:=by omega
    subst this;cases F with
    | zero=>omega
    | succ F=>
      rw [UD];unfold Ze8;dsimp only;rw [Y2,Cq0,ZG7];by_cases hlt:j < l.length
      ·rw [decide_eq_true hlt,Qf 0 hlt];have:l.getD j 0 ≠ k:=fun e=>hk (by rw [← e];exact Xd hlt)
       rw [UY];simp only [Bq0];rw [Xg,decide_eq_false this];simp [gd,ZkC,Qf 0 hlt]
      ·rw [decide_eq_false hlt];simp [gd]
  | succ d ih=>
    intro F i j hF hd hi hj hjl;by_cases hij:i < j
    ·cases F with
     | zero=>omega
     | succ F=>
       rw [UD];unfold Ze8;dsimp only;have e1:YB ((i:Int) + (j:Int))= ((i + j:Nat):Int):=by rw [Wm (by omega) (by omega)];omega
       have e2:IntKind.wrap .u64 (((i + j:Nat):Int))= ((i + j:Nat):Int):=by
        show(((i + j:Nat):Int)) % 18446744073709551616=_;omega
       have e3:YB ((((i + j:Nat):Int)) / 2)= (((i + j) / 2:Nat):Int):=by rw [Wm (by omega) (by omega)];omega
       obtain⟨m,hm⟩:∃ m,m= (i + j) / 2:= ⟨_,rfl⟩
       rw [YQ hij,Cq1,e1,e2,e3,← hm,Qf 0 (by omega)];simp only [Bq0];rw [ZBm];simp only [Bq0];by_cases hx:l.getD m 0 < k
       ·rw [decide_eq_true hx,Cq1,Qw (by omega)];have:m < c:=Classical.byContradiction fun z=>by have:=h2 m (by omega) (by omega);omega
        exact ih F (m + 1) j (by omega) (by omega) (by omega) hj hjl
       ·rw [decide_eq_false hx,Cq0];have:c <=m:=Classical.byContradiction fun z=>by have:=h1 m (by omega);omega
        exact ih F i m (by omega) (by omega) hi this (by omega)
    ·exact ih F i j (by omega) (by omega) hi hj hjl
 have:=key l.length F 0 l.length (by omega) (by omega) (Nat.zero_le _) hcl (Nat.le_refl _);exact this
theorem insert_eq {l:List Int} {k:Int} (hl:l.length <=500):Zoj l ((l.takeWhile fun x=>decide (x < k)).length:Int) [k]=some (ins k l):=by
 unfold Zoj;have:=Zj9 (l:=l) (k:=k);rw [Nm0 (by omega),decide_eq_true (show(0:Int) <= ((l.takeWhile fun x=>decide (x < k)).length:Int) by omega),decide_eq_true (show((l.takeWhile fun x=>decide (x < k)).length:Int) <= (l.length:Int) by omega)];show some _=_;rw [Int.toNat_natCast,ZHh,List.append_assoc];rfl
theorem ZpW {β:Type} {F n:Nat} {f:Nat ->Int} {l:List Int} {r:Option β} (hF:n < F) (hn:n <=1000) (hl:l.length=n) {body:Int×List Int ->(Int×List Int ->Option β) ->Option β}
 (hb:∀ v8 (k:Nat),k < n ->∀ next,body ((k:Int),v8) next= (ZM l (k:Int)).bind fun x=>(ZM v8 (k:Int)).bind fun y=>(ZM v8 (k:Int)).bind fun z=>next (YB ((k:Int) + 1),YU v8 (k:Int) (if x > y then x else y)))
 (he:∀ next,body ((n:Int),tab n (mx f l)) next=r):loop F body (0,tab n f)=r:=by
 refine Xf (fun k=>((k:Int),tab n fun i=>if i < k then mx f l i else f i)) (by simp) hF (fun k hk next=>?_) (fun next=>?_)
 ·rw [hb _ _ hk,Qf 0 (by rw [hl];exact hk)];simp only [Bq0];rw [Yw hk];simp only [Bq0];rw [if_neg (Nat.lt_irrefl _),Qy,Qw (by omega)];congr 2;refine JY fun i hi=>?_
  unfold ZT;by_cases e:i=k
  ·subst e;rw [if_pos rfl,if_pos (Nat.lt_succ_self _)];rfl
  ·rw [if_neg e];show(if i < k then mx f l i else f i)=_;by_cases h:i < k
   ·rw [if_pos h,if_pos (by omega)]
   ·rw [if_neg h,if_neg (by omega)]
 ·have:(tab n fun i=>if i < n then mx f l i else f i)=tab n (mx f l):=JY fun i hi=>by rw [if_pos hi]
  show body ((n:Int),tab n fun i=>if i < n then mx f l i else f i) next=r;rw [this];exact he next
section
variable {F n:Nat} {f:Nat ->Int} {l:List Int}
theorem Ze2 (hF:1000 <=F) (hn:n <=500) (hl:l.length=n):ZkD F [tab n f,l]=some (tab n (mx f l)):=by
 unfold ZkD ZgX;have e0:ZM [tab n f,l] 0=some (tab n f):=rfl;rw [e0];simp only [Bq0];rw [Zrb (by rw [Qp];simp;omega)];simp only [Bq0,List.nil_append];have e1:slL [tab n f,l] 1 (([tab n f,l].length:Nat):Int)=some [l]:=rfl;rw [e1];simp only [Bq0];refine Xf (fun k=>((k:Int),if k=0 then tab n f else tab n (mx f l))) rfl (n:=1) (by omega) (fun k hk next=>?_) (fun next=>?_)
 ·have:k=0:=by omega
  subst this;unfold ZhA;dsimp only;rw [show decide (((0:Nat):Int) < (([l].length:Nat):Int))=true from rfl,Cq1,show ZM [l] ((0:Nat):Int)=some l from rfl];simp only [Bq0];refine ZpW (by omega) (by omega) hl (fun v8 k hk next=>?_) (fun next'=>?_)
  ·unfold Zhz;dsimp only;rw [hl,YQ hk,Cq1]
  ·unfold Zhz;dsimp only;rw [hl,Y2,Cq0];rfl
 ·unfold ZhA;dsimp only;rw [show decide (((1:Nat):Int) < (([l].length:Nat):Int))=false from rfl,Cq0];rfl
end
end
section
def Y7 (n:Nat) (f:Nat ->Nat):Nat:= ((List.range n).map f).sum
section
variable {n k:Nat} {f g:Nat ->Nat}
theorem Q8:Y7 (n + 1) f=Y7 n f + f n:=by simp [Y7,List.range_succ]
theorem Jr (h:∀ k,k < n ->f k=g k):Y7 n f=Y7 n g:=by
 unfold Y7;rw [List.map_congr_left fun k hk=>h k (List.mem_range.1 hk)]
theorem Zhn (h:∀ k,k < n ->f k <=g k):Y7 n f <=Y7 n g:=by
 induction n with
 | zero=>simp [Y7]
 | succ n ih=>rw [Q8,Q8];have:=ih fun k hk=>h k (by omega);have:=h n (by omega);omega
theorem UQ (h:k < n):f k <=Y7 n f:=by
 induction n with
 | zero=>omega
 | succ n ih=>
   rw [Q8];by_cases e:k=n
   ·subst e;omega
   ·have:=ih (by omega);omega
theorem Zm6 {v:Nat} (h:k < n):Y7 n (ZT f k v) + f k=Y7 n f + v:=by
 induction n with
 | zero=>omega
 | succ n ih=>
   rw [Q8,Q8];by_cases e:k=n
   ·subst e;rw [Zq,Jr (f:=ZT f k v) (g:=f) fun j hj=>ZA (by omega)];omega
   ·have:=ih (by omega);rw [ZA (by omega)];omega
theorem Q9 (h:k < n) (hg:∀ j,j < n ->j ≠ k ->g j=f j):Y7 n g + f k=Y7 n f + g k:=by
 rw [Jr (f:=g) (g:=ZT f k (g k)) fun j hj=>by
  by_cases e:j=k
  ·subst e;rw [Zq]
  ·rw [ZA e,hg j hj e]]
 exact Zm6 h
theorem JO (n c:Nat):Y7 n (fun _=>c)=n * c:=by
 induction n with
 | zero=>simp [Y7]
 | succ n ih=>rw [Q8,ih,Nat.succ_mul]
end
def ew (x:Zd):Nat:=if x.kW=1 then 1 else if x.kW=2 then 2 else if x.kW=5 then 1 else 0
def sw (x:Int):Nat:=if x=1 then 11 else if x=3 then 0 else 2
def fl (σ:TS) (i:Nat):List Zd:= (σ.sn i).drop (σ.ld i)
def lw (σ:TS) (i:Nat):Nat:= (σ.sn i).length + ((fl σ i).map ew).sum
def Pot (s:Zb) (σ:TS):Nat:=σ.ev.length + Y7 (mm s * mm s) (lw σ) + Y7 (mm s) (fun m=>(σ.be m).length) + Y7 (nn s) (fun q=>2 * (σ.wa q).length) + Y7 (nn s) (fun p=>sw (σ.st p))
structure Wf (s:Zb) (B:Nat) (σ:TS):Prop where
 pot:Pot s σ <=B
 ld:∀ i,i < mm s * mm s ->σ.ld i <= (σ.sn i).length
 ws:∀ q,q < nn s ->∀ x ∈ σ.wa q,∃ k:Nat,x= (k:Int)∧k < nn s
section
variable {s:Zb} {σ:TS} {B a b p q m:Nat}
theorem Wf.few (h:Wf s B σ) (hB:B <=800000):Few s 800000 σ:=by
 have hp:=h.pot;unfold Pot at hp;refine⟨by omega,fun i hi=>?_,fun m hm=>?_,fun q hq=>?_,h.ld,h.ws⟩
 ·have:=UQ (f:=lw σ) hi;unfold lw at this;unfold lw at hp;omega
 ·have:=UQ (f:=fun m=>(σ.be m).length) hm;omega
 ·have:=UQ (f:=fun q=>2 * (σ.wa q).length) hq;omega
theorem ZwS (d p q n:Int):Pot s (tell d p q n σ)=Pot s σ + 1:=by
 show(σ.ev ++ [_]).length + Y7 (mm s * mm s) (lw σ) + Y7 (mm s) (fun m=>(σ.be m).length) + Y7 (nn s) (fun q=>2 * (σ.wa q).length) + Y7 (nn s) (fun p=>sw (σ.st p))=_;rw [List.length_append,List.length_singleton];unfold Pot;omega
theorem ZlK (hl:σ.ld (li s a b) <= (σ.sn (li s a b)).length) (x:Zd):fl (send s a b x σ) (li s a b)=fl σ (li s a b) ++ [x]:=by
 show(ZT σ.sn (li s a b) _ (li s a b)).drop (σ.ld (li s a b))=_;rw [Zq,List.drop_append_of_le_length hl];rfl
theorem Zen {i:Nat} (hi:i ≠ li s a b) (x:Zd):fl (send s a b x σ) i=fl σ i:=by
 show(ZT σ.sn (li s a b) _ i).drop (σ.ld i)=_;rw [ZA hi];rfl
theorem Zad (x:Zd):(send s a b x σ).sn (li s a b)=σ.sn (li s a b) ++ [x]:=Zq _ _ _
theorem QS {i:Nat} (hi:i ≠ li s a b) (x:Zd):(send s a b x σ).sn i=σ.sn i:=ZA hi
theorem ZwT (ha:a < mm s) (hb:b < mm s) (hl:∀ i,i < mm s * mm s ->σ.ld i <= (σ.sn i).length) (x:Zd):Pot s (send s a b x σ)=Pot s σ + 1 + ew x:=by
 have hi:=Jj ha hb;have h:=Q9 (f:=lw σ) (g:=lw (send s a b x σ)) hi fun j _ hj=>by unfold lw;rw [QS hj,Zen hj]
 have e:lw (send s a b x σ) (li s a b)=lw σ (li s a b) + 1 + ew x:=by
  unfold lw;rw [Zad,ZlK (hl _ hi),List.length_append,List.map_append,List.sum_append];simp;omega
 show σ.ev.length + Y7 (mm s * mm s) (lw (send s a b x σ)) + Y7 (mm s) (fun m=>(σ.be m).length) + Y7 (nn s) (fun q=>2 * (σ.wa q).length) + Y7 (nn s) (fun p=>sw (σ.st p))=_;unfold Pot;omega
theorem ZpO (hm:m < mm s) (l:List Zd):Pot s {σ with be:=ZT σ.be m l} + (σ.be m).length=Pot s σ + l.length:=by
 have h:=Q9 (f:=fun m=>(σ.be m).length) (g:=fun j=>(ZT σ.be m l j).length) hm fun j _ hj=>by rw [ZA hj]
 rw [Zq] at h;show σ.ev.length + Y7 (mm s * mm s) (lw σ) + Y7 (mm s) (fun j=>(ZT σ.be m l j).length) + Y7 (nn s) (fun q=>2 * (σ.wa q).length) + Y7 (nn s) (fun p=>sw (σ.st p)) + _=_;unfold Pot;omega
theorem ZwR (hm:m < mm s) (x:Zd):Pot s (wait m x σ)=Pot s σ + 1:=by
 have:=ZpO (σ:=σ) hm (σ.be m ++ [x]);rw [List.length_append,List.length_singleton] at this;unfold wait;omega
theorem ZGX (hq:q < nn s) (l:List Int):Pot s {σ with wa:=ZT σ.wa q l} + 2 * (σ.wa q).length=Pot s σ + 2 * l.length:=by
 have h:=Q9 (f:=fun q=>2 * (σ.wa q).length) (g:=fun j=>2 * (ZT σ.wa q l j).length) hq fun j _ hj=>by rw [ZA hj]
 rw [Zq] at h;show σ.ev.length + Y7 (mm s * mm s) (lw σ) + Y7 (mm s) (fun m=>(σ.be m).length) + Y7 (nn s) (fun j=>2 * (ZT σ.wa q l j).length) + Y7 (nn s) (fun p=>sw (σ.st p)) + _=_;unfold Pot;omega
theorem ZGY (hp:p < nn s) (v:Int):Pot s {σ with st:=ZT σ.st p v} + sw (σ.st p)=Pot s σ + sw v:=by
 have h:=Q9 (f:=fun p=>sw (σ.st p)) (g:=fun j=>sw (ZT σ.st p v j)) hp fun j _ hj=>by rw [ZA hj]
 rw [Zq] at h;show σ.ev.length + Y7 (mm s * mm s) (lw σ) + Y7 (mm s) (fun m=>(σ.be m).length) + Y7 (nn s) (fun q=>2 * (σ.wa q).length) + Y7 (nn s) (fun j=>sw (ZT σ.st p v j)) + _=_;unfold Pot;omega
theorem ZCx (p q n:Int) (l:List Int):ew ⟨5,p,q,n,l⟩=1:=rfl
theorem Wf.tell (h:Wf s B σ) (d p q n:Int):Wf s (B + 1) (tell d p q n σ):= ⟨by rw [ZwS];have:=h.pot;omega,h.ld,h.ws⟩
theorem Wf.send (h:Wf s B σ) (ha:a < mm s) (hb:b < mm s) (x:Zd):Wf s (B + 1 + ew x) (send s a b x σ):=by
 refine⟨by rw [ZwT ha hb h.ld];have:=h.pot;omega,fun i hi=>?_,h.ws⟩;show σ.ld i <=_;by_cases e:i=li s a b
 ·subst e;rw [Zad,List.length_append];have:=h.ld _ hi;omega
 ·rw [QS e];exact h.ld i hi
theorem Wf.wait (h:Wf s B σ) (hm:m < mm s) (x:Zd):Wf s (B + 1) (wait m x σ):= ⟨by rw [ZwR hm];have:=h.pot;omega,h.ld,h.ws⟩
theorem Wf.up (h:Wf s B σ) {B':Nat} (hb:B <=B'):Wf s B' σ:= ⟨Nat.le_trans h.pot hb,h.ld,h.ws⟩
theorem Wf.YH (hS:Y8 s) (h:Wf s B σ) (hp:p < nn s) (hq:q < nn s):Wf s (B + 2) (YH s p q σ):=by
 unfold Proofs.YtcnahmgekicbdaaGreat.YH;by_cases e:pl s p=pl s q
 ·rw [if_pos e];exact(h.wait (hS.pl hp).2 _).up (by omega)
 ·rw [if_neg e];exact(h.send (hS.pl hq).2 (hS.pl hp).2 _).up (by rw [ZCx];omega)
theorem Wf.wa (h:Wf s B σ) (hq:q < nn s) {l:List Int} (hl:∀ x ∈ l,∃ k:Nat,x= (k:Int)∧k < nn s) {B':Nat} (hB:B + 2 * l.length <=B' + 2 * (σ.wa q).length):Wf s B' {σ with wa:=ZT σ.wa q l}:=by
 refine⟨?_,h.ld,fun j hj x hx=>?_⟩
 ·have:=ZGX (σ:=σ) hq l;have:=h.pot;omega
 ·have hx:x ∈ ZT σ.wa q l j:=hx;by_cases e:j=q
  ·subst e;rw [Zq] at hx;exact hl x hx
  ·rw [ZA e] at hx;exact h.ws j hj x hx
theorem Wf.st (h:Wf s B σ) (hp:p < nn s) (v:Int) {B':Nat} (hB:B + sw v <=B' + sw (σ.st p)):Wf s B' {σ with st:=ZT σ.st p v}:=
 ⟨by have:=ZGY (σ:=σ) hp v;have:=h.pot;omega,h.ld,h.ws⟩
theorem Wf.note (hS:Y8 s) (h:Wf s B σ) (hp:p < nn s) (hq:q < nn s):Wf s (B + 2) (note s p q σ):=by
 unfold Proofs.YtcnahmgekicbdaaGreat.note;by_cases e:σ.st q=3
 ·rw [if_pos e];exact h.YH hS hp hq
 ·rw [if_neg e]
  exact h.wa hq (fun x hx=>by
   rcases List.mem_append.1 hx with hx | hx
   ·exact h.ws q hq x hx
   ·rw [List.mem_singleton.1 hx];exact⟨p,rfl,hp⟩) (by rw [List.length_append,List.length_singleton];omega)
theorem Wf.see (h:Wf s B σ) (p q:Nat) (n:Int):Wf s (B + 1) (see p q n σ):=by
 unfold Proofs.YtcnahmgekicbdaaGreat.see;by_cases e:σ.st p=1
 ·rw [if_pos e];exact h.tell _ _ _ _
 ·rw [if_neg e];exact h.up (by omega)
end
end
section
structure Kn (s:Zb) (σ:TS):Prop where
 srt:∀ q,q < nn s ->(σ.kn q).Pairwise (· < ·)
 rng:∀ q,q < nn s ->∀ x ∈ σ.kn q,∃ k:Nat,x= (k:Int)∧k < nn s∧inn s (k:Int)= (q:Int)∧σ.st k=3
noncomputable section
variable (s:Zb)
def ZdE (σ:TS) (p K:Nat) (i:Nat):Int:=if i / mm s=pl s p∧i % mm s < K∧i % mm s ≠ pl s p then((σ.sn i).length:Int) else σ.ma p i
def QW (p:Nat) (σ:TS):TS:= {σ with st:=ZT σ.st p 3,ev:=σ.ev ++ [⟨6,(p:Int),0,0⟩],wa:=ZT σ.wa p []}
def Zu (p:Nat) (l:List Int) (σ:TS):TS:=l.foldl (fun σ x=>YH s x.toNat p σ) σ
def ZO6 (p:Nat) (σ:TS):TS:= {σ with ma:=ZT σ.ma p (ZdE s σ p (mm s))}
def ZF (p:Nat) (σ:TS):TS:=ZO6 s p (Zu s p (σ.wa p) (QW p σ))
def Z8 (k:Nat) (l:List Int) (σ:TS):TS:= {σ with kn:=ZT σ.kn (inn s (k:Int)).toNat (ins (k:Int) (σ.kn (inn s (k:Int)).toNat)),ma:=ZT σ.ma (inn s (k:Int)).toNat (mx (σ.ma (inn s (k:Int)).toNat) l)}
def JC (die:Nat ->TS ->TS) (k:Nat) (l:List Int) (σ:TS):TS:=
 ifc ((Z8 s k l σ).st (inn s (k:Int)).toNat=2∧Alo s (Z8 s k l σ) (inn s (k:Int)).toNat) (die (inn s (k:Int)).toNat (Z8 s k l σ)) (Z8 s k l σ)
def ZbG (die:Nat ->TS ->TS) (p:Nat) (σ:TS):TS:=
 if inn s (p:Int) < 0 then σ
 else if pl s (inn s (p:Int)).toNat=pl s p then JC s die p (Us s σ p) σ
 else send s (pl s p) (pl s (inn s (p:Int)).toNat) ⟨4,(p:Int),0,0,Us s σ p⟩ σ
def Kc:Nat ->Nat ->TS ->TS
 | 0,_,σ=>σ
 | d + 1,p,σ=>ZbG s (Kc d) p (ZF s p σ)
end
section
variable {s:Zb} {σ:TS} {F B p q:Nat}
theorem Zlv:ZC.mk (Zh.mk (tab (nn s) σ.st) (tab (nn s) fun p=>tab (mm s * mm s) (σ.ma p)) (tab (nn s) σ.kn) (tab (nn s) σ.wa) (tab (mm s) σ.be) (tab (mm s * mm s) (lnk σ)) σ.sd) (Zb.mk s.qG s.Zf) σ.ev=hal s σ:=rfl
theorem ZbL (p q:Nat) (σ:TS):(YH s p q σ).st=σ.st∧(YH s p q σ).kn=σ.kn∧(YH s p q σ).ma=σ.ma∧(YH s p q σ).ld=σ.ld∧(YH s p q σ).sd=σ.sd∧(YH s p q σ).ev=σ.ev∧(YH s p q σ).wa=σ.wa:=by
 unfold YH;split <;> exact⟨rfl,rfl,rfl,rfl,rfl,rfl,rfl⟩
theorem ZcT (p:Nat):∀ (l:List Int) (σ:TS),(Zu s p l σ).st=σ.st∧(Zu s p l σ).kn=σ.kn∧(Zu s p l σ).ma=σ.ma∧(Zu s p l σ).ld=σ.ld∧(Zu s p l σ).sd=σ.sd∧(Zu s p l σ).ev=σ.ev∧(Zu s p l σ).wa=σ.wa:=by
 intro l
 induction l with
 | nil=>intro σ;exact⟨rfl,rfl,rfl,rfl,rfl,rfl,rfl⟩
 | cons x l ih=>
   intro σ;have h1:=ih (YH s x.toNat p σ);have h2:=ZbL (s:=s) x.toNat p σ;have e:Zu s p (x::l) σ=Zu s p l (YH s x.toNat p σ):=rfl;rw [e];exact⟨h1.1.trans h2.1,h1.2.1.trans h2.2.1,h1.2.2.1.trans h2.2.2.1,h1.2.2.2.1.trans h2.2.2.2.1,h1.2.2.2.2.1.trans h2.2.2.2.2.1,h1.2.2.2.2.2.1.trans h2.2.2.2.2.2.1,h1.2.2.2.2.2.2.trans h2.2.2.2.2.2.2⟩
theorem Zq4 (p k:Nat) (l:List Int) (hk:k < l.length) (σ:TS):Zu s p (l.take (k + 1)) σ=YH s (l.getD k 0).toNat p (Zu s p (l.take k) σ):=by
 unfold Zu;rw [List.take_succ_eq_append_getElem hk,List.foldl_append,WT hk];rfl
theorem ZhO (hS:Y8 s) (hp:p < nn s):∀ (l:List Int) (B:Nat) (σ:TS),Wf s B σ ->(∀ x ∈ l,∃ k:Nat,x= (k:Int)∧k < nn s) ->Wf s (B + 2 * l.length) (Zu s p l σ):=by
 intro l
 induction l with
 | nil=>intro B σ h _;exact h
 | cons x l ih=>
   intro B σ h hx;obtain⟨k,e,hk⟩:=hx x (by simp);have h1:=ih (B + 2) (YH s x.toNat p σ) (by rw [e,Int.toNat_natCast];exact h.YH hS hk hp) (fun y hy=>hx y (by simp [hy]));exact h1.up (by rw [List.length_cons];omega)
theorem ZvP {x:Int} (h:x ≠ 3):2 <=sw x:=by
 unfold sw;by_cases e:x=1
 ·rw [if_pos e];omega
 ·rw [if_neg e,if_neg h];omega
theorem Zk3 (h:Wf s B σ) (hp:p < nn s) (h3:σ.st p ≠ 3):2 <=B∧Wf s (B - 1 - 2 * (σ.wa p).length) (QW p σ)∧2 * (σ.wa p).length + 2 <=B:=by
 have h2:=ZvP h3
 have Z0l:2 + 2 * (σ.wa p).length <=Pot s σ:=by
  have a1:=UQ (f:=fun p=>sw (σ.st p)) hp;have a2:=UQ (f:=fun q=>2 * (σ.wa q).length) hp;unfold Pot;omega
 have hb:=h.pot;have w1:=h.st hp (3:Int) (B':=B - 2) (by rw [show sw (3:Int)=0 from rfl];omega);have w2:=w1.tell 6 (p:Int) 0 0
 have w3:=w2.wa (l:= []) hp (by simp) (B':=B - 1 - 2 * (σ.wa p).length) (by
  show _ <=_ + 2 * (σ.wa p).length;simp;omega)
 exact⟨by omega,w3,by omega⟩
theorem Wf.ma (h:Wf s B σ) (f:Nat ->Nat ->Int):Wf s B {σ with ma:=f}:= ⟨h.pot,h.ld,h.ws⟩
theorem ZaL {k:Nat} {l:List Int} (h:Wf s B σ):Wf s B (Z8 s k l σ):= ⟨h.pot,h.ld,h.ws⟩
theorem ZrA (hS:Y8 s) (h:Wf s B σ) (hp:p < nn s) (h3:σ.st p ≠ 3):Wf s (B - 1) (ZF s p σ):=by
 obtain⟨h1,h2,h4⟩:=Zk3 h hp h3;have:=ZhO hS hp (σ.wa p) _ _ h2 (h.ws p hp);exact(this.up (by omega)).ma _
theorem X7 (p:Nat) (σ:TS):(ZF s p σ).st=ZT σ.st p 3∧(ZF s p σ).kn=σ.kn∧(ZF s p σ).ld=σ.ld∧(ZF s p σ).sd=σ.sd∧(ZF s p σ).ev=σ.ev ++ [⟨6,(p:Int),0,0⟩]∧(ZF s p σ).wa=ZT σ.wa p []:=by
 have h:=ZcT (s:=s) p (σ.wa p) (QW p σ);exact⟨h.1,h.2.1,h.2.2.2.1,h.2.2.2.2.1,h.2.2.2.2.2.1,h.2.2.2.2.2.2⟩
theorem Zsg (h:Kn s σ) (p:Nat):Kn s (ZF s p σ):=by
 have e:=X7 (s:=s) p σ;refine⟨fun q hq=>by rw [e.2.1];exact h.srt q hq,fun q hq x hx=>?_⟩;rw [e.2.1] at hx;obtain⟨k,h1,h2,h3,h4⟩:=h.rng q hq x hx;refine⟨k,h1,h2,h3,?_⟩;rw [e.1];by_cases z:k=p
 ·subst z;exact Zq _ _ _
 ·rw [ZA z];exact h4
theorem Kn.len (hS:Y8 s) (h:Kn s σ) (hq:q < nn s):(σ.kn q).length <=8:=by
 have:=ZC9 (σ.kn q) 0 (nn s) (h.srt q hq) fun x hx=>by
  obtain⟨k,e,hk,_⟩:=h.rng q hq x hx;omega
 have h8:=hS.p2;unfold nn at this;omega
theorem Xm (hS:Y8 s) (hp:p < nn s) (h0:¬ inn s (p:Int) < 0):inn s (p:Int)= ((inn s (p:Int)).toNat:Int)∧(inn s (p:Int)).toNat < nn s:=by
 obtain⟨k,e,hk⟩:=Zah (hS.inn.rng p hp) h0;rw [e,Int.toNat_natCast];exact⟨rfl,hk⟩
theorem Wq (hS:Y8 s) (h:Kn s σ) (hp:p < nn s) (h0:¬ inn s (p:Int) < 0) (h3:σ.st p=3) (hn:(p:Int) ∉ σ.kn (inn s (p:Int)).toNat) (l:List Int):Kn s (Z8 s p l σ):=by
 obtain⟨e,hq⟩:=Xm hS hp h0;refine⟨fun q hq'=>?_,fun q hq' x hx=>?_⟩
 ·show(ZT σ.kn _ _ q).Pairwise _;by_cases z:q= (inn s (p:Int)).toNat
  ·subst z;rw [Zq];exact Zp4 (h.srt _ hq) hn
  ·rw [ZA z];exact h.srt q hq'
 ·have hx:x ∈ ZT σ.kn _ _ q:=hx;by_cases z:q= (inn s (p:Int)).toNat
  ·subst z;rw [Zq] at hx;rcases WA.1 hx with w | w
   ·exact⟨p,w,hp,e,h3⟩
   ·exact h.rng _ hq x w
  ·rw [ZA z] at hx;exact h.rng q hq' x hx
theorem WQ {M a b i:Nat} (hb:b < M):i=a * M + b↔i / M=a∧i % M=b:=by
 have hM:0 < M:=by omega
 constructor
 ·intro e;subst e;have e1:(a * M + b) / M=a:=by rw [Nat.mul_comm,Nat.mul_add_div hM,Nat.div_eq_of_lt hb,Nat.add_zero]
  exact⟨e1,by rw [Nat.mul_comm,Nat.mul_add_mod,Nat.mod_eq_of_lt hb]⟩
 ·rintro⟨h1,h2⟩;have:=Nat.div_add_mod i M;rw [h1,h2,Nat.mul_comm] at this;exact this.symm
theorem ZtH (σ:TS) (p i:Nat):ZdE s σ p 0 i=σ.ma p i:=by unfold ZdE;rw [if_neg];rintro⟨_,h,_⟩;omega
theorem ZtI {k:Nat} (hk:k < mm s) (hne:k ≠ pl s p) (i:Nat):ZdE s σ p (k + 1) i=ZT (ZdE s σ p k) (li s (pl s p) k) ((σ.sn (li s (pl s p) k)).length:Int) i:=by
 unfold ZT;by_cases e:i=li s (pl s p) k
 ·rw [if_pos e];obtain⟨e1,e2⟩:= (WQ hk).1 e;unfold ZdE;rw [if_pos ⟨e1,by omega,by omega⟩,e]
 ·rw [if_neg e];unfold ZdE;by_cases c:i / mm s=pl s p∧i % mm s < k∧i % mm s ≠ pl s p
  ·rw [if_pos c,if_pos ⟨c.1,by omega,c.2.2⟩]
  ·rw [if_neg c,if_neg];rintro⟨c1,c2,c3⟩;refine c ⟨c1,?_,c3⟩;have:i % mm s ≠ k:=fun z=>e ((WQ hk).2 ⟨c1,z⟩)
   omega
theorem ZtJ {k:Nat} (hne:k=pl s p) (i:Nat):ZdE s σ p (k + 1) i=ZdE s σ p k i:=by
 unfold ZdE;by_cases c:i / mm s=pl s p∧i % mm s < k∧i % mm s ≠ pl s p
 ·rw [if_pos c,if_pos ⟨c.1,by omega,c.2.2⟩]
 ·rw [if_neg c,if_neg];rintro⟨c1,c2,c3⟩;exact c ⟨c1,by omega,c3⟩
def ZdF (s:Zb) (f:Nat ->Nat ->Int):List (List Int):=tab (nn s) fun j=>tab (mm s * mm s) (f j)
theorem Zkp {f:Nat ->Nat ->Int} (hp:p < nn s):ZM (ZdF s f) (p:Int)=some (tab (mm s * mm s) (f p)):=Yw hp
theorem ZfT {f:Nat ->Nat ->Int} {g:Nat ->Int}:YU (ZdF s f) (p:Int) (tab (mm s * mm s) g)=ZdF s (ZT f p g):=by
 unfold ZdF;rw [Qy];refine JY fun j _=>?_
 by_cases e:j=p
 ·subst e;rw [Zq,Zq]
 ·rw [ZA e,ZA e]
theorem Zeh {f g:Nat ->Nat ->Int} (h:∀ j,j < nn s ->∀ i,i < mm s * mm s ->f j i=g j i):ZdF s f=ZdF s g:=JY fun j hj=>JY fun i hi=>h j hj i hi
theorem Zv3 (h:Wf s B σ) (hB:B <=800000) {i:Nat} (hi:i < mm s * mm s):YB ((lnk σ i).ZV + ((lnk σ i).kG.length:Int))= ((σ.sn i).length:Int):=by
 have h1:=h.ld i hi;have h2:= (h.few hB).sn i hi;show YB ((σ.ld i:Int) + (((σ.sn i).drop (σ.ld i)).length:Int))=_;rw [List.length_drop,Wm (by omega) (by omega)];omega
theorem ZpX {β:Type} (hF:1000 <=F) (hS:Y8 s) (h:Wf s B σ) (hB:B <=800000) (hp:p < nn s) {r:Option β} {body:Int×List (List Int) ->(Int×List (List Int) ->Option β) ->Option β}
 (hb:∀ (v:List (List Int)) (k:Nat),k < mm s ->∀ next,body ((k:Int),v) next=bif((k:Int) != (pl s p:Int)) then((ZM v (p:Int)).bind fun x=>(ZM x (YB (YB ((pl s p:Int) * s.qG) + (k:Int)))).bind fun _=>next (YB ((k:Int) + 1),YU v (p:Int) (YU x (YB (YB ((pl s p:Int) * s.qG) + (k:Int))) ((σ.sn (li s (pl s p) k)).length:Int)))) else next (YB ((k:Int) + 1),v))
 (he:∀ next,body ((mm s:Int),ZdF s (ZO6 s p σ).ma) next=r):loop F body (0,ZdF s σ.ma)=r:=by
 obtain⟨_,_,h4⟩:=hS.mm;have hpl:= (hS.pl hp).2
 refine Xf (fun k=>((k:Int),ZdF s (ZT σ.ma p (ZdE s σ p k)))) (by
  have:ZdF s (ZT σ.ma p (ZdE s σ p 0))=ZdF s σ.ma:=Zeh fun j _ i _=>by
   by_cases e:j=p
   ·subst e;rw [Zq,ZtH]
   ·rw [ZA e]
  rw [this];rfl) (n:=mm s) (by omega) (fun k hk next=>?_) (fun next=>?_)
 ·rw [hb _ _ hk]
  have e1:(((k:Int)) != ((pl s p:Int)))=decide (k ≠ pl s p):=by
   rw [ZbK];by_cases z:k=pl s p
   ·subst z;simp
   ·rw [decide_eq_true z,decide_eq_true (by omega)]
  rw [e1];by_cases z:k ≠ pl s p
  ·rw [decide_eq_true z,Cq1,Zkp hp,Zq];simp only [Bq0];rw [ZcD hS hpl hk,Yw (Jj hpl hk)];simp only [Bq0];rw [Qy,ZfT,Qw (by omega)];congr 2;refine Zeh fun j _ i hi=>?_
   by_cases e:j=p
   ·subst e;rw [Zq,Zq,ZtI hk z]
   ·rw [ZA e,ZA e,ZA e]
  ·have z:=Classical.not_not.1 z;rw [decide_eq_false (by simpa using z),Cq0,Qw (by omega)];congr 2;refine Zeh fun j _ i hi=>?_
   by_cases e:j=p
   ·subst e;rw [Zq,Zq,ZtJ z]
   ·rw [ZA e,ZA e]
 ·exact he next
end
end
section
section
variable {s:Zb} {σ:TS} {F B p q:Nat} {die:Nat ->TS ->TS}
theorem Zik (hS:Y8 s):mm s * mm s <=16:=Nat.mul_le_mul hS.mm.2.2 hS.mm.2.2
theorem Zlm (hS:Y8 s):decide (((mm s:Nat):Int) < s.qG)=false:=by rw [hS.mm.1];exact Y2 _
theorem ZfU (hS:Y8 s) {k:Nat} (hk:k < mm s):decide ((k:Int) < s.qG)=true:=by rw [hS.mm.1];exact YQ hk
theorem Ztn (hF:100000 <=F) (hS:Y8 s) (hp:p < nn s) (hw:Wf s B σ) (hB:B <=700000) (hk:Kn s σ) (h3:σ.st p=3) (hn:¬ inn s (p:Int) < 0 ->(p:Int) ∉ σ.kn (inn s (p:Int)).toNat) (Wi:ZC×Int ->Option ZC) (nx:Int×List (List Int) ->Option ZC)
 (hx:¬ inn s (p:Int) < 0 ->(Z8 s p (Us s σ p) σ).st (inn s (p:Int)).toNat=2 ->Wi (hal s (Z8 s p (Us s σ p) σ),((inn s (p:Int)).toNat:Int))=some (hal s (die (inn s (p:Int)).toNat (Z8 s p (Us s σ p) σ)))):
 ZiM F (p:Int) Wi (tab (nn s) σ.st) (tab (nn s) σ.kn) (tab (nn s) σ.wa) (tab (mm s) σ.be) (tab (mm s * mm s) (lnk σ)) σ.sd s.qG s.Zf σ.ev (pl s p:Int) ((mm s:Int),ZdF s σ.ma) nx=some (hal s (ZbG s die p σ)):=by
 have h16:=Zik hS;unfold ZiM;dsimp only;rw [Zlm hS,Cq0,X5 hp];simp only [Bq0];rw [Ja];unfold ZbG;by_cases h0:inn s (p:Int) < 0
 ·rw [decide_eq_true h0,Cq1,if_pos h0];rfl
 ·rw [decide_eq_false h0,Cq0,if_neg h0];obtain⟨eq,hq⟩:=Xm hS hp h0;have hn:=hn h0;have hx:=hx h0;obtain⟨q,hqe⟩:∃ q,q= (inn s (p:Int)).toNat:= ⟨_,rfl⟩
  rw [← hqe] at eq hq hn hx ⊢;rw [eq,show ZdF s σ.ma=tab (nn s) fun p=>tab (mm s * mm s) (σ.ma p) from rfl,Zlv,U2 hS hq];simp only [Bq0];rw [Zdo,Yw hp];simp only [Bq0];by_cases e:pl s q=pl s p
  ·rw [decide_eq_true e,Cq1,if_pos e,Yw hq];simp only [Bq0];have hl:=hk.len hS hq;rw [Zkc (by omega) (by omega) (hk.srt q hq) hn];simp only [Bq0,Bool.not_false,Cq1];rw [insert_eq (by omega)];simp only [Bq0];rw [Qy];unfold ZiK;rw [Ja,eq,Yw hq];simp only [Bq0];rw [Ze2 (by omega) (by omega) Qp];simp only [Bq0];rw [Yw hq];simp only [Bq0]
   have e3:YU (tab (nn s) fun p=>tab (mm s * mm s) (σ.ma p)) (q:Int) (tab (mm s * mm s) (mx (σ.ma q) (tab (mm s * mm s) (σ.ma p))))=tab (nn s) fun j=>tab (mm s * mm s) ((Z8 s p (Us s σ p) σ).ma j):=by
    have:=ZfT (s:=s) (p:=q) (f:=σ.ma) (g:=mx (σ.ma q) (tab (mm s * mm s) (σ.ma p)));unfold ZdF at this;rw [this];show _=tab (nn s) fun j=>tab (mm s * mm s) (ZT σ.ma (inn s (p:Int)).toNat _ j)
    rw [← hqe];rfl
   have e4:tab (nn s) (ZT σ.kn q (ins (p:Int) (σ.kn q)))=tab (nn s) (Z8 s p (Us s σ p) σ).kn:=by
    show _=tab (nn s) (ZT σ.kn (inn s (p:Int)).toNat _);rw [← hqe]
   rw [e3,e4];have e5:ZC.mk (Zh.mk (tab (nn s) σ.st) (tab (nn s) fun j=>tab (mm s * mm s) ((Z8 s p (Us s σ p) σ).ma j)) (tab (nn s) (Z8 s p (Us s σ p) σ).kn) (tab (nn s) σ.wa) (tab (mm s) σ.be) (tab (mm s * mm s) (lnk σ)) σ.sd) (Zb.mk s.qG s.Zf) σ.ev=hal s (Z8 s p (Us s σ p) σ):=rfl;rw [e5];have hk3:=Wq hS hk hp h0 h3 (by rw [← hqe];exact hn) (Us s σ p);rw [Xg];unfold JC;rw [← hqe];have e6:(Z8 s p (Us s σ p) σ).st q=σ.st q:=rfl;by_cases h2:σ.st q=2
   ·rw [decide_eq_true h2,UY,ZeA (by omega) hS hq (by have:=hk3.len hS hq;omega)];by_cases hA:Alo s (Z8 s p (Us s σ p) σ) q
    ·rw [ZH hA];simp only [Bq0,Bool.and_self,Cq1];rw [hx (by rw [e6];exact h2),ZH ⟨by rw [e6];exact h2,hA⟩];rfl
    ·rw [ZG hA];simp only [Bq0,Bool.and_false,Cq0];rw [ZG fun z=>hA z.2]
     rfl
   ·rw [decide_eq_false h2,Za5];simp only [Bq0,Bool.false_and,Cq0];rw [ZG fun z=>h2 (by rw [← e6];exact z.1)]
    rfl
  ·rw [decide_eq_false e,Cq0,if_neg e];unfold ZgX;rw [show app 8 ([]:List Int) (tab (mm s * mm s) (σ.ma p))=some (Us s σ p) from ZnI hS hp];simp only [Bq0];rw [ZaQ hS (hw.few (by omega)) (hS.pl hp).2 (hS.pl hq).2];rfl
theorem ZoC (hF:1000000 <=F) (hS:Y8 s):∀ (d p:Nat) (σ:TS) (F':Nat),d < F' ->p < nn s ->up s d (p:Int) < 0 ->Wf s B σ ->B <=700000 ->Kn s σ ->σ.st p ≠ 3 ->loop F' (ZkA F) (hal s σ,(p:Int))=some (hal s (Kc s d p σ)):=by
 intro d
 induction d generalizing B with
 | zero=>intro p σ F' _ _ hu _ _ _ _;exact absurd hu (by show ¬ ((p:Int)) < 0;omega)
 | succ d ih=>
   intro p σ F' hd hp hu hw hB hk h3;cases F' with
   | zero=>omega
   | succ F'=>
     obtain⟨b1,w0,b2⟩:=Zk3 hw hp h3;have wA:=ZrA hS hw hp h3;have kA:=Zsg hk p;have sA:=X7 (s:=s) p σ;have w1:=hw.st hp (3:Int) (B':=B) (by rw [show sw (3:Int)=0 from rfl];omega);have sB:=ZcT (s:=s) p (σ.wa p) (QW p σ);rw [UD];unfold ZkA;dsimp only;rw [show(hal s σ).Za.qV=tab (nn s) σ.st from rfl,Yw hp];simp only [Bq0];rw [Qy,show ZC.mk (Zh.mk (tab (nn s) (ZT σ.st p 3)) (hal s σ).Za.qX (hal s σ).Za.qZ (hal s σ).Za.Zm (hal s σ).Za.Zu (hal s σ).Za.kQ (hal s σ).Za.kK) (hal s σ).qK (hal s σ).kU=hal s {σ with st:=ZT σ.st p 3} from rfl,Kz (w1.few (by omega))];simp only [Bq0];rw [show(hal s (tell 6 (p:Int) 0 0 {σ with st:=ZT σ.st p 3})).Za.Zm=tab (nn s) σ.wa from rfl,Yw hp];simp only [Bq0];rw [Qy];refine Xf (fun k=>((k:Int),tab (nn s) (Zu s p ((σ.wa p).take k) (QW p σ)).st,(tab (nn s) fun j=>tab (mm s * mm s) ((Zu s p ((σ.wa p).take k) (QW p σ)).ma j)),tab (nn s) (Zu s p ((σ.wa p).take k) (QW p σ)).kn,tab (nn s) (Zu s p ((σ.wa p).take k) (QW p σ)).wa,tab (mm s) (Zu s p ((σ.wa p).take k) (QW p σ)).be,tab (mm s * mm s) (lnk (Zu s p ((σ.wa p).take k) (QW p σ))),(Zu s p ((σ.wa p).take k) (QW p σ)).sd,s.qG,s.Zf,(Zu s p ((σ.wa p).take k) (QW p σ)).ev)) rfl (n:= (σ.wa p).length) (by omega) (fun k hk' next=>?_) (fun next=>?_)
     ·unfold ZlP;dsimp only;rw [YQ hk',Cq1,Qf 0 hk'];simp only [Bq0];obtain⟨j,ej,hj⟩:=hw.ws p hp _ (Xd (d:=0) hk');have wk:=ZhO hS hp ((σ.wa p).take k) _ _ w0 (fun x hx=>hw.ws p hp x (List.mem_of_mem_take hx));have hlen:((σ.wa p).take k).length <= (σ.wa p).length:=by rw [List.length_take];omega
      rw [Zlv,ej,ZkQ hS (wk.few (by omega)) hj hp];simp only [Bq0];rw [Zq4 p k _ hk',ej,Int.toNat_natCast,Qw (by omega)];rfl
     ·unfold ZlP;dsimp only;rw [Y2,Cq0,List.take_length,Zlv,U2 hS hp];simp only [Bq0];have wB:=ZhO hS hp (σ.wa p) _ _ w0 (hw.ws p hp);refine ZpX (by omega) hS wB (by omega) hp (fun v k hk' next=>?_) (fun next=>?_)
      ·unfold ZiM ZiL;dsimp only;rw [ZfU hS hk',Cq1];by_cases z:k=pl s p
       ·subst z;rw [show(((pl s p:Nat):Int) != ((pl s p:Nat):Int))=false by simp,Cq0,Cq0]
       ·have:(((k:Int)) != ((pl s p:Int)))=true:=by rw [ZbK];exact decide_eq_true (by omega)
        rw [this,Cq1,Cq1,ZcD hS (hS.pl hp).2 hk',Yw (Jj (hS.pl hp).2 hk')];simp only [Bq0];rw [Zv3 wB (by omega) (Jj (hS.pl hp).2 hk')]
      ·have hpA:(ZF s p σ).st p=3:=by rw [sA.1,Zq]
       have hnot:¬ inn s (p:Int) < 0 ->(p:Int) ∉ (ZF s p σ).kn (inn s (p:Int)).toNat:=fun h0 hm=>by
        obtain⟨eq,hq⟩:=Xm hS hp h0;rw [sA.2.1] at hm;obtain⟨k,e1,e2,e3,e4⟩:=hk.rng _ hq _ hm;have:k=p:=by omega
        subst this;exact h3 e4
       have ht:=Ztn (F:=F) (die:=Kc s d) (by omega) hS hp wA (by omega) kA hpA hnot (fun x=>loop F' (ZkA F) x) next fun h0 h2=>by
        obtain⟨eq,hq⟩:=Xm hS hp h0;refine ih (B:=B - 1) _ _ F' (by omega) hq ?_ ((ZaL wA).up (Nat.le_refl _)) (by omega) (Wq hS kA hp h0 hpA (hnot h0) _) (by rw [h2];decide);rw [← eq];have hu:(if((p:Int)) < 0 then(p:Int) else up s d (inn s (p:Int))) < 0:=hu
        rwa [if_neg (by omega)] at hu
       exact ht
end
end
section
theorem ZA5 {α:Type} {l:List α} {c:Nat} (h:c <=l.length):slL l 0 (c:Int)=some (l.take c):=by
 unfold slL;rw [decide_eq_true (show(0:Int) <=0 by omega),decide_eq_true (show(0:Int) <= (c:Int) by omega),decide_eq_true (show(c:Int) <= (l.length:Int) by omega)];simp
theorem ZrF {α:Type} {l:List α} {c:Nat} (h:c <=l.length):slL l (c:Int) (l.length:Int)=some (l.drop c):=by
 unfold slL;rw [decide_eq_true (show(0:Int) <= (c:Int) by omega),decide_eq_true (show(c:Int) <= (l.length:Int) by omega),decide_eq_true (show(l.length:Int) <= (l.length:Int) by omega)];simp
section
variable {s:Zb} {σ:TS} {F B p q:Nat} {die:Nat ->TS ->TS}
end
end
section
noncomputable section
variable (s:Zb)
def YD (p:Nat) (σ:TS):TS:= {σ with st:=ZT σ.st p 2,ev:=σ.ev ++ [⟨5,(p:Int),0,0⟩]}
def KW (fall:Nat ->TS ->TS) (p:Nat) (σ:TS) (k:Nat):TS:=
 if pl s k=pl s p then(if σ.st k=1 then fall k σ else σ)
 else if(k:Int) ∈ σ.kn p then σ else send s (pl s p) (pl s k) ⟨3,(k:Int),0,0,[]⟩ σ
def ZaF (p:Nat) (σ:TS):TS:=ifc (σ.st p=2∧Alo s σ p) (Kc s (nn s) p σ) σ
def ZnO (p k:Nat):List Nat:= (List.range k).filter fun q:Nat=>inn s (q:Int)== (p:Int)
def fk (fall:Nat ->TS ->TS) (p k:Nat) (σ:TS):TS:= (ZnO s p k).foldl (KW s fall p) σ
def YC:Nat ->Nat ->TS ->TS
 | 0,_,σ=>σ
 | d + 1,p,σ=>ZaF s p (fk s (YC d) p (nn s) (YD p σ))
end
section
variable {s:Zb} {σ:TS} {F B p q d:Nat} {fall:Nat ->TS ->TS}
theorem KD (p k:Nat):ZnO s p (k + 1)=ZnO s p k ++ (if inn s (k:Int)= (p:Int) then [k] else []):=by
 unfold ZnO;rw [List.range_succ,List.filter_append,List.filter_cons,List.filter_nil,Xg];by_cases h:inn s (k:Int)= (p:Int) <;> simp [h]
theorem Zit (p k:Nat):(ZnO s p k).length <=k:=by
 unfold ZnO;have:=List.length_filter_le (fun q:Nat=>inn s (q:Int)== (p:Int)) (List.range k)
 rwa [List.length_range] at this
theorem ZyP {k:Nat} (h:inn s (k:Int)= (p:Int)):fk s fall p (k + 1) σ=KW s fall p (fk s fall p k σ) k:=by
 unfold fk;rw [KD,if_pos h,List.foldl_append];rfl
theorem ZEB {k:Nat} (h:inn s (k:Int) ≠ (p:Int)):fk s fall p (k + 1) σ=fk s fall p k σ:=by
 unfold fk;rw [KD,if_neg h,List.append_nil]
structure Gd (s:Zb) (B:Nat) (σ:TS):Prop where
 wf:Wf s B σ
 kn:Kn s σ
theorem Gd.up (h:Gd s B σ) {B':Nat} (hb:B <=B'):Gd s B' σ:= ⟨h.wf.up hb,h.kn⟩
theorem ZL8 (h:Kn s σ) {v:Int} (h3:σ.st p ≠ 3) {e:List Zg}:Kn s {σ with st:=ZT σ.st p v,ev:=e}:=by
 refine⟨h.srt,fun q hq x hx=>?_⟩;obtain⟨k,h1,h2,h4,h5⟩:=h.rng q hq x hx;refine⟨k,h1,h2,h4,?_⟩;show ZT σ.st p v k=3;rw [ZA (fun z=>by subst z;exact h3 h5)];exact h5
theorem Zsf (h:Kn s σ) (a b:Nat) (x:Zd):Kn s (send s a b x σ):= ⟨h.srt,h.rng⟩
theorem Zn2 (h:Gd s B σ) (hp:p < nn s) (h1:σ.st p=1):11 <=B∧Gd s (B - 8) (YD p σ):=by
 have hb:=h.wf.pot
 have h11:11 <=Pot s σ:=by
  have:=UQ (f:=fun p=>sw (σ.st p)) hp;have e:sw (σ.st p)=11:=by rw [h1];rfl
  unfold Pot;omega
 have w1:=h.wf.st hp (2:Int) (B':=B - 9) (by rw [h1];show B + 2 <=B - 9 + 11;omega);exact⟨by omega,(w1.tell 5 (p:Int) 0 0).up (by omega),ZL8 h.kn (by rw [h1];decide)⟩
theorem Zps (hp:p < nn s) (hu:up s (d + 1) (p:Int) < 0):up s d (inn s (p:Int)) < 0:=by
 have hu:(if((p:Int)) < 0 then(p:Int) else up s d (inn s (p:Int))) < 0:=hu
 rwa [if_neg (by omega)] at hu
theorem Zzq (hS:Y8 s):∀ (d p:Nat) (σ:TS) (B:Nat),p < nn s ->up s d (p:Int) < 0 ->Gd s B σ ->σ.st p ≠ 3 ->Gd s B (Kc s d p σ):=by
 intro d
 induction d with
 | zero=>intro p σ B hp hu _ _;exact absurd hu (by show ¬ ((p:Int)) < 0;omega)
 | succ d ih=>
   intro p σ B hp hu h h3;have wA:=ZrA hS h.wf hp h3;have kA:=Zsg h.kn p;have sA:=X7 (s:=s) p σ;have b1:= (Zk3 h.wf hp h3).1;have hpA:(ZF s p σ).st p=3:=by rw [sA.1,Zq]
   show Gd s B (ZbG s (Kc s d) p (ZF s p σ));unfold ZbG;by_cases h0:inn s (p:Int) < 0
   ·rw [if_pos h0];exact⟨wA.up (by omega),kA⟩
   ·rw [if_neg h0];obtain⟨eq,hq⟩:=Xm hS hp h0
    have hnot:(p:Int) ∉ (ZF s p σ).kn (inn s (p:Int)).toNat:=fun hm=>by
     rw [sA.2.1] at hm;obtain⟨k,e1,e2,e3,e4⟩:=h.kn.rng _ hq _ hm;have:k=p:=by omega
     subst this;exact h3 e4
    have k3:=Wq hS kA hp h0 hpA hnot (Us s (ZF s p σ) p);by_cases e:pl s (inn s (p:Int)).toNat=pl s p
    ·rw [if_pos e];unfold JC;by_cases c:(Z8 s p (Us s (ZF s p σ) p) (ZF s p σ)).st (inn s (p:Int)).toNat=2∧Alo s (Z8 s p (Us s (ZF s p σ) p) (ZF s p σ)) (inn s (p:Int)).toNat
     ·rw [ZH c];refine(ih _ _ (B - 1) hq ?_ ⟨ZaL wA,k3⟩ (by rw [c.1];decide)).up (by omega);rw [← eq];exact Zps hp hu
     ·rw [ZG c];exact⟨(ZaL wA).up (by omega),k3⟩
    ·rw [if_neg e];exact⟨(wA.send (hS.pl hp).2 (hS.pl hq).2 _).up (by show B - 1 + 1 + 0 <=B;omega),Zsf kA _ _ _⟩
theorem ZA4 (hS:Y8 s) (ih:∀ (k:Nat) (σ:TS) (B:Nat),k < nn s ->Ww s d k ->Gd s B σ ->σ.st k=1 ->Gd s B (fall k σ)) {k:Nat} (hk:k < nn s) (hp:p < nn s) (hs:Ww s d k) (h:Gd s B σ):Gd s (B + 1) (KW s fall p σ k):=by
 unfold KW;by_cases e:pl s k=pl s p
 ·rw [if_pos e];by_cases e1:σ.st k=1
  ·rw [if_pos e1];exact(ih k σ B hk hs h e1).up (by omega)
  ·rw [if_neg e1];exact h.up (by omega)
 ·rw [if_neg e];by_cases e1:(k:Int) ∈ σ.kn p
  ·rw [if_pos e1];exact h.up (by omega)
  ·rw [if_neg e1];exact⟨(h.wf.send (hS.pl hp).2 (hS.pl hk).2 _).up (by show B + 1 + 0 <=B + 1;omega),Zsf h.kn _ _ _⟩
theorem ZEC (hS:Y8 s) (ih:∀ (k:Nat) (σ:TS) (B:Nat),k < nn s ->Ww s d k ->Gd s B σ ->σ.st k=1 ->Gd s B (fall k σ)) (hp:p < nn s) (hs:Ww s (d + 1) p) (h:Gd s B σ):∀ k,k <=nn s ->Gd s (B + (ZnO s p k).length) (fk s fall p k σ):=by
 intro k
 induction k with
 | zero=>intro _;exact h
 | succ k ihk=>
   intro hk;have h1:=ihk (by omega);by_cases e:inn s (k:Int)= (p:Int)
   ·rw [ZyP e,KD,if_pos e,List.length_append,List.length_singleton];exact ZA4 hS ih (by omega) hp (hs.kid e) h1
   ·rw [ZEB e,KD,if_neg e,List.append_nil];exact h1
theorem U3 (hS:Y8 s) (hp:p < nn s):up s (nn s) (p:Int) < 0:=hS.inn.acy p hp
theorem ZlN (hS:Y8 s):∀ (d p:Nat) (σ:TS) (B:Nat),p < nn s ->Ww s d p ->Gd s B σ ->σ.st p=1 ->Gd s B (YC s d p σ):=by
 intro d
 induction d with
 | zero=>intro p σ B hp hs _ _;exact absurd rfl (hs p hp 0 (Nat.le_refl _))
 | succ d ih=>
   intro p σ B hp hs h h1;obtain⟨b,g0⟩:=Zn2 h hp h1;have g1:=ZEC hS ih hp hs g0 (nn s) (Nat.le_refl _);have hl:=Zit (s:=s) p (nn s);have h8:nn s <=8:=hS.p2;have g2:=g1.up (B':=B) (by omega);show Gd s B (ZaF s p (fk s (YC s d) p (nn s) (YD p σ)));unfold ZaF;by_cases c:(fk s (YC s d) p (nn s) (YD p σ)).st p=2∧Alo s (fk s (YC s d) p (nn s) (YD p σ)) p
   ·rw [ZH c];exact Zzq hS _ _ _ _ hp (U3 hS hp) g2 (by rw [c.1];decide)
   ·rw [ZG c];exact g2
def WS (s:Zb) (σ:TS):List Int×List (List Int)×List (List Int)×List (List Int)×List (List Zd)×List Zn×Int×Int×List ZQ×List Zg:=
 (tab (nn s) σ.st,(tab (nn s) fun j=>tab (mm s * mm s) (σ.ma j)),tab (nn s) σ.kn,tab (nn s) σ.wa,tab (mm s) σ.be,tab (mm s * mm s) (lnk σ),σ.sd,s.qG,s.Zf,σ.ev)
theorem Zub (hF:1000000 <=F) (hS:Y8 s) (hp:p < nn s) (h:Gd s B σ) (hB:B <=700000):Zes F (p:Int) (WS s σ)=some (hal s (ZaF s p σ)):=by
 unfold Zes WS;dsimp only;rw [Yw hp];simp only [Bq0];rw [Xg,Zlv];unfold ZaF;by_cases h2:σ.st p=2
 ·rw [decide_eq_true h2,UY,ZeA (by omega) hS hp (by have:=h.kn.len hS hp;omega)];by_cases hA:Alo s σ p
  ·rw [ZH hA,ZH ⟨h2,hA⟩];simp only [Bq0,Bool.and_self,Cq1];unfold ZyS;have h8:nn s <=8:=hS.p2;rw [ZoC hF hS _ _ _ F (by omega) hp (U3 hS hp) h.wf hB h.kn (by rw [h2];decide)];rfl
  ·rw [ZG hA,ZG fun z=>hA z.2];simp only [Bq0,Bool.and_false,Cq0]
 ·rw [decide_eq_false h2,Za5,ZG fun z=>h2 z.1];simp only [Bq0,Bool.false_and,Cq0]
theorem Zhu (k:Int) (nx:Int×List Int×List (List Int)×List (List Int)×List (List Int)×List (List Zd)×List Zn×Int×Int×List ZQ×List Zg ->Option ZC):Zer F (p:Int) k nx (WS s σ)=nx (YB (k + 1),WS s σ):=rfl
theorem Zkx (hF:1000000 <=F) (hS:Y8 s):∀ (d p:Nat) (σ:TS) (F' B:Nat),d < F' ->p < nn s ->Ww s d p ->Gd s B σ ->B <=700000 ->σ.st p=1 ->loop F' (ZkB F) (hal s σ,(p:Int))=some (hal s (YC s d p σ)):=by
 intro d
 induction d with
 | zero=>intro p σ F' B _ hp hs _ _ _;exact absurd rfl (hs p hp 0 (Nat.le_refl _))
 | succ d ih=>
   intro p σ F' B hd hp hs h hB h1;cases F' with
   | zero=>omega
   | succ F'=>
     obtain⟨b,g0⟩:=Zn2 h hp h1;have gk:=ZEC hS (fun k σ B hk hs h e=>ZlN hS d k σ B hk hs h e) hp hs g0;have h8:nn s <=8:=hS.p2;have w1:=h.wf.st hp (2:Int) (B':=B) (by rw [h1];show B + 2 <=B + 11;omega);rw [UD];generalize hnx:loop F' (ZkB F)=nx;unfold ZkB ZlX;dsimp only;rw [show(hal s σ).Za.qV=tab (nn s) σ.st from rfl,Yw hp];simp only [Bq0];rw [Qy,show ZC.mk (Zh.mk (tab (nn s) (ZT σ.st p 2)) (hal s σ).Za.qX (hal s σ).Za.qZ (hal s σ).Za.Zm (hal s σ).Za.Zu (hal s σ).Za.kQ (hal s σ).Za.kK) (hal s σ).qK (hal s σ).kU=hal s {σ with st:=ZT σ.st p 2} from rfl,Kz (w1.few (by omega))];simp only [Bq0];refine Xf (fun k=>((k:Int),WS s (fk s (YC s d) p k (YD p σ)))) rfl (n:=nn s) (by omega) (fun k hk next=>?_) (fun next=>?_)
     ·have gk':=gk k (by omega);have hl:=Zit (s:=s) p k;have hB':B - 8 + (ZnO s p k).length <=700000:=by omega
      obtain⟨σk,hσ⟩:∃ σk,σk=fk s (YC s d) p k (YD p σ):= ⟨_,rfl⟩
      rw [← hσ] at gk' ⊢;have fw:=gk'.wf.few (by omega);unfold ZiR;rw [show(WS s σk)= (tab (nn s) σk.st,(tab (nn s) fun j=>tab (mm s * mm s) (σk.ma j)),tab (nn s) σk.kn,tab (nn s) σk.wa,tab (mm s) σk.be,tab (mm s * mm s) (lnk σk),σk.sd,s.qG,s.Zf,σk.ev) from rfl];dsimp only;rw [show(hal s (tell 5 (p:Int) 0 0 {σ with st:=ZT σ.st p 2})).qK.Zf=s.Zf from rfl,show((s.Zf.length:Nat):Int)= ((nn s:Nat):Int) from rfl,YQ hk,Cq1,X5 hk];simp only [Bq0];rw [Ja,Xg];by_cases e:inn s (k:Int)= (p:Int)
      ·rw [decide_eq_true e,Cq1,Zlv,U2 hS hk,U2 hS hp];simp only [Bq0];rw [ZyP e,← hσ,Zdo];unfold KW;by_cases e1:pl s k=pl s p
       ·rw [decide_eq_true e1,Cq1,if_pos e1,Yw hk];simp only [Bq0];rw [Xg];by_cases e2:σk.st k=1
        ·rw [decide_eq_true e2,Cq1,if_pos e2,← hnx,ih k σk F' _ (by omega) hk (hs.kid e) gk' hB' e2];simp only [Bq0];exact(Zhu (s:=s) (σ:=YC s d k σk) (F:=F) (p:=p) (k:Int) next).trans (by rw [Qw (by omega)])
        ·rw [decide_eq_false e2,Cq0,if_neg e2];exact(Zhu (s:=s) (σ:=σk) (F:=F) (p:=p) (k:Int) next).trans (by rw [Qw (by omega)])
       ·rw [decide_eq_false e1,Cq0,if_neg e1,Yw hp];simp only [Bq0];rw [contains_eq (by omega) (by have:=gk'.kn.len hS hp;omega)];simp only [Bq0];by_cases e2:(k:Int) ∈ σk.kn p
        ·rw [decide_eq_true e2,Bool.not_true,Cq0,if_pos e2];exact(Zhu (s:=s) (σ:=σk) (F:=F) (p:=p) (k:Int) next).trans (by rw [Qw (by omega)])
        ·rw [decide_eq_false e2,Bool.not_false,Cq1,if_neg e2];rw [ZaQ hS fw (hS.pl hp).2 (hS.pl hk).2];simp only [Bq0];exact(Zhu (s:=s) (σ:=send s (pl s p) (pl s k) ⟨3,(k:Int),0,0,[]⟩ σk) (F:=F) (p:=p) (k:Int) next).trans (by rw [Qw (by omega)])
      ·rw [decide_eq_false e,Cq0,ZEB e,← hσ,Qw (by omega)]
       rfl
     ·have gk':=gk (nn s) (Nat.le_refl _);have hl:=Zit (s:=s) p (nn s);refine(?_:ZiR F (p:Int) _ _ _ next=Zes F (p:Int) (WS s (fk s (YC s d) p (nn s) (YD p σ)))).trans (Zub hF hS hp gk' (by omega));unfold ZiR WS;dsimp only;rw [show(hal s (tell 5 (p:Int) 0 0 {σ with st:=ZT σ.st p 2})).qK.Zf=s.Zf from rfl,show((s.Zf.length:Nat):Int)= ((nn s:Nat):Int) from rfl,Y2,Cq0]
end
end
section
section
variable {s:Zb} {σ:TS} {F B p q d:Nat} {fall:Nat ->TS ->TS}
end
end
section
def drop1 (i:Nat) (σ:TS):TS:= {σ with ld:=ZT σ.ld i (σ.ld i + 1)}
noncomputable def ZaC (s:Zb) (k:Nat) (l:List Int) (σ:TS):TS:=JC s (Kc s (nn s)) k l σ
noncomputable def Zd3 (s:Zb) (b:Nat) (x:Zd) (σ:TS):TS:=
 if x.kW=1 then see x.kX.toNat x.kV.toNat x.n σ
 else if x.kW=2 then note s x.kV.toNat x.kX.toNat σ
 else if x.kW=3 then(if σ.st x.kV.toNat=1 then YC s (nn s) x.kV.toNat σ else σ)
 else if x.kW=4 then ZaC s x.kV.toNat x.qX σ
 else wait b x σ
def hd (σ:TS) (i:Nat):Zd:= (σ.sn i).getD (σ.ld i) default
noncomputable def Zao (s:Zb) (a b:Nat) (σ:TS):TS:=Zd3 s b (hd σ (li s a b)) (drop1 (li s a b) σ)
def Zrx (s:Zb) (b:Nat) (x:Zd):Prop:=∃ p:Nat,x.kV= (p:Int)∧p < nn s∧
 ((x.kW=1∧∃ q:Nat,x.kX= (q:Int)∧q < nn s)∨(x.kW=2∧∃ q:Nat,x.kX= (q:Int)∧q < nn s)∨x.kW=3∨(x.kW=4∧0 <=inn s (p:Int)∧x.qX.length=mm s * mm s)∨(x.kW=5∧pl s p=b∧x.qX.length=mm s * mm s∧∃ q:Nat,x.kX= (q:Int)∧q < nn s))
def Zpa (s:Zb) (x:Zd) (σ:TS):Prop:=x.kW=4 ->σ.st x.kV.toNat=3∧x.kV ∉ σ.kn (inn s x.kV).toNat
section
variable {s:Zb} {σ:TS} {F B a b p q:Nat} {x:Zd} {l:List Int}
theorem Zhy (h:σ.ld p < (σ.sn p).length):fl σ p=hd σ p::(σ.sn p).drop (σ.ld p + 1):=by
 unfold fl hd;rw [List.drop_eq_getElem_cons h,WT h]
theorem ZwU (hp:p < mm s * mm s) (h:σ.ld p < (σ.sn p).length):Pot s (drop1 p σ) + ew (hd σ p)=Pot s σ:=by
 have e:=Q9 (f:=lw σ) (g:=lw (drop1 p σ)) hp fun j _ hj=>by
  unfold lw fl;show _ + (((σ.sn j).drop (ZT σ.ld p _ j)).map ew).sum=_;rw [ZA hj];rfl
 have e1:lw (drop1 p σ) p + ew (hd σ p)=lw σ p:=by
  show(σ.sn p).length + (((σ.sn p).drop (ZT σ.ld p _ p)).map ew).sum + _= (σ.sn p).length + ((fl σ p).map ew).sum;rw [Zq,Zhy h,List.map_cons,List.sum_cons];omega
 show σ.ev.length + Y7 (mm s * mm s) (lw (drop1 p σ)) + Y7 (mm s) (fun m=>(σ.be m).length) + Y7 (nn s) (fun q=>2 * (σ.wa q).length) + Y7 (nn s) (fun p=>sw (σ.st p)) + _=_;unfold Pot;omega
theorem Zsy (h:Gd s B σ) (hp:p < mm s * mm s) (hl:σ.ld p < (σ.sn p).length):ew (hd σ p) <=B∧Gd s (B - ew (hd σ p)) (drop1 p σ):=by
 have:=ZwU (s:=s) hp hl;have:=h.wf.pot;refine⟨by omega,⟨by omega,fun i hi=>?_,h.wf.ws⟩,⟨h.kn.srt,h.kn.rng⟩⟩;show ZT σ.ld p _ i <=_;by_cases e:i=p
 ·subst e;rw [Zq];exact hl
 ·rw [ZA e];exact h.wf.ld i hi
theorem Zxm (hS:Y8 s) (h:Gd s B σ) (hp:p < nn s) (h0:¬ inn s (p:Int) < 0) (h3:σ.st p=3) (hn:(p:Int) ∉ σ.kn (inn s (p:Int)).toNat):Gd s B (ZaC s p l σ):=by
 obtain⟨eq,hq⟩:=Xm hS hp h0;have k3:=Wq hS h.kn hp h0 h3 hn l;unfold ZaC JC;by_cases c:(Z8 s p l σ).st (inn s (p:Int)).toNat=2∧Alo s (Z8 s p l σ) (inn s (p:Int)).toNat
 ·rw [ZH c];exact Zzq hS _ _ _ _ hq (U3 hS hq) ⟨ZaL h.wf,k3⟩ (by rw [c.1];decide)
 ·rw [ZG c];exact⟨ZaL h.wf,k3⟩
theorem Zv4 (h:Gd s B σ) (p q:Nat) (n:Int):Gd s (B + 1) (see p q n σ):=by
 refine⟨h.wf.see p q n,?_⟩;unfold see;split <;> exact⟨h.kn.srt,h.kn.rng⟩
theorem ZC4 (hS:Y8 s) (h:Gd s B σ) (hp:p < nn s) (hq:q < nn s):Gd s (B + 2) (YH s p q σ):=by
 have e:=ZbL (s:=s) p q σ;exact⟨h.wf.YH hS hp hq,⟨fun j hj=>by rw [e.2.1];exact h.kn.srt j hj,fun j hj y hy=>by rw [e.2.1] at hy;rw [e.1];exact h.kn.rng j hj y hy⟩⟩
theorem Zr6 (hS:Y8 s) (h:Gd s B σ) (hp:p < nn s) (hq:q < nn s):Gd s (B + 2) (note s p q σ):=by
 refine⟨h.wf.note hS hp hq,?_⟩;unfold note;split
 ·exact(ZC4 hS h hp hq).kn
 ·exact⟨h.kn.srt,h.kn.rng⟩
theorem ZAR (h:Gd s B σ) (ha:a < mm s) (x:Zd):Gd s (B + 1) (wait a x σ):= ⟨h.wf.wait ha x,⟨h.kn.srt,h.kn.rng⟩⟩
theorem ZeY (hp:x.kV= (p:Int)) (hd:Zpa s x σ) (h4:x.kW=4):σ.st p=3∧(p:Int) ∉ σ.kn (inn s (p:Int)).toNat:=by
 have:=hd h4;rw [hp,Int.toNat_natCast] at this;exact this
theorem Zxp (hS:Y8 s) (h:Gd s B σ) (hb:b < mm s) (hx:Zrx s b x) (hd:Zpa s x σ):Gd s (B + ew x) (Zd3 s b x σ):=by
 obtain⟨p,hp,hpn,c⟩:=hx;unfold Zd3;rw [hp,Int.toNat_natCast];rcases c with⟨k,q,hq,JL⟩ | ⟨k,q,hq,JL⟩ | k | ⟨k,h0,hl⟩ | ⟨k,e,hl,q,hq,JL⟩
 ·rw [if_pos k,hq,Int.toNat_natCast];exact(Zv4 h q p x.n).up (by unfold ew;rw [if_pos k];omega)
 ·rw [if_neg (by omega),if_pos k,hq,Int.toNat_natCast];exact(Zr6 hS h hpn JL).up (by unfold ew;rw [if_neg (by omega),if_pos k];omega)
 ·rw [if_neg (by omega),if_neg (by omega),if_pos k];split
  ·exact(ZlN hS _ _ _ _ hpn (Ww.all hS.inn) h (by assumption)).up (by omega)
  ·exact h.up (by omega)
 ·rw [if_neg (by omega),if_neg (by omega),if_neg (by omega),if_pos k];have:=ZeY hp hd k;exact(Zxm hS h hpn (by omega) this.1 this.2).up (by omega)
 ·rw [if_neg (by omega),if_neg (by omega),if_neg (by omega),if_neg (by omega)];exact(ZAR h hb x).up (by unfold ew;rw [if_neg (by omega),if_neg (by omega),if_pos k];omega)
theorem ZnN (hS:Y8 s) (h:Gd s B σ) (ha:a < mm s) (hb:b < mm s) (hl:σ.ld (li s a b) < (σ.sn (li s a b)).length) (hx:Zrx s b (hd σ (li s a b))) (hd:Zpa s (hd σ (li s a b)) σ):Gd s B (Zao s a b σ):=by
 obtain⟨h1,h2⟩:=Zsy h (Jj ha hb) hl;exact(Zxp hS h2 hb hx hd).up (by omega)
theorem ZEO {xs ys:List Zd} (h:xs.length + ys.length <=1000000):app 56 xs ys=some (xs ++ ys):=Zq9 h (by decide)
theorem ZpZ (h:Gd s B σ) (hB:B <=700000) (hp:p < mm s * mm s) (hl:σ.ld p < (σ.sn p).length):
 YU (YU (tab (mm s * mm s) (lnk σ)) (p:Int) ⟨(lnk σ p).ZV,(fl σ p).drop 1⟩) (p:Int) ⟨YB ((lnk σ p).ZV + 1),(fl σ p).drop 1⟩=tab (mm s * mm s) (lnk (drop1 p σ)):=by
 have hs:= (h.wf.few (by omega)).sn p hp;rw [Qy,Qy,Zt2];refine JY fun j hj=>?_
 by_cases e:j=p
 ·subst e;rw [Zq];show _= (⟨((ZT σ.ld j _ j:Nat):Int),(σ.sn j).drop (ZT σ.ld j _ j)⟩:Zn);rw [Zq,show(lnk σ j).ZV= (σ.ld j:Int) from rfl,Qw (by omega)];unfold fl;rw [List.drop_drop]
 ·rw [ZA e];show _= (⟨((ZT σ.ld p _ j:Nat):Int),(σ.sn j).drop (ZT σ.ld p _ j)⟩:Zn);rw [ZA e];rfl
theorem ZFu (hl:σ.ld p < (σ.sn p).length):ZM (lnk σ p).kG 0=some (hd σ p):=by
 show ZM (fl σ p) 0=_;rw [Zhy hl];rfl
theorem ZFt (h:Gd s B σ) (hB:B <=700000) (hp:p < mm s * mm s) (hl:σ.ld p < (σ.sn p).length):slL (lnk σ p).kG 1 (((lnk σ p).kG.length:Nat):Int)=some ((fl σ p).drop 1)∧((fl σ p).drop 1).length <=800000:=by
 have hs:= (h.wf.few (by omega)).sn p hp;refine⟨?_,by unfold fl;rw [List.length_drop,List.length_drop];omega⟩;show slL (fl σ p) ((1:Nat):Int) (((fl σ p).length:Nat):Int)=_;exact ZrF (by unfold fl;rw [List.length_drop];omega)
theorem Zoa (hF:1000000 <=F) (hS:Y8 s) (h:Gd s B σ) (hB:B <=700000) (hp:p < nn s) (h0:¬ inn s (p:Int) < 0) (h3:σ.st p=3) (hn:(p:Int) ∉ σ.kn (inn s (p:Int)).toNat) (hx:x.kV= (p:Int)) (hm:x.qX.length=mm s * mm s):
 Zoo F (hal s σ) x=some (hal s (ZaC s p x.qX σ)):=by
 obtain⟨eq,hq⟩:=Xm hS hp h0;have k3:=Wq hS h.kn hp h0 h3 hn x.qX;have w3:Wf s B (Z8 s p x.qX σ):=ZaL h.wf;have h16:=Zik hS;unfold Zoo;rw [hx];show(ZM s.Zf (p:Int)).bind _=_;rw [X5 hp];simp only [Bq0];obtain⟨q,hqe⟩:∃ q,q= (inn s (p:Int)).toNat:= ⟨_,rfl⟩
 rw [← hqe] at eq hq hn;rw [Ja,eq];have hl:=h.kn.len hS hq;rw [show(hal s σ).Za.qZ=tab (nn s) σ.kn from rfl,Yw hq];simp only [Bq0];rw [Zkc (by omega) (by omega) (h.kn.srt q hq) hn];simp only [Bq0,Bool.not_false,Cq1];rw [insert_eq (by omega)];simp only [Bq0];rw [Qy];unfold Zfa;rw [Ja,eq,show(hal s σ).Za.qX=ZdF s σ.ma from rfl,Zkp hq];simp only [Bq0];rw [Ze2 (by omega) (by omega) hm];simp only [Bq0]
 have e4:tab (nn s) (ZT σ.kn q (ins (p:Int) (σ.kn q)))=tab (nn s) (Z8 s p x.qX σ).kn:=by
  show _=tab (nn s) (ZT σ.kn (inn s (p:Int)).toNat _);rw [← hqe]
 have e3:ZdF s (ZT σ.ma q (mx (σ.ma q) x.qX))=tab (nn s) fun j=>tab (mm s * mm s) ((Z8 s p x.qX σ).ma j):=by
  show _=tab (nn s) fun j=>tab (mm s * mm s) (ZT σ.ma (inn s (p:Int)).toNat _ j)
  rw [← hqe];rfl
 rw [ZfT,e3,e4,show(hal s σ).Za.qV=tab (nn s) σ.st from rfl,Yw hq];simp only [Bq0];have e5:ZC.mk (Zh.mk (tab (nn s) σ.st) (tab (nn s) fun j=>tab (mm s * mm s) ((Z8 s p x.qX σ).ma j)) (tab (nn s) (Z8 s p x.qX σ).kn) (hal s σ).Za.Zm (hal s σ).Za.Zu (hal s σ).Za.kQ (hal s σ).Za.kK) (hal s σ).qK (hal s σ).kU=hal s (Z8 s p x.qX σ):=rfl;rw [e5,Xg];unfold ZaC JC;rw [← hqe];have e6:(Z8 s p x.qX σ).st q=σ.st q:=rfl;have h8:nn s <=8:=hS.p2;by_cases h2:σ.st q=2
 ·rw [decide_eq_true h2,UY,ZeA (by omega) hS hq (by have:=k3.len hS hq;omega)];by_cases hA:Alo s (Z8 s p x.qX σ) q
  ·rw [ZH hA];simp only [Bq0,Bool.and_self,Cq1];unfold ZyS;rw [ZoC hF hS _ _ _ F (by omega) hq (U3 hS hq) w3 hB k3 (by rw [e6,h2];decide),ZH ⟨by rw [e6];exact h2,hA⟩];rfl
  ·rw [ZG hA];simp only [Bq0,Bool.and_false,Cq0];rw [ZG fun z=>hA z.2];rfl
 ·rw [decide_eq_false h2,Za5];simp only [Bq0,Bool.false_and,Cq0];rw [ZG fun z=>h2 (by rw [← e6];exact z.1)];rfl
theorem ZtU (hF:1000000 <=F) (hS:Y8 s) (h:Gd s B σ) (hB:B <=600000) (ha:a < mm s) (hb:b < mm s) (hl:σ.ld (li s a b) < (σ.sn (li s a b)).length) (hx:Zrx s b (hd σ (li s a b))) (hd:Zpa s (hd σ (li s a b)) σ):ZyW F (hal s σ) (a:Int) (b:Int)=some (hal s (Zao s a b σ)):=by
 have hi:=Jj ha hb;obtain⟨_,g'⟩:=Zsy h hi hl;have fw:=g'.wf.few (by omega);obtain⟨t1,t2⟩:=ZFt h (by omega) hi hl;unfold ZyW;show(ZM (tab (mm s * mm s) (lnk σ)) (YB (YB ((a:Int) * s.qG) + (b:Int)))).bind _=_;rw [ZcD hS ha hb,Yw hi];simp only [Bq0];rw [ZFu hl];simp only [Bq0];rw [t1];simp only [Bq0];unfold ZsP;rw [ZEO (by rw [List.length_nil];omega)];simp only [Bq0,List.nil_append]
 have el:∀ (β:Type) (f:List Zn ->β),f (YU (YU (hal s σ).Za.kQ (YB ((YB ((a:Int) * (hal s σ).qK.qG)) + (b:Int))) (Zn.mk (lnk σ (li s a b)).ZV ((fl σ (li s a b)).drop 1))) (YB ((YB ((a:Int) * (hal s σ).qK.qG)) + (b:Int))) (Zn.mk (YB ((lnk σ (li s a b)).ZV + 1)) ((fl σ (li s a b)).drop 1)))=f (tab (mm s * mm s) (lnk (drop1 (li s a b) σ))):=fun β f=>by
  rw [show(hal s σ).qK.qG=s.qG from rfl,ZcD hS ha hb,show(hal s σ).Za.kQ=tab (mm s * mm s) (lnk σ) from rfl,ZpZ h (by omega) hi hl]
 have el:=el _ id;simp only [id] at el;rw [el];have e5:ZC.mk (Zh.mk (hal s σ).Za.qV (hal s σ).Za.qX (hal s σ).Za.qZ (hal s σ).Za.Zm (hal s σ).Za.Zu (tab (mm s * mm s) (lnk (drop1 (li s a b) σ))) (hal s σ).Za.kK) (hal s σ).qK (hal s σ).kU=hal s (drop1 (li s a b) σ):=rfl;rw [e5];unfold Zao Zd3;obtain⟨y,hy⟩:∃ y,y=Proofs.YtcnahmgekicbdaaGreat.hd σ (li s a b):= ⟨_,rfl⟩
 rw [← hy] at hx hd ⊢;obtain⟨p,hp,hpn,c⟩:=hx;simp only [Xg];rcases c with⟨k,q,hq,JL⟩ | ⟨k,q,hq,JL⟩ | k | ⟨k,h0,hm⟩ | ⟨k,e,hm,q,hq,JL⟩
 ·rw [decide_eq_true k,Cq1,if_pos k,Zne fw hq JL,hp,hq,Int.toNat_natCast,Int.toNat_natCast]
  rfl
 ·rw [decide_eq_false (by omega),Cq0,decide_eq_true k,Cq1,if_neg (by omega),if_pos k,Zko hS fw hp hq hpn JL,hp,hq,Int.toNat_natCast,Int.toNat_natCast]
  rfl
 ·rw [decide_eq_false (by omega),Cq0,decide_eq_false (by omega),Cq0,decide_eq_true k,Cq1,if_neg (by omega),if_neg (by omega),if_pos k,hp,Int.toNat_natCast];show(ZM (tab (nn s) σ.st) (p:Int)).bind _=_;rw [Yw hpn];simp only [Bq0];by_cases e:σ.st p=1
  ·rw [decide_eq_true e,Cq1,if_pos (show(drop1 (li s a b) σ).st p=1 from e)];unfold ZyY;have h8:nn s <=8:=hS.p2;rw [Zkx hF hS (nn s) _ _ F _ (by omega) hpn (Ww.all hS.inn) g' (by omega) e];rfl
  ·rw [decide_eq_false e,Cq0,if_neg (show ¬ (drop1 (li s a b) σ).st p=1 from e)];rfl
 ·have hD:=ZeY hp hd k;rw [decide_eq_false (by omega),Cq0,decide_eq_false (by omega),Cq0,decide_eq_false (by omega),Cq0,decide_eq_true k,Cq1,if_neg (by omega),if_neg (by omega),if_neg (by omega),if_pos k,Zoa hF hS g' (by omega) hpn (by omega) hD.1 hD.2 hp hm,hp,Int.toNat_natCast];rfl
 ·rw [decide_eq_false (by omega),Cq0,decide_eq_false (by omega),Cq0,decide_eq_false (by omega),Cq0,decide_eq_false (by omega),Cq0,decide_eq_true k,Cq1,if_neg (by omega),if_neg (by omega),if_neg (by omega),if_neg (by omega)];unfold ZsO;rw [hp,U2 hS hpn,e];simp only [Bq0];rw [Zj8 fw hb];rfl
end
end
section
section
variable {s:Zb} {σ:TS} {F B a b p q:Nat} {x:Zd} {l:List Int}
end
end
section
noncomputable section
def dep (s:Zb) (q:Nat):Nat:=@dite _ (∃ m,m <=nn s∧up s (m + 1) (q:Int) < 0∧∀ k,k < m ->¬ up s (k + 1) (q:Int) < 0) (Classical.propDecidable _) (fun h=>Classical.choose h) (fun _=>0)
def rdy (s:Zb) (ld:Nat ->Nat) (w:Nat) (x:Zd):Prop:=∀ b:Nat,b < mm s ->b ≠ w ->x.qX.getD (li s b w) 0 <= (ld (li s b w):Int)
def Zef (s:Zb) (x:Zd):Nat:=dep s x.kX.toNat
def UU (s:Zb) (ld:Nat ->Nat) (w:Nat) (l:List Zd):Nat ->Option Nat
 | 0=>none
 | k + 1=>ifc (rdy s ld w (l.getD k default)∧∀ j,UU s ld w l k=some j ->Zef s (l.getD j default) < Zef s (l.getD k default)) (some k) (UU s ld w l k)
def Zcd {α:Type} (l:List α) (i:Nat):List α:=l.take i ++ l.drop (i + 1)
def rung (s:Zb) (w i:Nat) (σ:TS):TS:=
 if σ.st ((σ.be w).getD i default).kV.toNat=1 then tell 4 ((σ.be w).getD i default).kV ((σ.be w).getD i default).kX 0 {σ with be:=ZT σ.be w (Zcd (σ.be w) i)} else{σ with be:=ZT σ.be w (Zcd (σ.be w) i)}
def Wh (s:Zb) (w:Nat):Nat ->TS ->TS
 | 0,σ=>σ
 | n + 1,σ=>match UU s σ.ld w (σ.be w) (σ.be w).length with
   | none=>σ
   | some i=>Wh s w n (rung s w i σ)
end
def BeS (s:Zb) (x:Zd):Prop:= (∃ p:Nat,x.kV= (p:Int)∧p < nn s)∧(∃ q:Nat,x.kX= (q:Int)∧q < nn s)∧x.qX.length=mm s * mm s
section
variable {s:Zb} {σ:TS} {F B a b p q w:Nat} {x:Zd} {l:List Zd}
theorem Zzs (hS:Y8 s) (hq:q < nn s):dep s q <=nn s∧up s (dep s q + 1) (q:Int) < 0∧∀ k,k < dep s q ->¬ up s (k + 1) (q:Int) < 0:=by
 have h:∃ m,m <=nn s∧up s (m + 1) (q:Int) < 0∧∀ k,k < m ->¬ up s (k + 1) (q:Int) < 0:=
  KX (c:=fun k=>up s (k + 1) (q:Int) < 0) (n:=nn s) (JN (hS.inn.acy q hq) (by unfold nn;omega))
 unfold dep;rw [dif_pos h];exact Classical.choose_spec h
theorem Zi6 {β:Type} (hF:1000 <=F) (hS:Y8 s) (hq:q < nn s) {r:Int ->Option β} {body:Int×Int ->(Int×Int ->Option β) ->Option β}
 (hb:∀ v n next,body (v,n) next=bif decide (v >=0) then(ZM s.Zf v).bind fun x=>next (x.UE,YB (n + 1)) else r n):loop F body (inn s (q:Int),0)=r (dep s q:Int):=by
 obtain⟨h1,h2,h3⟩:=Zzs hS hq;have h8:nn s <=8:=hS.p2;refine Xf (fun k=>(up s (k + 1) (q:Int),(k:Int))) (by show(up s (0 + 1) (q:Int),((0:Nat):Int))=_;rw [up1];rfl) (n:=dep s q) (by omega) (fun k hk next=>?_) (fun next=>?_)
 ·have h:=h3 k hk;obtain⟨j,e,hj⟩:=Zah (hS.inn.up (q:= (q:Int)) ⟨by omega,by unfold nn at hq;omega⟩ (k + 1)) h;rw [hb,JD s (k + 1),if_neg h,e,ZbD,Cq1,X5 hj];simp only [Bq0];rw [Ja,Qw (by omega)]
 ·rw [hb,decide_eq_false (by omega),Cq0]
theorem ZpB (hF:1000 <=F) (hS:Y8 s) (hw:w < mm s) (hx:x.qX.length=mm s * mm s):Zon F (hal s σ) (w:Int) x=ifc (rdy s σ.ld w x) (some true) (some false):=by
 have h4:=hS.mm.2.2;unfold Zon
 exact Zan (body:=Ze9 (hal s σ) (w:Int) x) (r1:=some false) (r2:=some true) (s0:= (0:Int)) (fun k=>(k:Int)) rfl (fun k:Nat=>k ≠ w ->x.qX.getD (li s k w) 0 <= (σ.ld (li s k w):Int)) (n:=mm s) (F:=F) (by omega) (fun k hk next=>by
  unfold Ze9;rw [show(hal s σ).qK.qG=s.qG from rfl,ZfU hS hk,Cq1];by_cases e:k=w
  ·subst e;rw [show(((k:Int)) != ((k:Int)))=false by simp,Cq0,ZH (fun z=>absurd rfl z),Qw (by omega)]
  ·have e1:(((k:Int)) != ((w:Int)))=true:=by rw [ZbK];exact decide_eq_true (by omega)
   have hi:=Jj hk hw;rw [e1,Cq1,ZcD hS hk hw,show(hal s σ).Za.kQ=tab (mm s * mm s) (lnk σ) from rfl,Yw hi];simp only [Bq0];rw [Qf 0 (by rw [hx];exact hi)];simp only [Bq0];rw [show(lnk σ (li s k w)).ZV= (σ.ld (li s k w):Int) from rfl];by_cases c:x.qX.getD (li s k w) 0 <= (σ.ld (li s k w):Int)
   ·rw [decide_eq_false (by omega),Cq0,ZH (fun _=>c),Qw (by omega)]
   ·rw [decide_eq_true (by omega),Cq1,ZG (fun z=>c (z e))]) (fun next=>by
  unfold Ze9;rw [show(hal s σ).qK.qG=s.qG from rfl,Zlm hS,Cq0])
theorem Zc9 {ld:Nat ->Nat}:∀ k j,UU s ld w l k=some j ->j < k:=by
 intro k
 induction k with
 | zero=>intro j h;cases h
 | succ k ih=>
   intro j h;rw [UU] at h;by_cases c:rdy s ld w (l.getD k default)∧∀ j,UU s ld w l k=some j ->Zef s (l.getD j default) < Zef s (l.getD k default)
   ·rw [ZH c] at h;cases h;omega
   ·rw [ZG c] at h;have:=ih j h;omega
def pI (o:Option Nat):Int:=match o with | none=>-1 | some j=>(j:Int)
noncomputable def pD (s:Zb) (l:List Zd) (o:Option Nat):Int:=match o with | none=>0 | some j=>(Zef s (l.getD j default):Int)
theorem Zkl (hF:1000000 <=F) (hS:Y8 s) (hw:w < mm s) (hl:l.length <=700000) (hx:∀ x ∈ l,BeS s x):
 ZiQ F (w:Int) (tab (nn s) σ.st) (tab (nn s) fun p=>tab (mm s * mm s) (σ.ma p)) (tab (nn s) σ.kn) (tab (nn s) σ.wa) (tab (mm s) σ.be) (tab (mm s * mm s) (lnk σ)) σ.sd s.qG s.Zf σ.ev l=some (pI (UU s σ.ld w l l.length)):=by
 unfold ZiQ;refine Xf (fun k=>(pI (UU s σ.ld w l k),pD s l (UU s σ.ld w l k),(k:Int))) rfl (n:=l.length) (by omega) (fun k hk next=>?_) (fun next=>?_)
 ·unfold ZlV;dsimp only;rw [YQ hk,Cq1,Qf default hk];simp only [Bq0];obtain⟨x,ex⟩:∃ x,x=l.getD k default:= ⟨_,rfl⟩
  obtain⟨_,⟨q,hq,JL⟩,hm⟩:=hx _ (Xd (d:=default) hk);rw [← ex] at hq hm ⊢;rw [Zlv,ZpB (by omega) hS hw hm,hq];have ed:Zef s x=dep s q:=by unfold Zef;rw [hq,Int.toNat_natCast]
  rw [UU,← ex];have j0:∀ (a b:Int),ZcK (k:Int) next (a,b)=next (a,b,((k + 1:Nat):Int)):=fun a b=>by unfold ZcK;dsimp only;rw [Qw (by omega)]
  by_cases r:rdy s σ.ld w x
  ·rw [ZH r];simp only [Bq0,Bool.true_and];cases hpk:UU s σ.ld w l k with
   | none=>
     rw [show decide (pI none < 0)=true from rfl,Bool.not_true,Cq0,Cq1];unfold ZlS;simp only [Bq0];rw [X5 JL];simp only [Bq0];rw [Ja,Zi6 (r:=fun n=>Zga (k:Int) next n) (by omega) hS JL (fun v n nx=>by unfold Zqw;dsimp only;rw [Bool.not_true,Cq0]),ZH ⟨r,fun j z=>by cases z⟩];unfold Zga;rw [j0];show _=next ((k:Int),(Zef s (l.getD k default):Int),_);rw [← ex,ed]
   | some j=>
     rw [show decide (pI (some j) < 0)=false from decide_eq_false (by simp [pI]),Bool.not_false,Cq1];unfold ZlU;simp only [Bq0];rw [X5 JL];simp only [Bq0];rw [Ja,Zi6 (r:=fun n=>Zgc F s.Zf (pI (some j)) (pD s l (some j)) (k:Int) next x true n) (by omega) hS JL (fun v n nx=>by unfold Zqx;dsimp only;rw [Bool.not_true,Cq0])];unfold Zgc;rw [Bool.true_and];by_cases c:Zef s (l.getD j default) < Zef s x
     ·rw [decide_eq_true (show(dep s q:Int) > pD s l (some j) by show(dep s q:Int) > (Zef s (l.getD j default):Int);omega),Cq1];unfold ZlT;simp only [Bq0];rw [hq,X5 JL];simp only [Bq0];rw [Ja,Zi6 (r:=fun n=>Zgb (k:Int) next n) (by omega) hS JL (fun v n nx=>by unfold Zqy;dsimp only;rw [Bool.not_true,Cq0]),ZH ⟨r,fun j' z=>by cases z;exact c⟩];unfold Zgb;rw [j0];show _=next ((k:Int),(Zef s (l.getD k default):Int),_);rw [← ex,ed]
     ·rw [decide_eq_false (show ¬ (dep s q:Int) > pD s l (some j) by show ¬ (dep s q:Int) > (Zef s (l.getD j default):Int);omega),Cq0,ZG (fun z=>c (z.2 j rfl)),j0]
  ·rw [ZG r,ZG (fun z=>r z.1)];simp only [Bq0,Bool.false_and,Cq0];rw [j0]
 ·unfold ZlV;dsimp only;rw [Y2,Cq0]
end
end
section
noncomputable def rings (s:Zb):Nat ->TS ->TS
 | 0,σ=>σ
 | k + 1,σ=>Wh s k ((rings s k σ).be k).length (rings s k σ)
def BeA (s:Zb) (σ:TS):Prop:=∀ w,w < mm s ->∀ x ∈ σ.be w,BeS s x
section
variable {s:Zb} {σ:TS} {F B a b p q w i n:Nat} {x:Zd} {l:List Zd}
theorem Zi9 {α:Type} {l:List α} {i:Nat} (h:i < l.length):(Zcd l i).length + 1=l.length:=by
 unfold Zcd;rw [List.length_append,List.length_take,List.length_drop];omega
theorem ZcO {α:Type} {l:List α} {i:Nat} {x:α} (h:x ∈ Zcd l i):x ∈ l:=by
 unfold Zcd at h;rcases List.mem_append.1 h with h | h
 ·exact List.mem_of_mem_take h
 ·exact List.mem_of_mem_drop h
theorem Qq (s:Zb) (w i:Nat) (σ:TS):(rung s w i σ).be=ZT σ.be w (Zcd (σ.be w) i)∧(rung s w i σ).ld=σ.ld∧(rung s w i σ).st=σ.st∧(rung s w i σ).kn=σ.kn∧(rung s w i σ).ma=σ.ma∧(rung s w i σ).sn=σ.sn∧(rung s w i σ).wa=σ.wa∧(rung s w i σ).sd=σ.sd:=by
 unfold rung;split <;> exact⟨rfl,rfl,rfl,rfl,rfl,rfl,rfl,rfl⟩
theorem ZrK (h:Gd s B σ) (hw:w < mm s) (hi:i < (σ.be w).length):Gd s B (rung s w i σ):=by
 have hb:=h.wf.pot;have h1:(σ.be w).length <=Pot s σ:=by have:=UQ (f:=fun m=>(σ.be m).length) hw;unfold Pot;omega
 have hp:=ZpO (s:=s) (σ:=σ) hw (Zcd (σ.be w) i);have hc:=Zi9 hi;have w1:Wf s (B - 1) {σ with be:=ZT σ.be w (Zcd (σ.be w) i)}:= ⟨by omega,h.wf.ld,h.wf.ws⟩
 unfold rung;split
 ·exact⟨(w1.tell _ _ _ _).up (by omega),⟨h.kn.srt,h.kn.rng⟩⟩
 ·exact⟨w1.up (by omega),⟨h.kn.srt,h.kn.rng⟩⟩
theorem Zni (h:BeA s σ):BeA s (rung s w i σ):=fun v hv x hx=>by
 rw [(Qq s w i σ).1] at hx;by_cases e:v=w
 ·subst e;rw [Zq] at hx;exact h v hv x (ZcO hx)
 ·rw [ZA e] at hx;exact h v hv x hx
theorem ZA8 (hw:w < mm s):∀ (n:Nat) (σ:TS),Gd s B σ ->BeA s σ ->Gd s B (Wh s w n σ)∧BeA s (Wh s w n σ):=by
 intro n
 induction n with
 | zero=>intro σ h hb;exact⟨h,hb⟩
 | succ n ih=>
   intro σ h hb;rw [Wh];cases hpk:UU s σ.ld w (σ.be w) (σ.be w).length with
   | none=>exact⟨h,hb⟩
   | some i=>exact ih _ (ZrK h hw (Zc9 _ _ hpk)) (Zni hb)
theorem Zh3 (h:Gd s B σ) (hb:BeA s σ):∀ k,k <=mm s ->Gd s B (rings s k σ)∧BeA s (rings s k σ):=by
 intro k
 induction k with
 | zero=>intro _;exact⟨h,hb⟩
 | succ k ih=>
   intro hk;obtain⟨h1,h2⟩:=ih (by omega);exact ZA8 (by omega) _ _ h1 h2
theorem del_eq (hi:i < l.length) (hl:l.length <=700000):Zom l (i:Int) (YB ((i:Int) + 1))=some (Zcd l i):=by
 unfold Zom;rw [Qw (by omega)]
 have e1:slL l (i:Int) ((i + 1:Nat):Int)=some ((l.take (i + 1)).drop i):=by
  unfold slL;rw [decide_eq_true (show(0:Int) <= (i:Int) by omega),decide_eq_true (show(i:Int) <= ((i + 1:Nat):Int) by omega),decide_eq_true (show((i + 1:Nat):Int) <= (l.length:Int) by omega)]
  rfl
 rw [e1];simp only [Bq0];rw [Xg,decide_eq_false (by omega),Cq0,ZA5 (by omega)];simp only [Bq0];rw [ZrF (by omega)];simp only [Bq0];rw [ZEO (by rw [List.length_take,List.length_drop];omega)];rfl
theorem Ztu (hF:1000000 <=F) (hS:Y8 s) (hB:B <=600000) (hw:w < mm s):∀ (n F':Nat) (σ:TS),n < F' ->(σ.be w).length <=n ->Gd s B σ ->BeA s σ ->loop F' (Zeq F (w:Int)) (WS s σ)=some (hal s (Wh s w n σ)):=by
 intro n
 induction n with
 | zero=>
   intro F' σ hn hl h hb;cases F' with
   | zero=>omega
   | succ F'=>
     rw [UD];unfold Zeq WS;dsimp only;rw [Yw hw];simp only [Bq0];rw [Zkl hF hS hw (by omega) (hb w hw)];have:(σ.be w).length=0:=by omega
     simp only [Bq0];rw [this,show decide (pI (UU s σ.ld w (σ.be w) 0) < 0)=true from rfl,Cq1];rfl
 | succ n ih=>
   intro F' σ hn hl h hb;cases F' with
   | zero=>omega
   | succ F'=>
     rw [UD];generalize hnx:loop F' (Zeq F (w:Int))=nx;have hlen:= (h.wf.few (by omega)).be w hw;unfold Zeq;rw [show WS s σ= (tab (nn s) σ.st,(tab (nn s) fun j=>tab (mm s * mm s) (σ.ma j)),tab (nn s) σ.kn,tab (nn s) σ.wa,tab (mm s) σ.be,tab (mm s * mm s) (lnk σ),σ.sd,s.qG,s.Zf,σ.ev) from rfl];dsimp only;have hl7:(σ.be w).length <=600000:=by have:=h.wf.pot;have:=UQ (f:=fun m=>(σ.be m).length) hw;unfold Pot at *;omega
     rw [Yw hw];simp only [Bq0];rw [Zkl hF hS hw (by omega) (hb w hw),Wh];simp only [Bq0];cases hpk:UU s σ.ld w (σ.be w) (σ.be w).length with
     | none=>rw [show decide (pI none < 0)=true from rfl,Cq1];rfl
     | some i=>
       have hi:=Zc9 _ _ hpk;rw [decide_eq_false (show ¬ pI (some i) < 0 by simp [pI]),Cq0,show pI (some i)= (i:Int) from rfl,Qf default hi];simp only [Bq0];rw [del_eq hi (by omega)];simp only [Bq0];obtain⟨⟨p,hp,hpn⟩,_,_⟩:=hb w hw _ (Xd (d:=default) hi);rw [hp,Yw hpn];simp only [Bq0];have gr:=ZrK h hw hi;have br:=Zni (w:=w) (i:=i) hb;have lr:((rung s w i σ).be w).length <=n:=by rw [(Qq s w i σ).1,Zq];have:=Zi9 hi;omega
       have hih:=ih F' (rung s w i σ) (by omega) lr gr br;rw [hnx] at hih;refine Eq.trans ?_ hih;unfold rung;rw [hp,Int.toNat_natCast,Xg,Qy];by_cases e:σ.st p=1
       ·rw [decide_eq_true e,Cq1,if_pos e,show ZC.mk (Zh.mk (tab (nn s) σ.st) (tab (nn s) fun j=>tab (mm s * mm s) (σ.ma j)) (tab (nn s) σ.kn) (tab (nn s) σ.wa) (tab (mm s) (ZT σ.be w (Zcd (σ.be w) i))) (tab (mm s * mm s) (lnk σ)) σ.sd) (Zb.mk s.qG s.Zf) σ.ev=hal s {σ with be:=ZT σ.be w (Zcd (σ.be w) i)} from rfl];have hpb:=ZpO (s:=s) (σ:=σ) hw (Zcd (σ.be w) i);have:=Zi9 hi;have:=h.wf.pot;have w1:Wf s B {σ with be:=ZT σ.be w (Zcd (σ.be w) i)}:= ⟨by omega,h.wf.ld,h.wf.ws⟩
        rw [Kz (w1.few (by omega))]
        rfl
       ·rw [decide_eq_false e,Cq0,if_neg e];rfl
end
end
section
noncomputable section
variable (s:Zb)
def JI (p:Nat) (σ:TS):TS:=
 if inn s (p:Int) < 0 then ZF s p σ
 else if pl s (inn s (p:Int)).toNat=pl s p then Z8 s p (Us s (ZF s p σ) p) (ZF s p σ)
 else send s (pl s p) (pl s (inn s (p:Int)).toNat) ⟨4,(p:Int),0,0,Us s (ZF s p σ) p⟩ (ZF s p σ)
def kK (p q:Nat) (σ:TS):TS:=tell 1 p q σ.sd {σ with sd:=σ.sd + 1}
inductive Act:TS ->TS ->Prop
 | fall {σ:TS} {p:Nat} (hp:p < nn s) (h:σ.st p=1):Act σ (YD p σ)
 | J7 {σ:TS} {p k:Nat} (hp:p < nn s) (hk:k < nn s) (hi:inn s (k:Int)= (p:Int)) (h:σ.st p ≠ 1) (hr:pl s k ≠ pl s p) (hn:(k:Int) ∉ σ.kn p):Act σ (send s (pl s p) (pl s k) ⟨3,(k:Int),0,0,[]⟩ σ)
 | die {σ:TS} {p:Nat} (hp:p < nn s) (h:σ.st p=2) (ha:Alo s σ p):Act σ (JI s p σ)
 | ZaS {σ:TS} {p q:Nat} (hp:p < nn s) (hq:q < nn s) (h:σ.st p=1) (e:pl s p=pl s q):Act σ (see q p σ.sd (kK p q σ))
 | ZaR {σ:TS} {p q:Nat} (hp:p < nn s) (hq:q < nn s) (h:σ.st p=1) (e:pl s p ≠ pl s q):Act σ (send s (pl s p) (pl s q) ⟨1,(p:Int),(q:Int),σ.sd,[]⟩ (kK p q σ))
 | ZaN {σ:TS} {p q:Nat} (hp:p < nn s) (hq:q < nn s) (h:σ.st p=1) (e:pl s p=pl s q):Act σ (note s p q (tell 3 p q 0 σ))
 | ZaM {σ:TS} {p q:Nat} (hp:p < nn s) (hq:q < nn s) (h:σ.st p=1) (e:pl s p ≠ pl s q):Act σ (send s (pl s p) (pl s q) ⟨2,(p:Int),(q:Int),0,[]⟩ (tell 3 p q 0 σ))
 | Za0 {σ:TS} {a b p q:Nat} (ha:a < mm s) (hb:b < mm s) (hl:σ.ld (li s a b) < (σ.sn (li s a b)).length) (hk:(hd σ (li s a b)).kW=1) (hp:(hd σ (li s a b)).kV= (p:Int)) (hq:(hd σ (li s a b)).kX= (q:Int)) (hpn:p < nn s) (JL:q < nn s):Act σ (see q p (hd σ (li s a b)).n (drop1 (li s a b) σ))
 | Za2 {σ:TS} {a b p q:Nat} (ha:a < mm s) (hb:b < mm s) (hl:σ.ld (li s a b) < (σ.sn (li s a b)).length) (hk:(hd σ (li s a b)).kW=2) (hp:(hd σ (li s a b)).kV= (p:Int)) (hq:(hd σ (li s a b)).kX= (q:Int)) (hpn:p < nn s) (JL:q < nn s):Act σ (note s p q (drop1 (li s a b) σ))
 | Zab {σ:TS} {a b p:Nat} (ha:a < mm s) (hb:b < mm s) (hl:σ.ld (li s a b) < (σ.sn (li s a b)).length) (hk:(hd σ (li s a b)).kW=3) (hp:(hd σ (li s a b)).kV= (p:Int)) (hpn:p < nn s):Act σ (drop1 (li s a b) σ)
 | KV {σ:TS} {a b p:Nat} (ha:a < mm s) (hb:b < mm s) (hl:σ.ld (li s a b) < (σ.sn (li s a b)).length) (hk:(hd σ (li s a b)).kW=4) (hp:(hd σ (li s a b)).kV= (p:Int)) (hpn:p < nn s) (h0:0 <=inn s (p:Int)) (hm:(hd σ (li s a b)).qX.length=mm s * mm s) (h3:σ.st p=3) (hn:(p:Int) ∉ σ.kn (inn s (p:Int)).toNat):Act σ (Z8 s p (hd σ (li s a b)).qX (drop1 (li s a b) σ))
 | Za1 {σ:TS} {a b:Nat} (ha:a < mm s) (hb:b < mm s) (hl:σ.ld (li s a b) < (σ.sn (li s a b)).length) (hk:(hd σ (li s a b)).kW=5):Act σ (wait b (hd σ (li s a b)) (drop1 (li s a b) σ))
 | ring {σ:TS} {w i:Nat} (hw:w < mm s) (h:UU s σ.ld w (σ.be w) (σ.be w).length=some i):Act σ (rung s w i σ)
inductive Qa:TS ->TS ->Prop
 | refl {σ:TS}:Qa σ σ
 | tail {σ τ υ:TS}:Qa σ τ ->Act s τ υ ->Qa σ υ
def ZaI (x:ZE) (σ:TS):Prop:=
 (x.act=1∧∃ p q:Nat,x.a= (p:Int)∧x.b= (q:Int)∧p < nn s∧q < nn s∧σ.st p=1)∨
 (x.act=2∧∃ p q:Nat,x.a= (p:Int)∧x.b= (q:Int)∧p < nn s∧q < nn s∧σ.st p=1)∨
 (x.act=3∧∃ p:Nat,x.a= (p:Int)∧p < nn s∧σ.st p=1)∨
 (x.act=4∧∃ a b:Nat,x.a= (a:Int)∧x.b= (b:Int)∧a < mm s∧b < mm s∧σ.ld (li s a b) < (σ.sn (li s a b)).length)
def UG (x:ZE) (σ:TS):TS:=
 if x.act=1 then(if pl s x.a.toNat=pl s x.b.toNat then see x.b.toNat x.a.toNat σ.sd (kK x.a.toNat x.b.toNat σ) else send s (pl s x.a.toNat) (pl s x.b.toNat) ⟨1,x.a,x.b,σ.sd,[]⟩ (kK x.a.toNat x.b.toNat σ))
 else if x.act=2 then(if pl s x.a.toNat=pl s x.b.toNat then note s x.a.toNat x.b.toNat (tell 3 x.a x.b 0 σ) else send s (pl s x.a.toNat) (pl s x.b.toNat) ⟨2,x.a,x.b,0,[]⟩ (tell 3 x.a x.b 0 σ))
 else if x.act=3 then YC s (nn s) x.a.toNat σ
 else Zao s x.a.toNat x.b.toNat σ
def stepW (x:ZE) (σ:TS):TS:=rings s (mm s) (UG s x σ)
end
section
variable {s:Zb} {σ τ υ:TS} {F B a b p q w i n d:Nat} {x:Zd}
theorem Qa.trans (h:Qa s σ τ) (h':Qa s τ υ):Qa s σ υ:=by
 induction h' with
 | refl=>exact h
 | tail _ a ih=>exact .tail ih a
theorem Qa.one (h:Act s σ τ):Qa s σ τ:= .tail .refl h
theorem Qa.keep {P:TS ->Prop} (hP:∀ σ τ,P σ ->Act s σ τ ->P τ) (h:Qa s σ τ) (h0:P σ):P τ:=by
 induction h with
 | refl=>exact h0
 | tail _ a ih=>exact hP _ _ ih a
theorem QA {α:Type} (f:TS ->α ->TS) (Q:TS ->Prop):∀ (l:List α) (σ:TS),Q σ ->(∀ σ x,x ∈ l ->Q σ ->Q (f σ x)) ->Q (l.foldl f σ):=by
 intro l
 induction l with
 | nil=>intro σ h _;exact h
 | cons x l ih=>intro σ h hf;exact ih _ (hf σ x (by simp) h) fun σ y hy=>hf σ y (by simp [hy])
theorem XT (p q:Nat) (n:Int) (σ:TS):(see p q n σ).st=σ.st∧(see p q n σ).kn=σ.kn∧(see p q n σ).ma=σ.ma∧(see p q n σ).ld=σ.ld∧(see p q n σ).sn=σ.sn∧(see p q n σ).be=σ.be∧(see p q n σ).wa=σ.wa∧(see p q n σ).sd=σ.sd:=by
 unfold see;split <;> exact⟨rfl,rfl,rfl,rfl,rfl,rfl,rfl,rfl⟩
theorem Xc (p q:Nat) (σ:TS):(note s p q σ).st=σ.st∧(note s p q σ).kn=σ.kn∧(note s p q σ).ma=σ.ma∧(note s p q σ).ld=σ.ld∧(note s p q σ).sd=σ.sd∧(note s p q σ).ev=σ.ev:=by
 unfold note;split
 ·have:=ZbL (s:=s) p q σ;exact⟨this.1,this.2.1,this.2.2.1,this.2.2.2.1,this.2.2.2.2.1,this.2.2.2.2.2.1⟩
 ·exact⟨rfl,rfl,rfl,rfl,rfl,rfl⟩
theorem ZCK (p:Nat) (σ:TS):(JI s p σ).st=ZT σ.st p 3:=by
 have e:= (X7 (s:=s) p σ).1;unfold JI;split
 ·exact e
 ·split
  ·exact e
  ·exact e
theorem Zn3 {f:Nat ->Int} {k j:Nat} {v:Int} (hv:v ≠ 1) (h:f j ≠ 1):ZT f k v j ≠ 1:=by
 unfold ZT;by_cases e:j=k
 ·rw [if_pos e];exact hv
 ·rw [if_neg e];exact h
theorem ZJH (h:Act s σ τ) (hp:σ.st p ≠ 1):τ.st p ≠ 1:=by
 cases h with
 | fall hq h=>exact Zn3 (by decide) hp
 | J7=>exact hp
 | die hq h ha=>rw [ZCK];exact Zn3 (by decide) hp
 | ZaS=>rw [(XT _ _ _ _).1];exact hp
 | ZaR=>exact hp
 | ZaN=>rw [(Xc _ _ _).1];exact hp
 | ZaM=>exact hp
 | Za0=>rw [(XT _ _ _ _).1];exact hp
 | Za2=>rw [(Xc _ _ _).1];exact hp
 | Zab=>exact hp
 | KV=>exact hp
 | Za1=>exact hp
 | ring=>rw [(Qq _ _ _ _).2.2.1];exact hp
theorem U4 (h:Qa s σ τ) (hp:σ.st p ≠ 1):τ.st p ≠ 1:=h.keep (P:=fun σ=>σ.st p ≠ 1) (fun _ _ h a=>ZJH a h) hp
theorem Za9 (hS:Y8 s):∀ (d p:Nat) (σ:TS),p < nn s ->up s d (p:Int) < 0 ->σ.st p=2 ->Alo s σ p ->Qa s σ (Kc s d p σ):=by
 intro d
 induction d with
 | zero=>intro p σ hp hu _ _;exact absurd hu (by show ¬ ((p:Int)) < 0;omega)
 | succ d ih=>
   intro p σ hp hu h2 hA;have h1:Qa s σ (JI s p σ):= .one (.die hp h2 hA);show Qa s σ (ZbG s (Kc s d) p (ZF s p σ));unfold ZbG;unfold JI at h1;by_cases h0:inn s (p:Int) < 0
   ·rw [if_pos h0] at h1 ⊢;exact h1
   ·rw [if_neg h0] at h1 ⊢;obtain⟨eq,hq⟩:=Xm hS hp h0;by_cases e:pl s (inn s (p:Int)).toNat=pl s p
    ·rw [if_pos e] at h1 ⊢;unfold JC;by_cases c:(Z8 s p (Us s (ZF s p σ) p) (ZF s p σ)).st (inn s (p:Int)).toNat=2∧Alo s (Z8 s p (Us s (ZF s p σ) p) (ZF s p σ)) (inn s (p:Int)).toNat
     ·rw [ZH c];exact h1.trans (ih _ _ hq (by rw [← eq];exact Zps hp hu) c.1 c.2)
     ·rw [ZG c];exact h1
    ·rw [if_neg e] at h1 ⊢;exact h1
theorem Zdk (hS:Y8 s):∀ (d p:Nat) (σ:TS),p < nn s ->Ww s d p ->σ.st p=1 ->Qa s σ (YC s d p σ):=by
 intro d
 induction d with
 | zero=>intro p σ hp hs _;exact absurd rfl (hs p hp 0 (Nat.le_refl _))
 | succ d ih=>
   intro p σ hp hs h1;have h0:Qa s σ (YD p σ):= .one (.fall hp h1);have hne:(YD p σ).st p ≠ 1:=by show ZT σ.st p 2 p ≠ 1;rw [Zq];decide
   have hk:Qa s σ (fk s (YC s d) p (nn s) (YD p σ))∧(fk s (YC s d) p (nn s) (YD p σ)).st p ≠ 1:=by
    refine QA _ (fun τ=>Qa s σ τ∧τ.st p ≠ 1) _ _ ⟨h0,hne⟩ (fun τ k hk ⟨ha,hτ⟩=>?_);obtain⟨hkn,hki⟩:=Zis.1 (show k ∈ Zxv s p from hk)
    have:Qa s τ (KW s (YC s d) p τ k):=by
     unfold KW;by_cases e:pl s k=pl s p
     ·rw [if_pos e];by_cases e1:τ.st k=1
      ·rw [if_pos e1];exact ih k τ hkn (hs.kid hki) e1
      ·rw [if_neg e1];exact .refl
     ·rw [if_neg e];by_cases e1:(k:Int) ∈ τ.kn p
      ·rw [if_pos e1];exact .refl
      ·rw [if_neg e1];exact .one (.J7 hp hkn hki hτ e e1)
    exact⟨ha.trans this,U4 this hτ⟩
   show Qa s σ (ZaF s p (fk s (YC s d) p (nn s) (YD p σ)));unfold ZaF;by_cases c:(fk s (YC s d) p (nn s) (YD p σ)).st p=2∧Alo s (fk s (YC s d) p (nn s) (YD p σ)) p
   ·rw [ZH c];exact hk.1.trans (Za9 hS _ _ _ hp (U3 hS hp) c.1 c.2)
   ·rw [ZG c];exact hk.1
theorem Ztv (hw:w < mm s):∀ (n:Nat) (σ:TS),Qa s σ (Wh s w n σ):=by
 intro n
 induction n with
 | zero=>intro σ;exact .refl
 | succ n ih=>
   intro σ;rw [Wh];cases hpk:UU s σ.ld w (σ.be w) (σ.be w).length with
   | none=>exact .refl
   | some i=>exact(Qa.one (.ring hw hpk)).trans (ih _)
theorem Zbp:∀ k,k <=mm s ->Qa s σ (rings s k σ):=by
 intro k
 induction k with
 | zero=>intro _;exact .refl
 | succ k ih=>intro hk;exact(ih (by omega)).trans (Ztv (by omega) _ _)
theorem Zkr (hS:Y8 s) (ha:a < mm s) (hb:b < mm s) (hl:σ.ld (li s a b) < (σ.sn (li s a b)).length) (hx:Zrx s b (hd σ (li s a b))) (hD:Zpa s (hd σ (li s a b)) σ):Qa s σ (Zao s a b σ):=by
 obtain⟨p,hp,hpn,c⟩:=hx;unfold Zao Zd3;rcases c with⟨k,q,hq,JL⟩ | ⟨k,q,hq,JL⟩ | k | ⟨k,h0,hm⟩ | ⟨k,e,hm,q,hq,JL⟩
 ·rw [if_pos k,hp,hq,Int.toNat_natCast,Int.toNat_natCast];exact .one (.Za0 ha hb hl k hp hq hpn JL)
 ·rw [if_neg (by omega),if_pos k,hp,hq,Int.toNat_natCast,Int.toNat_natCast];exact .one (.Za2 ha hb hl k hp hq hpn JL)
 ·rw [if_neg (by omega),if_neg (by omega),if_pos k,hp,Int.toNat_natCast];have h1:Qa s σ (drop1 (li s a b) σ):= .one (.Zab ha hb hl k hp hpn);by_cases e:(drop1 (li s a b) σ).st p=1
  ·rw [if_pos e];exact h1.trans (Zdk hS _ _ _ hpn (Ww.all hS.inn) e)
  ·rw [if_neg e];exact h1
 ·rw [if_neg (by omega),if_neg (by omega),if_neg (by omega),if_pos k,hp,Int.toNat_natCast];obtain⟨h3,hn⟩:=ZeY hp hD k;obtain⟨eq,hq⟩:=Xm hS hpn (by omega);have h1:Qa s σ (Z8 s p (hd σ (li s a b)).qX (drop1 (li s a b) σ)):= .one (.KV ha hb hl k hp hpn h0 hm h3 hn);unfold ZaC JC;by_cases c:(Z8 s p (hd σ (li s a b)).qX (drop1 (li s a b) σ)).st (inn s (p:Int)).toNat=2∧Alo s (Z8 s p (hd σ (li s a b)).qX (drop1 (li s a b) σ)) (inn s (p:Int)).toNat
  ·rw [ZH c];exact h1.trans (Za9 hS _ _ _ hq (U3 hS hq) c.1 c.2)
  ·rw [ZG c];exact h1
 ·rw [if_neg (by omega),if_neg (by omega),if_neg (by omega),if_neg (by omega)];exact .one (.Za1 ha hb hl k)
end
end
section
def ZAj (s:Zb) (a b:Nat) (x:Zd):Prop:=∃ p:Nat,x.kV= (p:Int)∧p < nn s∧x.qX.length <=16∧
 ((x.kW=1∧pl s p=a∧∃ q:Nat,x.kX= (q:Int)∧q < nn s∧pl s q=b)∨(x.kW=2∧pl s p=a∧∃ q:Nat,x.kX= (q:Int)∧q < nn s∧pl s q=b)∨(x.kW=3∧pl s p=b∧0 <=inn s (p:Int)∧pl s (inn s (p:Int)).toNat=a)∨(x.kW=4∧0 <=inn s (p:Int)∧x.qX.length=mm s * mm s∧pl s p=a∧pl s (inn s (p:Int)).toNat=b)∨(x.kW=5∧pl s p=b∧x.qX.length=mm s * mm s∧∃ q:Nat,x.kX= (q:Int)∧q < nn s∧pl s q=a))
theorem ZAj.s {s:Zb} {a b:Nat} {x:Zd} (h:ZAj s a b x):Zrx s b x:=by
 obtain⟨p,hp,hpn,_,c⟩:=h;refine⟨p,hp,hpn,?_⟩;rcases c with⟨k,_,q,hq,JL,_⟩ | ⟨k,_,q,hq,JL,_⟩ | ⟨k,_⟩ | ⟨k,h0,hm,_⟩ | ⟨k,e,hm,q,hq,JL,_⟩
 ·exact .inl ⟨k,q,hq,JL⟩
 ·exact .inr (.inl ⟨k,q,hq,JL⟩)
 ·exact .inr (.inr (.inl k))
 ·exact .inr (.inr (.inr (.inl ⟨k,h0,hm⟩)))
 ·exact .inr (.inr (.inr (.inr ⟨k,e,hm,q,hq,JL⟩)))
structure P1 (s:Zb) (σ:TS):Prop where
 lets:∀ a b,a < mm s ->b < mm s ->∀ x ∈ σ.sn (li s a b),ZAj s a b x
 self:∀ a,a < mm s ->σ.sn (li s a a)= []
 bea:∀ w,w < mm s ->∀ x ∈ σ.be w,BeS s x∧x.kW=5
 ws:∀ q,q < nn s ->∀ x ∈ σ.wa q,∃ k:Nat,x= (k:Int)∧k < nn s
section
variable {s:Zb} {σ τ υ:TS} {F B a b p q w i n d:Nat} {x:Zd}
theorem Zp0 {a b a' b':Nat} (hb:b < mm s) (hb':b' < mm s) (h:li s a b=li s a' b'):a=a'∧b=b':=by
 obtain⟨e1,e2⟩:= (WQ hb).1 (show li s a b=a * mm s + b from rfl);obtain⟨e3,e4⟩:= (WQ hb').1 (show li s a' b'=a' * mm s + b' from rfl);rw [h] at e1 e2;exact⟨by omega,by omega⟩
theorem P1.congr (h:P1 s σ) (h1:τ.sn=σ.sn) (h2:τ.be=σ.be) (h3:τ.wa=σ.wa):P1 s τ:= ⟨by rw [h1];exact h.lets,by rw [h1];exact h.self,by rw [h2];exact h.bea,by rw [h3];exact h.ws⟩
theorem P1.send (h:P1 s σ) (ha:a < mm s) (hb:b < mm s) (hne:a ≠ b) (hx:ZAj s a b x):P1 s (Proofs.YtcnahmgekicbdaaGreat.send s a b x σ):=by
 refine⟨fun a' b' ha' hb' y hy=>?_,fun a' ha'=>?_,h.bea,h.ws⟩
 ·by_cases e:li s a' b'=li s a b
  ·obtain⟨rfl,rfl⟩:=Zp0 hb' hb e;rw [Zad] at hy;rcases List.mem_append.1 hy with hy | hy
   ·exact h.lets _ _ ha' hb' y hy
   ·rw [List.mem_singleton.1 hy];exact hx
  ·rw [QS e] at hy;exact h.lets _ _ ha' hb' y hy
 ·rw [QS (fun e=>hne (by obtain⟨e1,e2⟩:=Zp0 ha' hb e;omega))];exact h.self a' ha'
theorem P1.wait (h:P1 s σ) (hx:BeS s x∧x.kW=5):P1 s (Proofs.YtcnahmgekicbdaaGreat.wait a x σ):=by
 refine⟨h.lets,h.self,fun w hw y hy=>?_,h.ws⟩;have hy:y ∈ ZT σ.be a (σ.be a ++ [x]) w:=hy;by_cases e:w=a
 ·subst e;rw [Zq] at hy;rcases List.mem_append.1 hy with hy | hy
  ·exact h.bea w hw y hy
  ·rw [List.mem_singleton.1 hy];exact hx
 ·rw [ZA e] at hy;exact h.bea w hw y hy
theorem P1.YH (hS:Y8 s) (h:P1 s σ) (hp:p < nn s) (hq:q < nn s):P1 s (Proofs.YtcnahmgekicbdaaGreat.YH s p q σ):=by
 unfold Proofs.YtcnahmgekicbdaaGreat.YH;by_cases e:pl s p=pl s q
 ·rw [if_pos e];exact h.wait ⟨⟨⟨p,rfl,hp⟩,⟨q,rfl,hq⟩,Qp⟩,rfl⟩
 ·rw [if_neg e];exact h.send (hS.pl hq).2 (hS.pl hp).2 (fun z=>e z.symm) ⟨p,rfl,hp,(by show(tab _ _).length <=16;rw [Qp];exact Zik hS),.inr (.inr (.inr (.inr ⟨rfl,rfl,Qp,q,rfl,hq,rfl⟩)))⟩
theorem P1.see (h:P1 s σ) (p q:Nat) (n:Int):P1 s (Proofs.YtcnahmgekicbdaaGreat.see p q n σ):=by
 have e:=XT p q n σ;exact h.congr e.2.2.2.2.1 e.2.2.2.2.2.1 e.2.2.2.2.2.2.1
theorem P1.note (hS:Y8 s) (h:P1 s σ) (hp:p < nn s) (hq:q < nn s):P1 s (Proofs.YtcnahmgekicbdaaGreat.note s p q σ):=by
 unfold Proofs.YtcnahmgekicbdaaGreat.note;by_cases e:σ.st q=3
 ·rw [if_pos e];exact h.YH hS hp hq
 ·rw [if_neg e];refine⟨h.lets,h.self,h.bea,fun j hj y hy=>?_⟩;have hy:y ∈ ZT σ.wa q (σ.wa q ++ [(p:Int)]) j:=hy;by_cases e1:j=q
  ·subst e1;rw [Zq] at hy;rcases List.mem_append.1 hy with hy | hy
   ·exact h.ws j hj y hy
   ·rw [List.mem_singleton.1 hy];exact⟨p,rfl,hp⟩
  ·rw [ZA e1] at hy;exact h.ws j hj y hy
theorem P1.QW (h:P1 s σ) (p:Nat):P1 s (Proofs.YtcnahmgekicbdaaGreat.QW p σ):=by
 refine⟨h.lets,h.self,h.bea,fun j hj y hy=>?_⟩;have hy:y ∈ ZT σ.wa p [] j:=hy;by_cases e1:j=p
 ·subst e1;rw [Zq] at hy;cases hy
 ·rw [ZA e1] at hy;exact h.ws j hj y hy
theorem P1.Zu (hS:Y8 s) (h:P1 s σ) (hp:p < nn s) (l:List Int) (hl:∀ x ∈ l,∃ k:Nat,x= (k:Int)∧k < nn s):P1 s (Proofs.YtcnahmgekicbdaaGreat.Zu s p l σ):=
 QA _ (P1 s) l σ h fun τ x hx hτ=>by
  obtain⟨k,e,hk⟩:=hl x hx;rw [e,Int.toNat_natCast];exact hτ.YH hS hk hp
theorem P1.ZF (hS:Y8 s) (h:P1 s σ) (hp:p < nn s):P1 s (Proofs.YtcnahmgekicbdaaGreat.ZF s p σ):= ((h.QW p).Zu hS hp _ (h.ws p hp)).congr rfl rfl rfl
theorem P1.JI (hS:Y8 s) (h:P1 s σ) (hp:p < nn s):P1 s (Proofs.YtcnahmgekicbdaaGreat.JI s p σ):=by
 have hA:=h.ZF hS hp;unfold Proofs.YtcnahmgekicbdaaGreat.JI;by_cases h0:inn s (p:Int) < 0
 ·rw [if_pos h0];exact hA
 ·rw [if_neg h0];obtain⟨eq,hq⟩:=Xm hS hp h0;by_cases e:pl s (inn s (p:Int)).toNat=pl s p
  ·rw [if_pos e];exact hA.congr rfl rfl rfl
  ·rw [if_neg e];exact hA.send (hS.pl hp).2 (hS.pl hq).2 (fun z=>e z.symm) ⟨p,rfl,hp,(by show(tab _ _).length <=16;rw [Qp];exact Zik hS),.inr (.inr (.inr (.inl ⟨rfl,by omega,Qp,rfl,rfl⟩)))⟩
theorem ZcH (h:σ.ld i < (σ.sn i).length):hd σ i ∈ σ.sn i:=Xd h
theorem P1.act (hS:Y8 s) (h:P1 s σ) (ac:Act s σ τ):P1 s τ:=by
 cases ac with
 | fall=>exact h.congr rfl rfl rfl
 | @J7 p k hp hk hi h1 hr hn=>
   exact h.send (hS.pl hp).2 (hS.pl hk).2 (fun z=>hr z.symm) ⟨k,rfl,hk,(by show 0 <=16;omega),.inr (.inr (.inl ⟨rfl,rfl,by omega,by rw [hi,Int.toNat_natCast]⟩))⟩
 | die hp=>exact h.JI hS hp
 | ZaS hp hq h1 e=>exact(h.congr (τ:=kK _ _ σ) rfl rfl rfl).see _ _ _
 | @ZaR p q hp hq h1 e=>exact(h.congr (τ:=kK _ _ σ) rfl rfl rfl).send (hS.pl hp).2 (hS.pl hq).2 e ⟨p,rfl,hp,(by show 0 <=16;omega),.inl ⟨rfl,rfl,q,rfl,hq,rfl⟩⟩
 | ZaN hp hq h1 e=>exact(h.congr (τ:=tell _ _ _ _ σ) rfl rfl rfl).note hS hp hq
 | @ZaM p q hp hq h1 e=>exact(h.congr (τ:=tell _ _ _ _ σ) rfl rfl rfl).send (hS.pl hp).2 (hS.pl hq).2 e ⟨p,rfl,hp,(by show 0 <=16;omega),.inr (.inl ⟨rfl,rfl,q,rfl,hq,rfl⟩)⟩
 | Za0=>exact(h.congr (τ:=drop1 _ σ) rfl rfl rfl).see _ _ _
 | Za2 ha hb hl hk hp hq hpn JL=>exact(h.congr (τ:=drop1 _ σ) rfl rfl rfl).note hS hpn JL
 | Zab=>exact h.congr rfl rfl rfl
 | KV=>exact h.congr rfl rfl rfl
 | @Za1 a b ha hb hl hk=>
   have hm:=ZcH hl;obtain⟨p,hp,hpn,_,c⟩:=h.lets a b ha hb _ hm;refine(h.congr (τ:=drop1 _ σ) rfl rfl rfl).wait ⟨?_,hk⟩;rcases c with⟨k,_⟩ | ⟨k,_⟩ | ⟨k,_⟩ | ⟨k,_⟩ | ⟨k,e,hm,q,hq,JL,_⟩
   ·omega
   ·omega
   ·omega
   ·omega
   ·exact⟨⟨p,hp,hpn⟩,⟨q,hq,JL⟩,hm⟩
 | @ring w i hw hpk=>
   have e:=Qq s w i σ;refine⟨by rw [e.2.2.2.2.2.1];exact h.lets,by rw [e.2.2.2.2.2.1];exact h.self,fun v hv y hy=>?_,by rw [e.2.2.2.2.2.2.1];exact h.ws⟩;rw [e.1] at hy;by_cases z:v=w
   ·subst z;rw [Zq] at hy;exact h.bea v hv y (ZcO hy)
   ·rw [ZA z] at hy;exact h.bea v hv y hy
def SnM (σ τ:TS):Prop:=∀ i,(σ.sn i).length <= (τ.sn i).length
theorem SnM.refl' (h:τ.sn=σ.sn):SnM σ τ:=fun i=>by rw [h];exact Nat.le_refl _
theorem SnM.trans (h:SnM σ τ) (h':SnM τ υ):SnM σ υ:=fun i=>Nat.le_trans (h i) (h' i)
theorem SnM.send (x:Zd):SnM σ (Proofs.YtcnahmgekicbdaaGreat.send s a b x σ):=fun i=>by
 by_cases e:i=li s a b
 ·subst e;rw [Zad,List.length_append];omega
 ·rw [QS e];exact Nat.le_refl _
theorem SnM.YH (p q:Nat):SnM σ (Proofs.YtcnahmgekicbdaaGreat.YH s p q σ):=by
 unfold Proofs.YtcnahmgekicbdaaGreat.YH;split
 ·exact .refl' rfl
 ·exact .send _
theorem SnM.Zu (p:Nat) (l:List Int):SnM σ (Proofs.YtcnahmgekicbdaaGreat.Zu s p l σ):=QA _ (SnM σ) l σ (.refl' rfl) fun τ x _ h=>h.trans (.YH _ _)
theorem SnM.note (p q:Nat):SnM σ (Proofs.YtcnahmgekicbdaaGreat.note s p q σ):=by
 unfold Proofs.YtcnahmgekicbdaaGreat.note;split
 ·exact .YH _ _
 ·exact .refl' rfl
theorem SnM.ZF (p:Nat):SnM σ (Proofs.YtcnahmgekicbdaaGreat.ZF s p σ):= (SnM.Zu (σ:=Proofs.YtcnahmgekicbdaaGreat.QW p σ) p (σ.wa p)).trans (.refl' rfl)
structure P2 (s:Zb) (σ:TS):Prop where
 ld:∀ i,σ.ld i <= (σ.sn i).length
 kn:Kn s σ
theorem P2.of (h:P2 s σ) (h1:τ.ld=σ.ld) (h2:SnM σ τ) (h3:τ.kn=σ.kn) (h4:∀ k,σ.st k=3 ->τ.st k=3):P2 s τ:=
 ⟨fun i=>by rw [h1];exact Nat.le_trans (h.ld i) (h2 i),fun q hq=>by rw [h3];exact h.kn.srt q hq,fun q hq x hx=>by
   rw [h3] at hx;obtain⟨k,a,b,c,d⟩:=h.kn.rng q hq x hx;exact⟨k,a,b,c,h4 k d⟩⟩
theorem P2.drop (h:P2 s σ) (hl:σ.ld i < (σ.sn i).length):P2 s (drop1 i σ):= ⟨fun j=>by
 show ZT σ.ld i (σ.ld i + 1) j <= (σ.sn j).length;by_cases e:j=i
 ·subst e;rw [Zq];exact hl
 ·rw [ZA e];exact h.ld j,⟨h.kn.srt,h.kn.rng⟩⟩
theorem ZIu {f:Nat ->Int} {k j:Nat} (h:f j=3):ZT f k 3 j=3:=by
 unfold ZT;by_cases e:j=k
 ·rw [if_pos e]
 ·rw [if_neg e];exact h
theorem P2.ZF (h:P2 s σ) (p:Nat):P2 s (Proofs.YtcnahmgekicbdaaGreat.ZF s p σ):=by
 have sA:=X7 (s:=s) p σ;exact h.of sA.2.2.1 (.ZF p) sA.2.1 fun k hk=>by rw [sA.1];exact ZIu hk
theorem P2.not_mem (h:P2 s σ) {q:Nat} (hq:q < nn s) (h2:σ.st p ≠ 3):(p:Int) ∉ σ.kn q:=fun hm=>by
 obtain⟨k,e1,_,_,e4⟩:=h.kn.rng q hq _ hm;have:k=p:=by omega
 subst this;exact h2 e4
theorem P2.act (hS:Y8 s) (h:P2 s σ) (ac:Act s σ τ):P2 s τ:=by
 cases ac with
 | @fall p hp h1=>
   refine h.of rfl (.refl' rfl) rfl fun k hk=>?_
   show ZT σ.st p 2 k=3;rw [ZA (fun z=>by subst z;rw [h1] at hk;cases hk)];exact hk
 | J7=>exact h.of rfl (.send _) rfl fun _ z=>z
 | @die p hp h2 hA=>
   have hD:=h.ZF p;have sA:=X7 (s:=s) p σ;unfold JI;by_cases h0:inn s (p:Int) < 0
   ·rw [if_pos h0];exact hD
   ·rw [if_neg h0];obtain⟨eq,hq⟩:=Xm hS hp h0;by_cases e:pl s (inn s (p:Int)).toNat=pl s p
    ·rw [if_pos e];exact⟨hD.ld,Wq hS hD.kn hp h0 (by rw [sA.1,Zq]) (by rw [sA.2.1];exact h.not_mem hq (by rw [h2];decide)) _⟩
    ·rw [if_neg e];exact hD.of rfl (.send _) rfl fun _ z=>z
 | @ZaS p q=>have e:=XT q p σ.sd (kK p q σ);exact h.of e.2.2.2.1 (.refl' e.2.2.2.2.1) e.2.1 fun k z=>by rw [e.1];exact z
 | @ZaR p q=>exact h.of rfl (SnM.trans (.refl' (τ:=kK p q σ) rfl) (.send _)) rfl fun _ z=>z
 | @ZaN p q=>have e:=Xc (s:=s) p q (tell 3 p q 0 σ);exact h.of e.2.2.2.1 (SnM.trans (.refl' (τ:=tell 3 p q 0 σ) rfl) (.note _ _)) e.2.1 fun k z=>by rw [e.1];exact z
 | @ZaM p q=>exact h.of rfl (SnM.trans (.refl' (τ:=tell 3 p q 0 σ) rfl) (.send _)) rfl fun _ z=>z
 | @Za0 a b p q ha hb hl=>have e:=XT q p (hd σ (li s a b)).n (drop1 (li s a b) σ);exact(h.drop hl).of e.2.2.2.1 (.refl' e.2.2.2.2.1) e.2.1 fun k z=>by rw [e.1];exact z
 | @Za2 a b p q ha hb hl=>have e:=Xc (s:=s) p q (drop1 (li s a b) σ);exact(h.drop hl).of e.2.2.2.1 (.note _ _) e.2.1 fun k z=>by rw [e.1];exact z
 | Zab ha hb hl=>exact h.drop hl
 | KV ha hb hl hk hp hpn h0 hm h3 hn=>exact⟨(h.drop hl).ld,Wq hS (h.drop hl).kn hpn (by omega) h3 hn _⟩
 | Za1 ha hb hl=>exact(h.drop hl).of rfl (.refl' rfl) rfl fun _ z=>z
 | @ring w i=>have e:=Qq s w i σ;exact h.of e.2.1 (.refl' e.2.2.2.2.2.1) e.2.2.2.1 fun k z=>by rw [e.2.2.1];exact z
structure KI (s:Zb) (σ:TS):Prop where
 k1:∀ (i j:Nat) (x:Zd),(σ.sn i)[j]? =some x ->x.kW=4 ->∃ k:Nat,x.kV= (k:Int)∧k < nn s∧σ.st k=3∧((k:Int) ∈ σ.kn (inn s (k:Int)).toNat↔j < σ.ld i)
 k2:∀ (i i' j j':Nat) (x x':Zd),(σ.sn i)[j]? =some x ->(σ.sn i')[j']? =some x' ->x.kW=4 ->x'.kW=4 ->x.kV=x'.kV ->i=i'∧j=j'
 k3:∀ p,p < nn s ->σ.st p=3 ->0 <=inn s (p:Int) ->(p:Int) ∈ σ.kn (inn s (p:Int)).toNat∨∃ (i j:Nat) (x:Zd),(σ.sn i)[j]? =some x∧x.kW=4∧x.kV= (p:Int)
 k4:∀ p,p < nn s ->σ.st p=3 ->Alo s σ p
def S4 (σ τ:TS):Prop:=∀ (i j:Nat) (x:Zd),x.kW=4 ->((τ.sn i)[j]? =some x↔(σ.sn i)[j]? =some x)
theorem S4.refl' (h:τ.sn=σ.sn):S4 σ τ:=fun i j x _=>by rw [h]
theorem S4.trans (h:S4 σ τ) (h':S4 τ υ):S4 σ υ:=fun i j x hx=>(h' i j x hx).trans (h i j x hx)
theorem Xn {x y:Zd} {j:Nat}:((send s a b x σ).sn i)[j]? =some y↔(σ.sn i)[j]? =some y∨(i=li s a b∧j= (σ.sn i).length∧y=x):=by
 by_cases e:i=li s a b
 ·subst e;rw [Zad];rcases Nat.lt_trichotomy j (σ.sn (li s a b)).length with h | h | h
  ·rw [List.getElem?_append_left h];exact⟨.inl,fun z=>z.elim id fun w=>absurd w.2.1 (by omega)⟩
  ·subst h;rw [List.getElem?_append_right (Nat.le_refl _),Nat.sub_self]
   constructor
   ·intro z;simp at z;exact .inr ⟨rfl,rfl,z.symm⟩
   ·rintro(z | ⟨_,_,z⟩)
    ·rw [List.getElem?_eq_none (Nat.le_refl _)] at z;cases z
    ·simp [z]
  ·constructor
   ·intro z;have:= (Li0 z).1;rw [List.length_append,List.length_singleton] at this;omega
   ·rintro(z | ⟨_,z,_⟩)
    ·have:= (Li0 z).1;omega
    ·omega
 ·rw [QS e];exact⟨.inl,fun z=>z.elim id fun w=>absurd w.1 e⟩
theorem S4.send (hx:x.kW ≠ 4):S4 σ (Proofs.YtcnahmgekicbdaaGreat.send s a b x σ):=fun i j y hy=>by
 rw [Xn];exact⟨fun z=>z.elim id fun w=>absurd (w.2.2 ▸ hy) hx,.inl⟩
theorem S4.YH (p q:Nat):S4 σ (Proofs.YtcnahmgekicbdaaGreat.YH s p q σ):=by
 unfold Proofs.YtcnahmgekicbdaaGreat.YH;split
 ·exact .refl' rfl
 ·exact .send (by show(5:Int) ≠ 4;decide)
theorem S4.Zu (p:Nat) (l:List Int):S4 σ (Proofs.YtcnahmgekicbdaaGreat.Zu s p l σ):=QA _ (S4 σ) l σ (.refl' rfl) fun τ x _ h=>h.trans (.YH _ _)
theorem S4.note (p q:Nat):S4 σ (Proofs.YtcnahmgekicbdaaGreat.note s p q σ):=by
 unfold Proofs.YtcnahmgekicbdaaGreat.note;split
 ·exact .YH _ _
 ·exact .refl' rfl
theorem S4.ZF (p:Nat):S4 σ (Proofs.YtcnahmgekicbdaaGreat.ZF s p σ):= (S4.Zu (σ:=Proofs.YtcnahmgekicbdaaGreat.QW p σ) p (σ.wa p)).trans (.refl' rfl)
theorem KI.same (h:KI s σ) (h1:∀ p,τ.st p=3↔σ.st p=3) (h2:τ.kn=σ.kn) (h3:τ.ld=σ.ld) (h4:S4 σ τ):KI s τ:=by
 refine⟨fun i j x hx hk=>?_,fun i i' j j' x x' hx hx' hk hk' e=>h.k2 i i' j j' x x' ((h4 i j x hk).1 hx) ((h4 i' j' x' hk').1 hx') hk hk' e,fun p hp h3' h0=>?_,fun p hp h3'=>?_⟩
 ·obtain⟨k,e1,e2,e3,e4⟩:=h.k1 i j x ((h4 i j x hk).1 hx) hk;exact⟨k,e1,e2,(h1 k).2 e3,by rw [h2,h3];exact e4⟩
 ·rw [h2];exact(h.k3 p hp ((h1 p).1 h3') h0).imp id fun⟨i,j,x,a,b,c⟩=>⟨i,j,x,(h4 i j x b).2 a,b,c⟩
 ·intro k hk e;rw [h2];exact h.k4 p hp ((h1 p).1 h3') k hk e
theorem KI.drop (h:KI s σ) (hl:σ.ld i < (σ.sn i).length) (hk:(hd σ i).kW ≠ 4):KI s (drop1 i σ):=by
 refine⟨fun i' j x hx hk'=>?_,h.k2,h.k3,h.k4⟩;obtain⟨k,e1,e2,e3,e4⟩:=h.k1 i' j x hx hk';refine⟨k,e1,e2,e3,e4.trans ?_⟩;show j < σ.ld i'↔j < ZT σ.ld i (σ.ld i + 1) i';by_cases e:i'=i
 ·subst e;rw [Zq]
  have:j ≠ σ.ld i':=fun z=>hk (by
   subst z;have hx:(σ.sn i')[σ.ld i']? =some x:=hx;unfold hd;rw [List.getD_eq_getElem?_getD,hx];exact hk')
  omega
 ·rw [ZA e]
theorem ZOD {f:Nat ->Int} {k j:Nat} {v:Int} (hv:v ≠ 3) (h:f k ≠ 3):ZT f k v j=3↔f j=3:=by
 unfold ZT;by_cases e:j=k
 ·subst e;rw [if_pos rfl];exact⟨fun z=>absurd z hv,fun z=>absurd z h⟩
 ·rw [if_neg e]
theorem KI.die (hS:Y8 s) (hP:P2 s σ) (h:KI s σ) (hp:p < nn s) (h2:σ.st p=2) (hA:Alo s σ p):KI s (JI s p σ):=by
 have sA:=X7 (s:=s) p σ;have h4:=S4.ZF (s:=s) (σ:=σ) p
 have no4:∀ (i j:Nat) (x:Zd),(σ.sn i)[j]? =some x ->x.kW=4 ->x.kV ≠ (p:Int):=fun i j x hx hk e=>by
  obtain⟨k,e1,_,e3,_⟩:=h.k1 i j x hx hk;have:k=p:=by omega
  subst this;rw [h2] at e3;cases e3
 have st3:∀ k,σ.st k=3 ->ZT σ.st p 3 k=3:=fun k hk=>by
  unfold ZT;by_cases e:k=p
  ·rw [if_pos e]
  ·rw [if_neg e];exact hk
 have Ztq:∀ k,ZT σ.st p 3 k=3 ->k=p∨σ.st k=3:=fun k hk=>by
  by_cases e:k=p
  ·exact .inl e
  ·rw [ZA e] at hk;exact .inr hk
 unfold JI;by_cases h0:inn s (p:Int) < 0
 ·rw [if_pos h0];refine⟨fun i j x hx hk=>?_,fun i i' j j' x x' hx hx' hk hk' e=>h.k2 i i' j j' x x' ((h4 i j x hk).1 hx) ((h4 i' j' x' hk').1 hx') hk hk' e,fun k hk h3' h0'=>?_,fun k hk h3'=>?_⟩
  ·obtain⟨k,e1,e2,e3,e4⟩:=h.k1 i j x ((h4 i j x hk).1 hx) hk;exact⟨k,e1,e2,by rw [sA.1];exact st3 k e3,by rw [sA.2.1,sA.2.2.1];exact e4⟩
  ·rw [sA.1] at h3';rcases Ztq k h3' with e | e
   ·subst e;omega
   ·rw [sA.2.1];exact(h.k3 k hk e h0').imp id fun⟨i,j,x,a,b,c⟩=>⟨i,j,x,(h4 i j x b).2 a,b,c⟩
  ·rw [sA.1] at h3';intro j hj e;rw [sA.2.1];rcases Ztq k h3' with z | z
   ·subst z;exact hA j hj e
   ·exact h.k4 k hk z j hj e
 ·rw [if_neg h0];obtain⟨eq,hq⟩:=Xm hS hp h0;by_cases e:pl s (inn s (p:Int)).toNat=pl s p
  ·rw [if_pos e]
   have kne:∀ (k q':Nat),k ≠ p ->(((k:Int)) ∈ ZT (ZF s p σ).kn (inn s (p:Int)).toNat (ins (p:Int) ((ZF s p σ).kn (inn s (p:Int)).toNat)) q'↔(k:Int) ∈ σ.kn q'):=fun k q' hne=>by
    rw [sA.2.1];by_cases z:q'= (inn s (p:Int)).toNat
    ·subst z;rw [Zq,WA];exact⟨fun w=>w.elim (fun w=>absurd (by omega) hne) id,.inr⟩
    ·rw [ZA z]
   refine⟨fun i j x hx hk=>?_,fun i i' j j' x x' hx hx' hk hk' e=>h.k2 i i' j j' x x' ((h4 i j x hk).1 hx) ((h4 i' j' x' hk').1 hx') hk hk' e,fun k hk h3' h0'=>?_,fun k hk h3'=>?_⟩
   ·have hx':= (h4 i j x hk).1 hx;obtain⟨k,e1,e2,e3,e4⟩:=h.k1 i j x hx' hk;have hne:k ≠ p:=fun z=>no4 i j x hx' hk (by rw [e1,z])
    refine⟨k,e1,e2,by show(ZF s p σ).st k=3;rw [sA.1];exact st3 k e3,?_⟩;refine(kne k _ hne).trans ?_;show _↔j < (ZF s p σ).ld i;rw [sA.2.2.1];exact e4
   ·have h3':(ZF s p σ).st k=3:=h3';rw [sA.1] at h3';rcases Ztq k h3' with z | z
    ·subst z;left;show _ ∈ ZT _ _ _ _;rw [Zq];exact WA.2 (.inl rfl)
    ·have hne:k ≠ p:=fun w=>by subst w;rw [h2] at z;cases z
     refine(h.k3 k hk z h0').imp (fun w=>(kne k _ hne).2 w) fun⟨i,j,x,a,b,c⟩=>⟨i,j,x,(h4 i j x b).2 a,b,c⟩
   ·have h3':(ZF s p σ).st k=3:=h3';rw [sA.1] at h3';intro j hj ej
    have hold:(j:Int) ∈ σ.kn k:=by
     rcases Ztq k h3' with z | z
     ·subst z;exact hA j hj ej
     ·exact h.k4 k hk z j hj ej
    show _ ∈ ZT _ _ _ _;rw [sA.2.1];by_cases z:k= (inn s (p:Int)).toNat
    ·subst z;rw [Zq];exact WA.2 (.inr hold)
    ·rw [ZA z];exact hold
  ·rw [if_neg e];obtain⟨y,hy⟩:∃ y:Zd,y= ⟨4,(p:Int),0,0,Us s (ZF s p σ) p⟩:= ⟨_,rfl⟩
   rw [← hy];have yk:y.kW=4:=by rw [hy]
   have yp:y.kV= (p:Int):=by rw [hy]
   refine⟨fun i j x hx hk=>?_,fun i i' j j' x x' hx hx' hk hk' e=>?_,fun k hk h3' h0'=>?_,fun k hk h3'=>?_⟩
   ·rcases Xn.1 hx with hx | ⟨e1,e2,e3⟩
    ·obtain⟨k,e1,e2,e3,e4⟩:=h.k1 i j x ((h4 i j x hk).1 hx) hk
     exact⟨k,e1,e2,by show(ZF s p σ).st k=3;rw [sA.1];exact st3 k e3,by
      show _ ∈ (ZF s p σ).kn _↔_ < (ZF s p σ).ld i;rw [sA.2.1,sA.2.2.1];exact e4⟩
    ·refine⟨p,by rw [e3];exact yp,hp,by show(ZF s p σ).st p=3;rw [sA.1,Zq],?_⟩;show _ ∈ (ZF s p σ).kn _↔_ < (ZF s p σ).ld i;rw [sA.2.1,e2,e1];have:= (hP.ZF p).ld (li s (pl s p) (pl s (inn s (p:Int)).toNat));exact⟨fun w=>absurd w (hP.not_mem hq (by rw [h2];decide)),fun w=>by omega⟩
   ·rcases Xn.1 hx with hx | ⟨a1,a2,a3⟩ <;> rcases Xn.1 hx' with hx' | ⟨b1,b2,b3⟩
    ·exact h.k2 i i' j j' x x' ((h4 i j x hk).1 hx) ((h4 i' j' x' hk').1 hx') hk hk' e
    ·exact absurd (by rw [e,b3,yp]) (no4 i j x ((h4 i j x hk).1 hx) hk)
    ·exact absurd (by rw [← e,a3,yp]) (no4 i' j' x' ((h4 i' j' x' hk').1 hx') hk')
    ·have:i=i':=by rw [a1,b1]
     subst this;exact⟨rfl,by rw [a2,b2]⟩
   ·have h3':(ZF s p σ).st k=3:=h3';rw [sA.1] at h3';rcases Ztq k h3' with z | z
    ·subst z;exact .inr ⟨_,_,y,Xn.2 (.inr ⟨rfl,rfl,rfl⟩),yk,yp⟩
    ·refine(h.k3 k hk z h0').imp (fun w=>by show _ ∈ (ZF s p σ).kn _;rw [sA.2.1];exact w) fun⟨i,j,x,a,b,c⟩=>⟨i,j,x,Xn.2 (.inl ((h4 i j x b).2 a)),b,c⟩
   ·have h3':(ZF s p σ).st k=3:=h3';rw [sA.1] at h3';intro j hj ej;show _ ∈ (ZF s p σ).kn k;rw [sA.2.1];rcases Ztq k h3' with z | z
    ·subst z;exact hA j hj ej
    ·exact h.k4 k hk z j hj ej
theorem KI.KV (hS:Y8 s) (h:KI s σ) (hl:σ.ld i < (σ.sn i).length) (hk:(hd σ i).kW=4) (hp:(hd σ i).kV= (p:Int)) (hpn:p < nn s) (l:List Int):KI s (Z8 s p l (drop1 i σ)):=by
 have hh:(σ.sn i)[σ.ld i]? =some (hd σ i):=by
  unfold hd;rw [List.getD_eq_getElem?_getD,List.getElem?_eq_getElem hl];rfl
 have kne:∀ (k q':Nat),k ≠ p ->(((k:Int)) ∈ ZT σ.kn (inn s (p:Int)).toNat (ins (p:Int) (σ.kn (inn s (p:Int)).toNat)) q'↔(k:Int) ∈ σ.kn q'):=fun k q' hne=>by
  by_cases z:q'= (inn s (p:Int)).toNat
  ·subst z;rw [Zq,WA];exact⟨fun w=>w.elim (fun w=>absurd (by omega) hne) id,.inr⟩
  ·rw [ZA z]
 have kup:∀ (k q':Nat),(k:Int) ∈ σ.kn q' ->((k:Int)) ∈ ZT σ.kn (inn s (p:Int)).toNat (ins (p:Int) (σ.kn (inn s (p:Int)).toNat)) q':=fun k q' hm=>by
  by_cases e:k=p
  ·by_cases z:q'= (inn s (p:Int)).toNat
   ·subst z;rw [Zq];exact WA.2 (.inr hm)
   ·rw [ZA z];exact hm
  ·exact(kne k q' e).2 hm
 refine⟨fun i' j x hx hk'=>?_,h.k2,fun k hk' h3 h0=>(h.k3 k hk' h3 h0).imp (fun w=>kup k _ w) id,fun k hk' h3 j hj e=>kup j k (h.k4 k hk' h3 j hj e)⟩;obtain⟨k,e1,e2,e3,e4⟩:=h.k1 i' j x hx hk';refine⟨k,e1,e2,e3,?_⟩;show(k:Int) ∈ ZT σ.kn (inn s (p:Int)).toNat (ins (p:Int) (σ.kn (inn s (p:Int)).toNat)) (inn s (k:Int)).toNat↔j < ZT σ.ld i (σ.ld i + 1) i';by_cases z:k=p
 ·subst z;obtain⟨a,c⟩:=h.k2 i' i j _ x _ hx hh hk' hk (by rw [e1,hp]);subst a c;rw [Zq,Zq];exact⟨fun _=>by omega,fun _=>WA.2 (.inl rfl)⟩
 ·rw [kne k _ z];by_cases e:i'=i
  ·subst e;rw [Zq]
   have:j ≠ σ.ld i':=fun w=>by
    subst w;have hx:(σ.sn i')[σ.ld i']? =some x:=hx;rw [hh] at hx;cases hx;rw [hp] at e1;omega
   exact e4.trans (by omega)
  ·rw [ZA e];exact e4
theorem KI.act (hS:Y8 s) (hP:P2 s σ) (h:KI s σ) (ac:Act s σ τ):KI s τ:=by
 cases ac with
 | @fall p hp h1=>exact h.same (fun k=>ZOD (by decide) (by rw [h1];decide)) rfl rfl (.refl' rfl)
 | J7=>exact h.same (fun _=>Iff.rfl) rfl rfl (.send (by show(3:Int) ≠ 4;decide))
 | die hp h2 hA=>exact h.die hS hP hp h2 hA
 | @ZaS p q=>have e:=XT q p σ.sd (kK p q σ);exact h.same (fun k=>by rw [e.1];exact Iff.rfl) e.2.1 e.2.2.2.1 (.refl' e.2.2.2.2.1)
 | @ZaR p q=>exact h.same (fun _=>Iff.rfl) rfl rfl (S4.trans (.refl' (τ:=kK p q σ) rfl) (.send (by show(1:Int) ≠ 4;decide)))
 | @ZaN p q=>have e:=Xc (s:=s) p q (tell 3 p q 0 σ);exact h.same (fun k=>by rw [e.1];exact Iff.rfl) e.2.1 e.2.2.2.1 (S4.trans (.refl' (τ:=tell 3 p q 0 σ) rfl) (.note _ _))
 | @ZaM p q=>exact h.same (fun _=>Iff.rfl) rfl rfl (S4.trans (.refl' (τ:=tell 3 p q 0 σ) rfl) (.send (by show(2:Int) ≠ 4;decide)))
 | @Za0 a b p q ha hb hl hk=>have e:=XT q p (hd σ (li s a b)).n (drop1 (li s a b) σ);exact(h.drop hl (by rw [hk];decide)).same (fun k=>by rw [e.1]) e.2.1 e.2.2.2.1 (.refl' e.2.2.2.2.1)
 | @Za2 a b p q ha hb hl hk=>have e:=Xc (s:=s) p q (drop1 (li s a b) σ);exact(h.drop hl (by rw [hk];decide)).same (fun k=>by rw [e.1]) e.2.1 e.2.2.2.1 (.note _ _)
 | Zab ha hb hl hk=>exact h.drop hl (by rw [hk];decide)
 | KV ha hb hl hk hp hpn=>exact h.KV hS hl hk hp hpn _
 | Za1 ha hb hl hk=>exact(h.drop hl (by rw [hk];decide)).same (fun _=>Iff.rfl) rfl rfl (.refl' rfl)
 | @ring w i=>have e:=Qq s w i σ;exact h.same (fun k=>by rw [e.2.2.1]) e.2.2.2.1 e.2.1 (.refl' e.2.2.2.2.2.1)
end
end
section
def SD (σ:TS):Prop:=0 <=σ.sd∧σ.sd <= (σ.ev.length:Int)
structure Ok (s:Zb) (B:Nat) (σ:TS):Prop where
 gd:Gd s B σ
 p1:P1 s σ
 p2:P2 s σ
 ki:KI s σ
 sd:SD σ
section
variable {s:Zb} {σ τ υ:TS} {F B a b p q w i n d:Nat} {x:ZE}
theorem SD.of (h:SD σ) (h1:τ.sd=σ.sd) (h2:σ.ev.length <=τ.ev.length):SD τ:= ⟨by rw [h1];exact h.1,by rw [h1];have:=h.2;omega⟩
theorem Zv5 (p q:Nat) (n:Int) (σ:TS):σ.ev.length <= (see p q n σ).ev.length:=by
 unfold see;split
 ·show _ <= (σ.ev ++ [_]).length;rw [List.length_append];omega
 ·exact Nat.le_refl _
theorem SD.act (h:SD σ) (ac:Act s σ τ):SD τ:=by
 cases ac with
 | fall=>exact h.of rfl (by show _ <= (σ.ev ++ [_]).length;rw [List.length_append];omega)
 | J7=>exact h
 | @die p hp h2 hA=>
   have sA:=X7 (s:=s) p σ;have:SD (ZF s p σ):=h.of sA.2.2.2.1 (by rw [sA.2.2.2.2.1,List.length_append];omega);unfold JI;split
   ·exact this
   ·split
    ·exact this
    ·exact this
 | @ZaS p q hp hq=>
   have e:=XT q p σ.sd (kK p q σ);have e2:=Zv5 q p σ.sd (kK p q σ);have e3:(kK p q σ).ev.length=σ.ev.length + 1:=by show(σ.ev ++ [_]).length=_;simp
   refine⟨?_,?_⟩
   ·rw [e.2.2.2.2.2.2.2];show 0 <=σ.sd + 1;have:=h.1;omega
   ·rw [e.2.2.2.2.2.2.2];show σ.sd + 1 <=_;have:=h.2;omega
 | @ZaR p q=>
   have e3:(kK p q σ).ev.length=σ.ev.length + 1:=by show(σ.ev ++ [_]).length=_;simp
   exact⟨by show 0 <=σ.sd + 1;have:=h.1;omega,by show σ.sd + 1 <= ((kK p q σ).ev.length:Int);have:=h.2;omega⟩
 | @ZaN p q=>
   have e:=Xc (s:=s) p q (tell 3 p q 0 σ);exact h.of e.2.2.2.2.1 (by rw [e.2.2.2.2.2];show _ <= (σ.ev ++ [_]).length;rw [List.length_append];omega)
 | ZaM=>exact h.of rfl (by show _ <= (σ.ev ++ [_]).length;rw [List.length_append];omega)
 | @Za0 a b p q=>exact h.of (XT q p (hd σ (li s a b)).n (drop1 (li s a b) σ)).2.2.2.2.2.2.2 (Zv5 q p (hd σ (li s a b)).n (drop1 (li s a b) σ))
 | @Za2 a b p q=>have e:=Xc (s:=s) p q (drop1 (li s a b) σ);exact h.of e.2.2.2.2.1 (by rw [e.2.2.2.2.2];exact Nat.le_refl _)
 | Zab=>exact h
 | KV=>exact h
 | Za1=>exact h
 | @ring w i=>
   refine h.of (Qq s w i σ).2.2.2.2.2.2.2 ?_;unfold rung;split
   ·show _ <= (σ.ev ++ [_]).length;rw [List.length_append];omega
   ·exact Nat.le_refl _
theorem Ok.acts (hS:Y8 s) (h:Ok s B σ) (ha:Qa s σ τ) {B':Nat} (g:Gd s B' τ):Ok s B' τ:=by
 have:=ha.keep (P:=fun σ=>P1 s σ∧P2 s σ∧KI s σ∧SD σ) (fun _ _ ⟨a,b,c,d⟩ ac=>⟨a.act hS ac,b.act hS ac,c.act hS b ac,d.act ac⟩) ⟨h.p1,h.p2,h.ki,h.sd⟩;exact⟨g,this.1,this.2.1,this.2.2.1,this.2.2.2⟩
theorem Ok.head (h:Ok s B σ) (ha:a < mm s) (hb:b < mm s) (hl:σ.ld (li s a b) < (σ.sn (li s a b)).length):ZAj s a b (hd σ (li s a b))∧Zpa s (hd σ (li s a b)) σ:=by
 have hx:=h.p1.lets a b ha hb _ (ZcH hl);refine⟨hx,fun hk=>?_⟩
 have hh:(σ.sn (li s a b))[σ.ld (li s a b)]? =some (hd σ (li s a b)):=by
  unfold hd;rw [List.getD_eq_getElem?_getD,List.getElem?_eq_getElem hl];rfl
 obtain⟨k,e1,e2,e3,e4⟩:=h.ki.k1 _ _ _ hh hk;rw [e1,Int.toNat_natCast];exact⟨e3,fun m=>absurd (e4.1 m) (Nat.lt_irrefl _)⟩
theorem Zk9 (h:Gd s B σ) (p q:Nat):Gd s (B + 1) (kK p q σ):=
 ⟨(Wf.tell (σ:= {σ with sd:=σ.sd + 1}) ⟨h.wf.pot,h.wf.ld,h.wf.ws⟩ 1 p q σ.sd),⟨h.kn.srt,h.kn.rng⟩⟩
theorem Zk4 (h:Gd s B σ) (d p q n:Int):Gd s (B + 1) (tell d p q n σ):= ⟨h.wf.tell d p q n,⟨h.kn.srt,h.kn.rng⟩⟩
theorem ZrH (h:Gd s B σ) (ha:a < mm s) (hb:b < mm s) (x:Zd):Gd s (B + 1 + ew x) (send s a b x σ):= ⟨h.wf.send ha hb x,⟨h.kn.srt,h.kn.rng⟩⟩
theorem ZhH (hS:Y8 s) (h:Ok s B σ) (hx:ZaI s x σ):Gd s (B + 4) (UG s x σ)∧Qa s σ (UG s x σ):=by
 unfold UG;rcases hx with⟨k,p,q,ep,eq,hp,hq,h1⟩ | ⟨k,p,q,ep,eq,hp,hq,h1⟩ | ⟨k,p,ep,hp,h1⟩ | ⟨k,a,b,ea,eb,ha,hb,hl⟩
 ·rw [if_pos k,ep,eq,Int.toNat_natCast,Int.toNat_natCast];by_cases e:pl s p=pl s q
  ·rw [if_pos e];exact⟨(Zv4 (Zk9 h.gd p q) q p σ.sd).up (by omega),.one (.ZaS hp hq h1 e)⟩
  ·rw [if_neg e];exact⟨(ZrH (Zk9 h.gd p q) (hS.pl hp).2 (hS.pl hq).2 _).up (by show B + 1 + 1 + 1 <=B + 4;omega),.one (.ZaR hp hq h1 e)⟩
 ·rw [if_neg (by omega),if_pos k,ep,eq,Int.toNat_natCast,Int.toNat_natCast];by_cases e:pl s p=pl s q
  ·rw [if_pos e];exact⟨(Zr6 hS (Zk4 h.gd 3 p q 0) hp hq).up (by omega),.one (.ZaN hp hq h1 e)⟩
  ·rw [if_neg e];exact⟨(ZrH (Zk4 h.gd 3 p q 0) (hS.pl hp).2 (hS.pl hq).2 _).up (by show B + 1 + 1 + 2 <=B + 4;omega),.one (.ZaM hp hq h1 e)⟩
 ·rw [if_neg (by omega),if_neg (by omega),if_pos k,ep,Int.toNat_natCast];exact⟨(ZlN hS _ _ _ _ hp (Ww.all hS.inn) h.gd h1).up (by omega),Zdk hS _ _ _ hp (Ww.all hS.inn) h1⟩
 ·rw [if_neg (by omega),if_neg (by omega),if_neg (by omega),ea,eb,Int.toNat_natCast,Int.toNat_natCast];obtain⟨hf,hD⟩:=h.head ha hb hl;exact⟨(ZnN hS h.gd ha hb hl hf.s hD).up (by omega),Zkr hS ha hb hl hf.s hD⟩
theorem Zun (hS:Y8 s) (h:Ok s B σ) (k:x.act=4) (hx:ZaI s x σ):Gd s B (UG s x σ):=by
 unfold UG;rcases hx with⟨k',_⟩ | ⟨k',_⟩ | ⟨k',_⟩ | ⟨_,a,b,ea,eb,ha,hb,hl⟩
 ·omega
 ·omega
 ·omega
 ·rw [if_neg (by omega),if_neg (by omega),if_neg (by omega),ea,eb,Int.toNat_natCast,Int.toNat_natCast];obtain⟨hf,hD⟩:=h.head ha hb hl;exact ZnN hS h.gd ha hb hl hf.s hD
theorem P1.ZJw (h:P1 s σ):BeA s σ:=fun w hw x hx=>(h.bea w hw x hx).1
theorem step_ok (hS:Y8 s) (h:Ok s B σ) (hx:ZaI s x σ):Ok s (B + 4) (stepW s x σ):=by
 obtain⟨g,ac⟩:=ZhH hS h hx;have o1:=h.acts hS ac g;exact o1.acts hS (Zbp (mm s) (Nat.le_refl _)) (Zh3 g o1.p1.ZJw (mm s) (Nat.le_refl _)).1
theorem ZvQ (hS:Y8 s) (h:Ok s B σ) (k:x.act=4) (hx:ZaI s x σ):Ok s B (stepW s x σ):=by
 have g:=Zun hS h k hx;have o1:=h.acts hS (ZhH hS h hx).2 g;exact o1.acts hS (Zbp (mm s) (Nat.le_refl _)) (Zh3 g o1.p1.ZJw (mm s) (Nat.le_refl _)).1
theorem ZfK (hS:Y8 s) (h:Ok s B σ) (hx:ZaI s x σ):Qa s σ (stepW s x σ):= (ZhH hS h hx).2.trans (Zbp (mm s) (Nat.le_refl _))
theorem Zpz (hF:1000000 <=F) (hS:Y8 s) (hB:B <=600000) (h:Gd s B σ) (hb:BeA s σ):ZbF F (WS s σ)=some (hal s (rings s (mm s) σ)):=by
 have h4:=hS.mm.2.2;unfold ZbF;rw [show WS s σ= (tab (nn s) σ.st,(tab (nn s) fun j=>tab (mm s * mm s) (σ.ma j)),tab (nn s) σ.kn,tab (nn s) σ.wa,tab (mm s) σ.be,tab (mm s * mm s) (lnk σ),σ.sd,s.qG,s.Zf,σ.ev) from rfl];dsimp only;refine Xf (fun k=>((k:Int),WS s (rings s k σ))) rfl (n:=mm s) (by omega) (fun k hk next=>?_) (fun next=>?_)
 ·obtain⟨g1,g2⟩:=Zh3 h hb k (by omega);have hl7:((rings s k σ).be k).length <=600000:=by have:=g1.wf.pot;have:=UQ (f:=fun m=>((rings s k σ).be m).length) hk;unfold Pot at *;omega
  unfold Zl0;rw [show WS s (rings s k σ)= (tab (nn s) (rings s k σ).st,(tab (nn s) fun j=>tab (mm s * mm s) ((rings s k σ).ma j)),tab (nn s) (rings s k σ).kn,tab (nn s) (rings s k σ).wa,tab (mm s) (rings s k σ).be,tab (mm s * mm s) (lnk (rings s k σ)),(rings s k σ).sd,s.qG,s.Zf,(rings s k σ).ev) from rfl];dsimp only;rw [ZfU hS hk,Cq1,Zlv];unfold ZCl;rw [show loop F (Zeq F (k:Int)) ((hal s (rings s k σ)).Za.qV,(hal s (rings s k σ)).Za.qX,(hal s (rings s k σ)).Za.qZ,(hal s (rings s k σ)).Za.Zm,(hal s (rings s k σ)).Za.Zu,(hal s (rings s k σ)).Za.kQ,(hal s (rings s k σ)).Za.kK,(hal s (rings s k σ)).qK.qG,(hal s (rings s k σ)).qK.Zf,(hal s (rings s k σ)).kU)=some (hal s (rings s (k + 1) σ)) from Ztu hF hS hB hk _ F (rings s k σ) (by omega) (Nat.le_refl _) g1 g2];simp only [Bq0];rw [Qw (by omega)];rfl
 ·unfold Zl0 WS;dsimp only;rw [Zlm hS,Cq0];rfl
theorem Zka (hF:1000000 <=F) (hS:Y8 s) (hB:B <=500000) (h:Ok s B σ) (hx:ZaI s x σ):Zug F (hal s σ) x=some (hal s (stepW s x σ)):=by
 obtain⟨g,ac⟩:=ZhH hS h hx;have o1:=h.acts hS ac g;have fin:=Zpz (F:=F) hF hS (by omega) g o1.p1.ZJw;unfold stepW;have fw:=h.gd.wf.few (by omega);have hsd:=h.sd;have hev:=fw.ev;unfold Zug;simp only [Xg];unfold UG at fin ⊢;rcases hx with⟨k,p,q,ep,eq,hp,hq,h1⟩ | ⟨k,p,q,ep,eq,hp,hq,h1⟩ | ⟨k,p,ep,hp,h1⟩ | ⟨k,a,b,ea,eb,ha,hb,hl⟩
 ·rw [if_pos k,ep,eq,Int.toNat_natCast,Int.toNat_natCast] at fin ⊢;have es:YB (σ.sd + 1)=σ.sd + 1:=Wm (by have:=hsd.1;omega) (by have:=hsd.2;omega);rw [decide_eq_true k,Cq1,show(hal s σ).Za.kK=σ.sd from rfl,Kz fw];simp only [Bq0]
  have e5:ZC.mk (Zh.mk (hal s (tell 1 p q σ.sd σ)).Za.qV (hal s (tell 1 p q σ.sd σ)).Za.qX (hal s (tell 1 p q σ.sd σ)).Za.qZ (hal s (tell 1 p q σ.sd σ)).Za.Zm (hal s (tell 1 p q σ.sd σ)).Za.Zu (hal s (tell 1 p q σ.sd σ)).Za.kQ (YB ((hal s (tell 1 p q σ.sd σ)).Za.kK + 1))) (hal s (tell 1 p q σ.sd σ)).qK (hal s (tell 1 p q σ.sd σ)).kU=hal s (kK p q σ):=by
   rw [show(hal s (tell 1 p q σ.sd σ)).Za.kK=σ.sd from rfl,es];rfl
  have gs:=Zk9 h.gd p q;rw [e5,U2 hS hp,U2 hS hq];simp only [Bq0];rw [show decide (((pl s p:Nat):Int)= ((pl s q:Nat):Int))=decide (pl s p=pl s q) by rw [← Xg];exact Zdo _ _];by_cases e:pl s p=pl s q
  ·rw [if_pos e] at fin ⊢;rw [decide_eq_true e,Cq1,Zne (gs.wf.few (by omega)) rfl hq];exact fin
  ·rw [if_neg e] at fin ⊢;rw [decide_eq_false e,Cq0,ZaQ hS (gs.wf.few (by omega)) (hS.pl hp).2 (hS.pl hq).2];exact fin
 ·rw [if_neg (by omega),if_pos k,ep,eq,Int.toNat_natCast,Int.toNat_natCast] at fin ⊢;rw [decide_eq_false (by omega),Cq0,decide_eq_true k,Cq1,Kz fw];simp only [Bq0];have gs:=Zk4 h.gd 3 p q 0;rw [U2 hS hp,U2 hS hq];simp only [Bq0];rw [show decide (((pl s p:Nat):Int)= ((pl s q:Nat):Int))=decide (pl s p=pl s q) by rw [← Xg];exact Zdo _ _];by_cases e:pl s p=pl s q
  ·rw [if_pos e] at fin ⊢;rw [decide_eq_true e,Cq1,Zko hS (gs.wf.few (by omega)) rfl rfl hp hq];exact fin
  ·rw [if_neg e] at fin ⊢;rw [decide_eq_false e,Cq0,ZaQ hS (gs.wf.few (by omega)) (hS.pl hp).2 (hS.pl hq).2];exact fin
 ·rw [if_neg (by omega),if_neg (by omega),if_pos k,ep,Int.toNat_natCast] at fin ⊢;rw [decide_eq_false (by omega),Cq0,decide_eq_false (by omega),Cq0,decide_eq_true k,Cq1];unfold ZyY;have h8:nn s <=8:=hS.p2;rw [Zkx hF hS (nn s) _ _ F _ (by omega) hp (Ww.all hS.inn) h.gd (by omega) h1];exact fin
 ·rw [if_neg (by omega),if_neg (by omega),if_neg (by omega),ea,eb,Int.toNat_natCast,Int.toNat_natCast] at fin ⊢;obtain⟨hf,hD⟩:=h.head ha hb hl;rw [decide_eq_false (by omega),Cq0,decide_eq_false (by omega),Cq0,decide_eq_false (by omega),Cq0,decide_eq_true k,Cq1,ZtU hF hS h.gd (by omega) ha hb hl hf.s hD];exact fin
end
end
section
section
variable {s:Zb} {σ τ υ:TS} {F B a b p q w i n d:Nat} {x:ZE}
theorem Zlf {z:Int} (h:¬ ∃ k:Nat,z= (k:Int)∧k < nn s):(decide (z >=0) && decide (z < (s.Zf.length:Int)))=false:=Bool.eq_false_iff.2 fun e=>h ((Zkk s z).1 e)
theorem ZRi (h:σ.ld i <= (σ.sn i).length):decide (((lnk σ i).kG.length:Int) > 0)=decide (σ.ld i < (σ.sn i).length):=by
 have e:(lnk σ i).kG.length= (σ.sn i).length - σ.ld i:=by show((σ.sn i).drop (σ.ld i)).length=_;rw [List.length_drop]
 rw [e];congr 1;rw [eq_iff_iff];omega
theorem ZeW (hS:Y8 s) {z:Int}:(0 <=z∧z < s.qG)↔∃ k:Nat,z= (k:Int)∧k < mm s:=by
 rw [hS.mm.1]
 constructor
 ·rintro⟨h1,h2⟩;exact⟨z.toNat,by omega,by omega⟩
 ·rintro⟨k,rfl,h⟩;omega
theorem ZmF (hS:Y8 s) (h:Ok s B σ):Zy1 (hal s σ) x=ifc (ZaI s x σ) (some true) (some false):=by
 unfold Zy1 ZiS;rw [show(hal s σ).qK=s from rfl];simp only [Bq0]
 obtain⟨L,v,eL,hL⟩:∃ (L:Bool) (v:Int),((gd (decide (x.a >=0) && decide (x.a < (s.Zf.length:Int))) (ZM (hal s σ).Za.qV x.a) default)=some v∧(((decide (x.a >=0) && decide (x.a < (s.Zf.length:Int))) && (v==1))=L))∧(L=true↔∃ p:Nat,x.a= (p:Int)∧p < nn s∧σ.st p=1):=by
  by_cases hp:∃ p:Nat,x.a= (p:Int)∧p < nn s
  ·obtain⟨p,ep,hp⟩:=hp;refine⟨decide (σ.st p=1),σ.st p,⟨?_,?_⟩,?_⟩
   ·rw [ep,Zhq hp,UY];exact Yw hp
   ·rw [ep,Zhq hp,Bool.true_and,Xg]
   ·rw [decide_eq_true_eq]
    constructor
    ·exact fun z=>⟨p,ep,hp,z⟩
    ·rintro⟨p',e,_,z⟩;have:p'=p:=by omega
     subst this;exact z
  ·refine⟨false,default,⟨by rw [Zlf hp];rfl,by rw [Zlf hp];rfl⟩,?_⟩
   constructor
   ·intro z;cases z
   ·rintro⟨p,e,h1,_⟩;exact absurd ⟨p,e,h1⟩ hp
 rw [eL.1];simp only [Bq0]
 have j:∀ v13:Bool,(v13=true↔x.act=1∨x.act=2) ->Zge (hal s σ) x (decide (x.a >=0) && decide (x.a < (s.Zf.length:Int))) v v13=ifc (ZaI s x σ) (some true) (some false):=fun v13 hv=>by
  unfold Zge;rw [eL.2];by_cases k12:x.act=1∨x.act=2
  ·rw [hv.2 k12,Cq1];unfold ZiS;rw [show(hal s σ).qK=s from rfl];cases hLb:L with
   | false=>
     rw [Za5];simp only [Bq0,Bool.false_and];have:¬ ∃ p:Nat,x.a= (p:Int)∧p < nn s∧σ.st p=1:=fun z=>by have:=hL.2 z;rw [hLb] at this;cases this
     rw [ZG];rintro(⟨_,p,q,e1,_,h1,_,z⟩ | ⟨_,p,q,e1,_,h1,_,z⟩ | ⟨_,p,e1,h1,z⟩ | ⟨k',_⟩)
     ·exact this ⟨p,e1,h1,z⟩
     ·exact this ⟨p,e1,h1,z⟩
     ·exact this ⟨p,e1,h1,z⟩
     ·omega
   | true=>
     rw [UY];simp only [Bq0,Bool.true_and];obtain⟨p,ep,hp,h1⟩:=hL.1 hLb;by_cases hq:∃ q:Nat,x.b= (q:Int)∧q < nn s
     ·obtain⟨q,eq,hq⟩:=hq;rw [eq,Zhq hq,ZH];rcases k12 with k | k
      ·exact .inl ⟨k,p,q,ep,eq,hp,hq,h1⟩
      ·exact .inr (.inl ⟨k,p,q,ep,eq,hp,hq,h1⟩)
     ·rw [Zlf hq,ZG];rintro(⟨_,p',q,_,e1,_,z,_⟩ | ⟨_,p',q,_,e1,_,z,_⟩ | ⟨k',_⟩ | ⟨k',_⟩)
      ·exact hq ⟨q,e1,z⟩
      ·exact hq ⟨q,e1,z⟩
      ·omega
      ·omega
  ·have:v13=false:=Bool.eq_false_iff.2 fun z=>k12 (hv.1 z)
   rw [this,Cq0,Xg,Xg];by_cases k3:x.act=3
   ·rw [decide_eq_true k3,Cq1];cases hLb:L with
    | false=>
      have:¬ ∃ p:Nat,x.a= (p:Int)∧p < nn s∧σ.st p=1:=fun z=>by have:=hL.2 z;rw [hLb] at this;cases this
      rw [ZG];rintro(⟨k',_⟩ | ⟨k',_⟩ | ⟨_,p,e1,h1,z⟩ | ⟨k',_⟩)
      ·omega
      ·omega
      ·exact this ⟨p,e1,h1,z⟩
      ·omega
    | true=>
      obtain⟨p,ep,hp,h1⟩:=hL.1 hLb;rw [ZH (.inr (.inr (.inl ⟨k3,p,ep,hp,h1⟩)))]
   ·rw [decide_eq_false k3,Cq0];by_cases k4:x.act=4
    ·rw [decide_eq_true k4,Cq1,show(hal s σ).qK.qG=s.qG from rfl];by_cases hr:((0 <=x.a∧x.a < s.qG)∧(0 <=x.b∧x.b < s.qG))∧x.a ≠ x.b
     ·have:((decide ((if x.b < x.a then x.b else x.a) >=0)) && (decide ((if x.b > x.a then x.b else x.a) < s.qG)) && (x.a !=x.b))=true:=by
       rw [ZbK,decide_eq_true hr.2,decide_eq_true (by split <;> omega),decide_eq_true (by split <;> omega)];rfl
      rw [this,Cq1];obtain⟨a,ea,ha⟩:= (ZeW hS).1 hr.1.1;obtain⟨b,eb,hb⟩:= (ZeW hS).1 hr.1.2;have hi:=Jj ha hb;rw [ea,eb,ZcD hS ha hb,show(hal s σ).Za.kQ=tab (mm s * mm s) (lnk σ) from rfl,Yw hi];simp only [Bq0];rw [ZRi (h.p2.ld _)];by_cases hl:σ.ld (li s a b) < (σ.sn (li s a b)).length
      ·rw [decide_eq_true hl,ZH (.inr (.inr (.inr ⟨k4,a,b,ea,eb,ha,hb,hl⟩)))]
      ·rw [decide_eq_false hl,ZG];rintro(⟨k',_⟩ | ⟨k',_⟩ | ⟨k',_⟩ | ⟨_,a',b',e1,e2,_,_,h'⟩)
       ·omega
       ·omega
       ·omega
       ·have:a'=a:=by omega
        have:b'=b:=by omega
        subst a' b';exact hl h'
     ·have:((decide ((if x.b < x.a then x.b else x.a) >=0)) && (decide ((if x.b > x.a then x.b else x.a) < s.qG)) && (x.a !=x.b))=false:=by
       rw [Bool.eq_false_iff];intro z;rw [Ba0,Ba0,decide_eq_true_eq,decide_eq_true_eq,ZbK,decide_eq_true_eq] at z;obtain⟨⟨z1,z2⟩,z3⟩:=z;split at z1 <;> split at z2 <;> (apply hr;omega)
      rw [this,Cq0,ZG];rintro(⟨k',_⟩ | ⟨k',_⟩ | ⟨k',_⟩ | ⟨_,a',b',e1,e2,h1,h2,h'⟩)
      ·omega
      ·omega
      ·omega
      ·refine hr ⟨⟨(ZeW hS).2 ⟨a',e1,h1⟩,(ZeW hS).2 ⟨b',e2,h2⟩⟩,fun z=>?_⟩;have:a'=b':=by omega
       subst this;rw [h.p1.self a' h1] at h';simp at h'
    ·rw [decide_eq_false k4,Cq0,ZG];rintro(⟨k',_⟩ | ⟨k',_⟩ | ⟨k',_⟩ | ⟨k',_⟩)
     ·omega
     ·omega
     ·omega
     ·omega
 rw [Xg];by_cases k1:x.act=1
 ·rw [decide_eq_true k1,Cq1];exact j true ⟨fun _=>.inl k1,fun _=>rfl⟩
 ·rw [decide_eq_false k1,Cq0,Xg];exact j _ ⟨fun z=>.inr (of_decide_eq_true z),fun z=>decide_eq_true (z.resolve_left k1)⟩
end
end
section
def ts0:TS:= ⟨fun _=>1,fun _ _=>0,fun _=>[],fun _=>[],fun _=>[],fun _=>[],fun _=>0,0,[]⟩
noncomputable def Yg (s:Zb) (l:List ZE):Nat ->TS×List Int
 | 0=>(ts0,[])
 | k + 1=>ifc (ZaI s (l.getD k default) (Yg s l k).1) (stepW s (l.getD k default) (Yg s l k).1,(Yg s l k).2 ++ [(k:Int)]) (Yg s l k)
section
variable {s:Zb} {σ τ υ:TS} {F B a b p q w i n d k:Nat} {l:List ZE}
theorem ZDS (hS:Y8 s):YB (s.qG * s.qG)= ((mm s * mm s:Nat):Int):=by
 obtain⟨e,h1,h4⟩:=hS.mm;have h16:=Zik hS;rw [e,← Int.natCast_mul];exact Wm (by omega) (by omega)
theorem Zll {α:Type} (z:α) {Jl n:Nat} (h:Jl * n <=100000):mkL z Jl (n:Int) (n:Int)=some (tab n fun _=>z):=by
 unfold mkL;rw [decide_eq_true (show(0:Int) <= (n:Int) by omega),decide_eq_true (show(n:Int) <= (n:Int) by omega),Int.toNat_natCast,Nm0 h,ZA2];rfl
theorem Zjf (hF:1000 <=F) (hS:Y8 s):Zui F s=some (hal s ts0):=by
 have h8:nn s <=8:=hS.p2;obtain⟨em,h1,h4⟩:=hS.mm;have h16:=Zik hS;unfold Zui;refine Xf (fun k=>((k:Int),tab k (fun _=>(1:Int)),tab k (fun _=>tab (mm s * mm s) fun _=>(0:Int)),tab k (fun _=>([]:List Int)),tab k (fun _=>([]:List Int)))) rfl (n:=nn s) (by omega) (fun k hk next=>?_) (fun next=>?_)
 ·unfold Zl2;dsimp only;rw [show((s.Zf.length:Nat):Int)= ((nn s:Nat):Int) from rfl,YQ hk,Cq1,app1 (by rw [Qp];omega) (by decide)];simp only [Bq0];rw [ZDS hS,Zll _ (by omega)];simp only [Bq0];rw [app1 (by rw [Qp];omega) (by decide)];simp only [Bq0];rw [app1 (by rw [Qp];omega) (by decide)];simp only [Bq0];rw [Qw (by omega),ZhP,ZhP,ZhP]
 ·unfold Zl2;dsimp only;rw [show((s.Zf.length:Nat):Int)= ((nn s:Nat):Int) from rfl,Y2,Cq0,ZDS hS];have e1:mkL ([]:List Zd) 24 s.qG s.qG=some (tab (mm s) fun _=>[]):=by rw [em];exact Zll _ (by omega)
  rw [e1];simp only [Bq0];rw [Zll _ (by omega)];rfl
theorem ZaP {n:Nat} {f:Nat ->Nat} (h:∀ k,k < n ->f k=0):Y7 n f=0:=by rw [Jr (g:=fun _=>0) h,JO];simp
theorem ZRb (s:Zb):Pot s ts0=11 * nn s:=by
 have e1:Y7 (mm s * mm s) (lw ts0)=0:=ZaP fun k _=>rfl
 have e2:Y7 (mm s) (fun m=>(ts0.be m).length)=0:=ZaP fun k _=>rfl
 have e3:Y7 (nn s) (fun q=>2 * (ts0.wa q).length)=0:=ZaP fun k _=>rfl
 have e4:Y7 (nn s) (fun p=>sw (ts0.st p))=nn s * 11:= (Jr (g:=fun _=>11) fun k _=>rfl).trans (JO _ _);unfold Pot;rw [e1,e2,e3,e4];show 0 + 0 + 0 + 0 + nn s * 11=_;omega
theorem ok0 (hS:Y8 s):Ok s 88 ts0:=by
 have h8:nn s <=8:=hS.p2;have nil:∀ {α:Type} (x:α),¬ x ∈ ([]:List α):=fun x h=>by cases h
 have no3:∀ p,¬ ts0.st p=3:=fun p h=>absurd h (by show ¬ ((1:Int)=3);decide)
 have kn:Kn s ts0:= ⟨fun q _=>List.Pairwise.nil,fun q _ x hx=>absurd hx (nil x)⟩
 have k1:KI s ts0:= ⟨fun i j x hx _=>by simp [ts0] at hx,fun i i' j j' x x' hx _ _ _ _=>by simp [ts0] at hx,fun p _ h=>absurd h (no3 p),fun p _ h=>absurd h (no3 p)⟩
 have w:Wf s 88 ts0:= ⟨by rw [ZRb];omega,fun i _=>Nat.le_refl _,fun q _ x hx=>absurd hx (nil x)⟩
 exact⟨⟨w,kn⟩,⟨fun a b _ _ x hx=>absurd hx (nil x),fun a _=>rfl,fun w _ x hx=>absurd hx (nil x),fun q _ x hx=>absurd hx (nil x)⟩,⟨fun i=>Nat.le_refl _,kn⟩,k1,⟨Int.le_refl _,Int.le_refl _⟩⟩
theorem Wy (hS:Y8 s):∀ k,Ok s (88 + 4 * k) (Yg s l k).1∧(Yg s l k).2.length <=k∧Qa s ts0 (Yg s l k).1:=by
 intro k
 induction k with
 | zero=>exact⟨ok0 hS,Nat.le_refl _,.refl⟩
 | succ k ih=>
   obtain⟨h1,h2,h3⟩:=ih;rw [Yg];by_cases hA:ZaI s (l.getD k default) (Yg s l k).1
   ·rw [ZH hA];refine⟨?_,by rw [List.length_append,List.length_singleton];omega,h3.trans (ZfK hS h1 hA)⟩;have:=step_ok hS h1 hA;exact⟨this.gd.up (by omega),this.p1,this.p2,this.ki,this.sd⟩
   ·rw [ZG hA];exact⟨⟨h1.gd.up (by omega),h1.p1,h1.p2,h1.ki,h1.sd⟩,by omega,h3⟩
theorem Zkj (hF:1000000 <=F) (hS:Y8 s) (hl:l.length <=100):Zuh F (hal s ts0) l=some (hal s (Yg s l l.length).1,(Yg s l l.length).2):=by
 unfold Zuh;refine Xf (fun k=>((Yg s l k).2,(k:Int),WS s (Yg s l k).1)) rfl (n:=l.length) (by omega) (fun k hk next=>?_) (fun next=>?_)
 ·obtain⟨h1,h2,_⟩:=Wy (l:=l) hS k;rw [Yg];obtain⟨σ,hσ⟩:∃ σ,σ= (Yg s l k).1:= ⟨_,rfl⟩
  obtain⟨dn,hd⟩:∃ dn,dn= (Yg s l k).2:= ⟨_,rfl⟩
  rw [← hd] at h2;rw [← hσ] at h1 ⊢;unfold Zl1;rw [show WS s σ= (tab (nn s) σ.st,(tab (nn s) fun j=>tab (mm s * mm s) (σ.ma j)),tab (nn s) σ.kn,tab (nn s) σ.wa,tab (mm s) σ.be,tab (mm s * mm s) (lnk σ),σ.sd,s.qG,s.Zf,σ.ev) from rfl];dsimp only;rw [YQ hk,Cq1,Qf default hk];simp only [Bq0];rw [Zlv,ZmF hS h1];by_cases hA:ZaI s (l.getD k default) σ
  ·rw [ZH hA,ZH hA];simp only [Bq0,Cq1];rw [Zka hF hS (by omega) h1 hA];simp only [Bq0];rw [← hd,Zrb (by rw [List.length_singleton];omega)];simp only [Bq0];unfold Zgf;dsimp only;rw [Qw (by omega)];rfl
  ·rw [ZG hA,ZG hA];simp only [Bq0,Cq0];unfold Zgf;dsimp only;rw [Qw (by omega),← hσ];rfl
 ·unfold Zl1 WS;dsimp only;rw [Y2,Cq0];rfl
end
end
section
section
variable {s:Zb} {σ τ υ:TS} {F B a b p q w i n d k:Nat}
end
end
section
def opn (s:Zb) (σ:TS) (k:Nat):List Nat:= (List.range k).filter fun i=>decide (σ.ld i < (σ.sn i).length)
def opens (s:Zb) (σ:TS):List Nat:=opn s σ (mm s * mm s)
def Zie (ls:List Nat) (picks:List Int) (r:Nat):Nat:=if r < picks.length then ls.getD ((picks.getD r 0).toNat % ls.length) 0 else ls.getD 0 0
def ZeZ (s:Zb) (i:Nat):ZE:= ⟨4,((i / mm s:Nat):Int),((i % mm s:Nat):Int)⟩
noncomputable def drK (s:Zb) (picks:List Int) (σ:TS):Nat ->TS
 | 0=>σ
 | r + 1=>if opens s (drK s picks σ r)= [] then drK s picks σ r else stepW s (ZeZ s (Zie (opens s (drK s picks σ r)) picks r)) (drK s picks σ r)
section
variable {s:Zb} {σ τ υ:TS} {F B a b p q w i n d k r:Nat} {l:List ZE} {picks:List Int}
theorem ZhF:∀ (d p:Nat) (σ:TS),(Kc s d p σ).ld=σ.ld:=by
 intro d
 induction d with
 | zero=>intro p σ;rfl
 | succ d ih=>
   intro p σ;have e:= (X7 (s:=s) p σ).2.2.1;show(ZbG s (Kc s d) p (ZF s p σ)).ld=_;unfold ZbG;split
   ·exact e
   ·split
    ·unfold JC;by_cases c:(Z8 s p (Us s (ZF s p σ) p) (ZF s p σ)).st (inn s (p:Int)).toNat=2∧Alo s (Z8 s p (Us s (ZF s p σ) p) (ZF s p σ)) (inn s (p:Int)).toNat
     ·rw [ZH c,ih];exact e
     ·rw [ZG c];exact e
    ·exact e
theorem Zoc:∀ (d p:Nat) (σ:TS),(YC s d p σ).ld=σ.ld:=by
 intro d
 induction d with
 | zero=>intro p σ;rfl
 | succ d ih=>
   intro p σ
   have h:(fk s (YC s d) p (nn s) (YD p σ)).ld=σ.ld:=by
    refine QA _ (fun τ=>τ.ld=σ.ld) _ _ rfl fun τ x _ h=>?_
    unfold KW;split
    ·split
     ·rw [ih];exact h
     ·exact h
    ·split
     ·exact h
     ·exact h
   show(ZaF s p _).ld=_;unfold ZaF;by_cases c:(fk s (YC s d) p (nn s) (YD p σ)).st p=2∧Alo s (fk s (YC s d) p (nn s) (YD p σ)) p
   ·rw [ZH c,ZhF];exact h
   ·rw [ZG c];exact h
theorem Zxs:(Zao s a b σ).ld=ZT σ.ld (li s a b) (σ.ld (li s a b) + 1):=by
 unfold Zao Zd3;split
 ·rw [(XT _ _ _ _).2.2.2.1];rfl
 ·split
  ·rw [(Xc _ _ _).2.2.2.1];rfl
  ·split
   ·split
    ·rw [Zoc];rfl
    ·rfl
   ·split
    ·unfold ZaC JC;by_cases c:(Z8 s (hd σ (li s a b)).kV.toNat (hd σ (li s a b)).qX (drop1 (li s a b) σ)).st (inn s ((hd σ (li s a b)).kV.toNat:Int)).toNat=2∧Alo s (Z8 s (hd σ (li s a b)).kV.toNat (hd σ (li s a b)).qX (drop1 (li s a b) σ)) (inn s ((hd σ (li s a b)).kV.toNat:Int)).toNat
     ·rw [ZH c,ZhF];rfl
     ·rw [ZG c];rfl
    ·rfl
theorem Zwf (w:Nat):∀ (n:Nat) (σ:TS),(Wh s w n σ).ld=σ.ld:=by
 intro n
 induction n with
 | zero=>intro σ;rfl
 | succ n ih=>
   intro σ;rw [Wh];split
   ·rfl
   ·rw [ih,(Qq _ _ _ _).2.1]
theorem Zwd:∀ k,(rings s k σ).ld=σ.ld:=by
 intro k
 induction k with
 | zero=>rfl
 | succ k ih=>rw [rings,Zwf,ih]
theorem Zw1:opn s σ (k + 1)=opn s σ k ++ (if σ.ld k < (σ.sn k).length then [k] else []):=by
 unfold opn;rw [List.range_succ,List.filter_append];congr 1;by_cases h:σ.ld k < (σ.sn k).length
 ·rw [if_pos h];simp [h]
 ·rw [if_neg h];simp [h]
theorem ZBh:(opn s σ k).length <=k:=by
 have:=List.length_filter_le (fun i=>decide (σ.ld i < (σ.sn i).length)) (List.range k);rw [List.length_range] at this;exact this
theorem Zda:i ∈ opens s σ↔i < mm s * mm s∧σ.ld i < (σ.sn i).length:=by unfold opens opn;simp
theorem ZaW {ls:List Nat} (h:ls ≠ []):Zie ls picks r ∈ ls:=by
 have hl:0 < ls.length:=List.length_pos_iff.2 h;unfold Zie;split
 ·exact Xd (Nat.mod_lt _ hl)
 ·exact Xd hl
theorem ZbB (hS:Y8 s) (h:i ∈ opens s σ):ZaI s (ZeZ s i) σ:=by
 obtain⟨h1,h2⟩:=Zda.1 h;have hm:=hS.mm.2.1;obtain⟨_,h1',_⟩:=hS.mm;refine .inr (.inr (.inr ⟨rfl,i / mm s,i % mm s,rfl,rfl,Nat.div_lt_of_lt_mul h1,Nat.mod_lt _ (by omega),?_⟩));have:li s (i / mm s) (i % mm s)=i:=by unfold li;rw [Nat.mul_comm];exact Nat.div_add_mod _ _
 rw [this];exact h2
theorem Zxu (hS:Y8 s):(stepW s (ZeZ s i) σ).ld=ZT σ.ld i (σ.ld i + 1):=by
 have:li s (i / mm s) (i % mm s)=i:=by unfold li;rw [Nat.mul_comm];exact Nat.div_add_mod _ _
 unfold stepW;rw [Zwd];unfold UG ZeZ;rw [if_neg (show ¬ ((4:Int)=1) by decide),if_neg (show ¬ ((4:Int)=2) by decide),if_neg (show ¬ ((4:Int)=3) by decide),Int.toNat_natCast,Int.toNat_natCast,Zxs,this]
def lds (s:Zb) (σ:TS):Nat:=Y7 (mm s * mm s) σ.ld
theorem Zet (hS:Y8 s) (h:Ok s B σ):∀ r,Ok s B (drK s picks σ r)∧Qa s σ (drK s picks σ r):=by
 intro r
 induction r with
 | zero=>exact⟨h,.refl⟩
 | succ r ih=>
   rw [drK];by_cases e:opens s (drK s picks σ r)= []
   ·rw [if_pos e];exact ih
   ·rw [if_neg e];have hA:=ZbB (σ:=drK s picks σ r) hS (ZaW (picks:=picks) (r:=r) e);exact⟨ZvQ hS ih.1 rfl hA,ih.2.trans (ZfK hS ih.1 hA)⟩
theorem ZHa (h:Ok s B σ):lds s σ <=B:=by
 have h1:lds s σ <=Y7 (mm s * mm s) (lw σ):=Zhn fun k hk=>Nat.le_trans (h.gd.wf.ld k hk) (by unfold lw;omega)
 have:=h.gd.wf.pot;unfold Pot at this;omega
theorem ZsY (hS:Y8 s):∀ r,(∀ j,j < r ->opens s (drK s picks σ j) ≠ []) ->lds s (drK s picks σ r)=lds s σ + r:=by
 intro r
 induction r with
 | zero=>intro _;rfl
 | succ r ih=>
   intro hj;have e:=ih fun j hjr=>hj j (by omega)
   have hn:=hj r (by omega);rw [drK,if_neg hn];obtain⟨h1,_⟩:=Zda.1 (ZaW (picks:=picks) (r:=r) hn);unfold lds at *;rw [Zxu hS];have:=Zm6 (f:= (drK s picks σ r).ld) (v:= (drK s picks σ r).ld (Zie (opens s (drK s picks σ r)) picks r) + 1) h1;omega
theorem ZI1 (hS:Y8 s) (h:Ok s B σ) (picks:List Int):∃ n,n <=B∧opens s (drK s picks σ n)= []∧∀ j,j < n ->opens s (drK s picks σ j) ≠ []:=by
 by_cases hz:∃ n,n < B + 1∧opens s (drK s picks σ n)= []
 ·obtain⟨n,hn,e⟩:=hz;obtain⟨m,hm,c,hlt⟩:=KX (c:=fun i=>opens s (drK s picks σ i)= []) e;exact⟨m,by omega,c,hlt⟩
 ·have hall:∀ j,j < B + 1 ->opens s (drK s picks σ j) ≠ []:=fun j hj q=>hz ⟨j,hj,q⟩
  have:=ZsY (picks:=picks) (σ:=σ) hS (B + 1) hall;have:=ZHa (Zet (picks:=picks) hS h (B + 1)).1;omega
theorem ZBb {a b:Nat} (hb:0 < b) (ha:a <=1000000):Ztz (a:Int) (b:Int)=some ((a / b:Nat):Int):=by
 unfold Ztz;rw [beq_eq_false_iff_ne.2 (by omega),Cq0,← Int.ofNat_tdiv];have:=Nat.div_le_self a b;generalize a / b=q at *;exact congrArg some (Wm (by omega) (by omega))
theorem ZrM {a b:Nat} (hb:0 < b):Znm (a:Int) (b:Int)=some ((a % b:Nat):Int):=by
 unfold Znm;rw [beq_eq_false_iff_ne.2 (by omega),Cq0];rfl
theorem ZiD {l:List Nat} (h:k < l.length):ZM (l.map Int.ofNat) (k:Int)=some ((l.getD k 0:Nat):Int):=by
 rw [Qf 0 (by rw [List.length_map];exact h)];simp [List.getD_eq_getElem?_getD,h]
theorem Zw2 (hk:k < mm s * mm s) {β:Type} (next:List Int×Int ->Option β) {l1:List Int×Int ->Option β} (h16:mm s * mm s <=16) (hs:(σ.sn k).length <=800000)
 (e1:∀ v,l1 v=next v):
 ((ZM (tab (mm s * mm s) (lnk σ)) (k:Int)).bind fun x=>(bif decide ((x.kG.length:Int) > 0) then(app 8 ((opn s σ k).map Int.ofNat) [(k:Int)]).bind fun z=>l1 (z,YB ((k:Int) + 1)) else l1 ((opn s σ k).map Int.ofNat,YB ((k:Int) + 1))))=next ((opn s σ (k + 1)).map Int.ofNat,((k + 1:Nat):Int)):=by
 have hl:=ZBh (s:=s) (σ:=σ) (k:=k);rw [Yw hk];simp only [Bq0];rw [show(lnk σ k).kG= (σ.sn k).drop (σ.ld k) from rfl,List.length_drop,Zw1];by_cases c:σ.ld k < (σ.sn k).length
 ·rw [decide_eq_true (by omega),Cq1,Zrb (by rw [List.length_map,List.length_singleton];omega),if_pos c];simp only [Bq0];rw [e1,Qw (by omega),List.map_append];rfl
 ·rw [decide_eq_false (by omega),Cq0,if_neg c,e1,Qw (by omega),List.append_nil]
theorem Zh1 (hF:1000000 <=F) (hS:Y8 s) (h:Ok s B σ) (hB:B <=500000) (hr:r <=500000) (hp:∀ x ∈ picks,0 <=x) (hpl:picks.length <=100) (next:_ ->Option (Zh×(List Zg)×Int×Int)):
 Zgj F s picks ((r:Int),WS s σ) next=if opens s σ= [] then some (vw s σ,σ.ev,(r:Int),0) else next (((r + 1:Nat):Int),WS s (stepW s (ZeZ s (Zie (opens s σ) picks r)) σ)):=by
 have h16:=Zik hS;obtain⟨em,h1,h4⟩:=hS.mm;have fw:=h.gd.wf.few (by omega);unfold Zgj WS;dsimp only;refine Xf (fun k=>((opn s σ k).map Int.ofNat,(k:Int))) rfl (n:=mm s * mm s) (by omega) (fun k hk nx=>?_) (fun nx=>?_)
 ·unfold Zma;dsimp only;rw [Qp,YQ hk,Cq1];exact Zw2 hk nx h16 (fw.sn k hk) (l1:=fun v=>nx v) fun v=>rfl
 ·unfold Zma;dsimp only;rw [Qp,Y2,Cq0,List.length_map];show(bif((((opens s σ).length:Nat):Int)==0) then _ else(ZM ((opens s σ).map Int.ofNat) 0).bind _)=_;by_cases e:opens s σ= []
  ·rw [if_pos e,e];rfl
  ·have hl:0 < (opens s σ).length:=List.length_pos_iff.2 e;rw [if_neg e,beq_eq_false_iff_ne.2 (by omega),Cq0,show(0:Int)= ((0:Nat):Int) from rfl,ZiD hl];simp only [Bq0];have hm:=ZaW (picks:=picks) (r:=r) e
   have go:∀ v:Nat,v ∈ opens s σ ->Zgi F s (r:Int) (tab (nn s) σ.st) (tab (nn s) fun j=>tab (mm s * mm s) (σ.ma j)) (tab (nn s) σ.kn) (tab (nn s) σ.wa) (tab (mm s) σ.be) (tab (mm s * mm s) (lnk σ)) σ.sd s.qG s.Zf σ.ev next (v:Int)=next (((r + 1:Nat):Int),WS s (stepW s (ZeZ s v) σ)):=fun v hv=>by
    have hv1:= (Zda.1 hv).1;unfold Zgi;rw [em,ZBb (by omega) (by omega),ZrM (by omega)];simp only [Bq0];rw [← em,Zlv,show ZE.mk 4 ((v / mm s:Nat):Int) ((v % mm s:Nat):Int)=ZeZ s v from rfl,Zka hF hS hB h (ZbB hS hv)];simp only [Bq0];rw [Qw (by omega)];rfl
   by_cases c:r < picks.length
   ·rw [YQ c,Cq1,Qf 0 c];simp only [Bq0];have h0:=hp _ (Xd (d:=0) c);obtain⟨y,hy⟩:∃ y:Nat,picks.getD r 0= (y:Int):= ⟨(picks.getD r 0).toNat,by omega⟩
    show(Znm (picks.getD r 0) (((opens s σ).length:Nat):Int)).bind _=_;unfold Zie at hm ⊢;rw [if_pos c] at hm ⊢;rw [hy] at hm ⊢;rw [Int.toNat_natCast] at hm ⊢;rw [ZrM hl];simp only [Bq0];show(ZM ((opens s σ).map Int.ofNat) _).bind _=_;rw [ZiD (Nat.mod_lt _ hl)];simp only [Bq0];exact go _ hm
   ·rw [show decide ((r:Int) < (picks.length:Int))=false from decide_eq_false (by omega),Cq0];unfold Zie at hm ⊢;rw [if_neg c] at hm ⊢;exact go _ hm
end
end
section
section
variable {s:Zb} {σ τ υ:TS} {F B a b p q w i n d k r:Nat} {l:List ZE} {picks:List Int}
theorem ZQH {k:Nat} (h:k < 9223372036854775807):YB ((k:Int) + 1)= ((k + 1:Nat):Int):=Wm (by omega) (by omega)
theorem ZtF (hF:picks.length < F) (hl:picks.length <=9223372036854775807):ZqF F picks=ifc (∀ k,k < picks.length ->0 <=picks.getD k 0) (some (decide ((picks.length:Int) <=100))) (some false):=by
 unfold ZqF;refine Zan (fun k=>(k:Int)) rfl (fun k=>0 <=picks.getD k 0) (n:=picks.length) (by omega) (fun k hk next=>?_) (fun next=>?_)
 ·unfold Zl7;rw [YQ hk,Cq1,Qf 0 hk];simp only [Bq0];by_cases c:0 <=picks.getD k 0
  ·rw [ZH c,decide_eq_false (by omega),Cq0,ZQH (by omega)]
  ·rw [ZG c,decide_eq_true (by omega),Cq1]
 ·unfold Zl7;rw [Y2,Cq0]
theorem ZoY:(∀ k,k < picks.length ->0 <=picks.getD k 0)↔∀ x ∈ picks,0 <=x:=by
 constructor
 ·intro h x hx;obtain⟨k,hk,e⟩:=List.getElem_of_mem hx;have:=h k hk;rw [List.getD_eq_getElem?_getD,List.getElem?_eq_getElem hk] at this;rw [← e];exact this
 ·intro h k hk;exact h _ (Xd hk)
noncomputable def Jt (s:Zb) (l:List ZE) (picks:List Int) (n:Nat):TS:=drK s picks (Yg s l l.length).1 n
theorem ZqL (hF:1000000 <=F) (hS:Y8 s) (hl:l.length <=100) (hp:∀ x ∈ picks,0 <=x) (hpl:picks.length <=100) {n:Nat} (hn:n <=500000) (he:opens s (Jt s l picks n)= []) (hj:∀ j,j < n ->opens s (Jt s l picks j) ≠ []):
 Zzc F s l picks=some (vw s (Jt s l picks n),(Jt s l picks n).ev,(n:Int),0):=by
 obtain⟨ok,dl,_⟩:=Wy (l:=l) hS l.length;unfold Zzc;rw [Zev (by omega),ZH hS];simp only [Bq0,Zam,Bool.false_or];rw [decide_eq_false (by omega),decide_eq_false (by omega)];simp only [Bool.or_self,Bool.not_false,Cq1];refine Xf (fun k=>(k:Int)) rfl (n:=picks.length) (by omega) (fun k hk next=>?_) (fun next=>?_)
 ·unfold Zl9 ZCn;rw [YQ hk,Cq1,Qf 0 hk];simp only [Bq0];rw [decide_eq_false (by have:=hp _ (Xd (d:=0) hk);omega),Cq0,Qw (by omega)]
 ·unfold Zl9;rw [Y2,Cq0];unfold ZiX;rw [show decide ((-1:Int) >=0)=false from rfl,Cq0,Zjf (by omega) hS];simp only [Bq0];rw [Zkj hF hS hl];simp only [Bq0];refine Xf (fun k=>((k:Int),WS s (Jt s l picks k))) rfl (n:=n) (by omega) (fun k hk next=>?_) (fun next=>?_)
  ·have o:= (Zet (picks:=picks) hS ok k).1;show Zgj F s picks ((k:Int),WS s (drK s picks (Yg s l l.length).1 k)) next=_;rw [Zh1 hF hS o (by omega) (by omega) hp hpl,if_neg (show ¬ opens s (drK s picks (Yg s l l.length).1 k)= [] from hj k hk)];have:=hj k hk;unfold Jt at *;rw [drK,if_neg this]
  ·have o:= (Zet (picks:=picks) hS ok n).1;show Zgj F s picks ((n:Int),WS s (drK s picks (Yg s l l.length).1 n)) next=_;rw [Zh1 hF hS o (by omega) (by omega) hp hpl,if_pos (show opens s (drK s picks (Yg s l l.length).1 n)= [] from he)];rfl
theorem ZCB (hS:Y8 s) (hl:l.length <=100) (picks:List Int):∃ n,n <=488∧opens s (Jt s l picks n)= []∧(∀ j,j < n ->opens s (Jt s l picks j) ≠ [])∧Ok s 488 (Jt s l picks n)∧Qa s ts0 (Jt s l picks n)∧Qa s (Yg s l l.length).1 (Jt s l picks n)∧lds s (Jt s l picks n)=lds s (Yg s l l.length).1 + n:=by
 obtain⟨ok,dl,ac⟩:=Wy (l:=l) hS l.length;have ok:Ok s 488 (Yg s l l.length).1:= ⟨ok.gd.up (by omega),ok.p1,ok.p2,ok.ki,ok.sd⟩
 obtain⟨n,h1,h2,h3⟩:=ZI1 hS ok picks;obtain⟨o,a⟩:=Zet (picks:=picks) hS ok n;exact⟨n,h1,h2,h3,o,ac.trans a,a,ZsY hS n h3⟩
end
end
section
def ZPZ (s:Zb) (e:Zg):Prop:= (∃ p:Nat,e.kV= (p:Int)∧p < nn s)∧(∃ q:Nat,e.kX= (q:Int)∧q < nn s)
def EvR (s:Zb) (σ:TS):Prop:=∀ e ∈ σ.ev,ZPZ s e
section
variable {s:Zb} {σ τ υ:TS} {F B a b p q w i n d k r:Nat} {l:List ZE} {picks:List Int} {x:Zd}
theorem EvR.add (h:EvR s σ) {e:Zg} (he:ZPZ s e) (ht:τ.ev=σ.ev ++ [e]):EvR s τ:=fun y hy=>by
 rw [ht] at hy;rcases List.mem_append.1 hy with hy | hy
 ·exact h y hy
 ·rw [List.mem_singleton.1 hy];exact he
theorem EvR.congr (h:EvR s σ) (ht:τ.ev=σ.ev):EvR s τ:=fun y hy=>h y (by rwa [ht] at hy)
theorem EvR.see (h:EvR s σ) (hp:p < nn s) (hq:q < nn s) (n:Int):EvR s (Proofs.YtcnahmgekicbdaaGreat.see p q n σ):=by
 unfold Proofs.YtcnahmgekicbdaaGreat.see;split
 ·exact h.add ⟨⟨p,rfl,hp⟩,⟨q,rfl,hq⟩⟩ rfl
 ·exact h
theorem EvR.act (hS:Y8 s) (h1:P1 s σ) (h:EvR s σ) (ac:Act s σ τ):EvR s τ:=by
 cases ac with
 | @fall p hp=>exact h.add ⟨⟨p,rfl,hp⟩,⟨0,rfl,by omega⟩⟩ rfl
 | J7=>exact h
 | @die p hp h2 hA=>
   have:EvR s (ZF s p σ):=h.add ⟨⟨p,rfl,hp⟩,⟨0,rfl,by omega⟩⟩ (X7 (s:=s) p σ).2.2.2.2.1;unfold JI;split
   ·exact this
   ·split
    ·exact this
    ·exact this
 | @ZaS p q hp hq=>exact EvR.see (h.add (τ:=kK p q σ) (e:= ⟨1,p,q,σ.sd⟩) ⟨⟨p,rfl,hp⟩,⟨q,rfl,hq⟩⟩ rfl) hq hp _
 | @ZaR p q hp hq=>exact h.add (τ:=kK p q σ) (e:= ⟨1,p,q,σ.sd⟩) ⟨⟨p,rfl,hp⟩,⟨q,rfl,hq⟩⟩ rfl
 | @ZaN p q hp hq=>exact(h.add (τ:=tell 3 p q 0 σ) (e:= ⟨3,p,q,0⟩) ⟨⟨p,rfl,hp⟩,⟨q,rfl,hq⟩⟩ rfl).congr (Xc (s:=s) p q (tell 3 p q 0 σ)).2.2.2.2.2
 | @ZaM p q hp hq=>exact h.add (τ:=tell 3 p q 0 σ) (e:= ⟨3,p,q,0⟩) ⟨⟨p,rfl,hp⟩,⟨q,rfl,hq⟩⟩ rfl
 | Za0 ha hb hl hk hp hq hpn JL=>exact EvR.see (σ:=drop1 _ σ) h JL hpn _
 | @Za2 a b p q ha hb hl hk hp hq hpn JL=>exact h.congr (Xc (s:=s) p q (drop1 (li s a b) σ)).2.2.2.2.2
 | Zab=>exact h
 | KV=>exact h
 | Za1=>exact h
 | @ring w i hw hpk=>
   have hm:=h1.bea w hw;unfold rung;split
   ·rename_i hst;have hi:i < (σ.be w).length:=Zc9 _ _ hpk;obtain⟨⟨⟨p,e1,h1'⟩,⟨q,e2,h2'⟩,_⟩,_⟩:=hm _ (Xd (d:=default) hi);exact h.add (τ:=tell 4 _ _ 0 _) (e:= ⟨4,((σ.be w).getD i default).kV,((σ.be w).getD i default).kX,0⟩) ⟨⟨p,e1,h1'⟩,⟨q,e2,h2'⟩⟩ rfl
   ·exact h
theorem Zzg (hS:Y8 s) (h:Qa s ts0 σ):EvR s σ:=by
 have h0:=ok0 hS;exact(h.keep (P:=fun σ=>P1 s σ∧EvR s σ) (fun _ _ ⟨a,b⟩ ac=>⟨a.act hS ac,b.act hS a ac⟩) ⟨h0.p1,fun e he=>absurd he (by simp [ts0])⟩).2
def Giv (s:Zb) (l:List ZE) (picks:List Int):Prop:=Y8 s∧l.length <=100∧(∀ x ∈ picks,0 <=x)∧picks.length <=100
theorem ZtG (hF:picks.length < F) (hl:picks.length <=9223372036854775807):ZqF F picks=ifc ((∀ x ∈ picks,0 <=x)∧picks.length <=100) (some true) (some false):=by
 rw [ZtF hF hl];by_cases c:∀ k,k < picks.length ->0 <=picks.getD k 0
 ·rw [ZH c];by_cases c2:picks.length <=100
  ·rw [ZH ⟨ZoY.1 c,c2⟩,decide_eq_true (by omega)]
  ·rw [ZG fun q=>c2 q.2,decide_eq_false (by omega)]
 ·rw [ZG c,ZG fun q=>c (ZoY.2 q.1)]
theorem ZyB (hF:1000000 <=F) {pp:List (List Int)} (hpp:pp.length <=100) (hl:∀ x ∈ pp,x.length < F∧x.length <=9223372036854775807):∃ g:Bool,Zzb F s l pp=some g∧(g=true ->∀ x ∈ pp,Giv s l x):=by
 have h:=Zan (body:=ZiW F s l pp) (r1:=some false) (r2:= (Zzf s).bind fun x18=>(gd x18 (ZqG F s) default).bind fun x19=>some ((x18 && x19) && (decide ((l.length:Int) <=100)))) (s0:= (0:Int)) (fun k=>(k:Int)) rfl (fun k=>(∀ x ∈ pp.getD k [],0 <=x)∧(pp.getD k []).length <=100) (n:=pp.length) (F:=F) (by omega) (fun k hk next=>by
  unfold ZiW;rw [YQ hk,Cq1,Qf [] hk];simp only [Bq0];rw [ZtG (hl _ (Xd hk)).1 (hl _ (Xd hk)).2];by_cases c:(∀ x ∈ pp.getD k [],0 <=x)∧(pp.getD k []).length <=100
  ·rw [ZH c,ZH c];simp only [Bq0,Bool.not_true,Cq0];rw [Qw (by omega)]
  ·rw [ZG c,ZG c];rfl) (fun next=>by
  unfold ZiW;rw [Y2,Cq0])
 unfold Zzb;rw [h];by_cases c:∀ k,k < pp.length ->(∀ x ∈ pp.getD k [],0 <=x)∧(pp.getD k []).length <=100
 ·rw [ZH c];unfold Zzf;simp only [Bq0];cases h30:decide ((s.Zf.length:Int) <=30) with
  | false=>exact⟨_,rfl,fun q=>by cases q⟩
  | true=>
    simp only [UY,Bool.true_and];rw [Zts (by omega)];by_cases hS:Y8 s
    ·rw [ZH hS];refine⟨_,rfl,fun q x hx=>?_⟩;simp only [Bool.true_and,decide_eq_true_eq] at q;obtain⟨k,hk,e⟩:=List.getElem_of_mem hx;have:=c k hk;rw [List.getD_eq_getElem?_getD,List.getElem?_eq_getElem hk] at this;have e':(some pp[k]).getD []=x:=e;rw [e'] at this;exact⟨hS,by omega,this.1,this.2⟩
    ·rw [ZG hS];exact⟨_,rfl,fun q=>by cases q⟩
 ·rw [ZG c];exact⟨_,rfl,fun q=>by cases q⟩
theorem Zid (hp:p < nn s):Zoi s (p:Int)=some true:=by
 unfold Zoi;rw [decide_eq_true (by omega),show decide ((p:Int) < (s.Zf.length:Int))=true from decide_eq_true (by show(p:Int) < ((nn s:Nat):Int);omega)];rfl
theorem ZqK (hF:1000000 <=F) (hg:Giv s l picks):∃ n,n <=488∧opens s (Jt s l picks n)= []∧Ok s 488 (Jt s l picks n)∧Qa s ts0 (Jt s l picks n)∧Qa s (Yg s l l.length).1 (Jt s l picks n)∧lds s (Jt s l picks n)=lds s (Yg s l l.length).1 + n∧
 Zza F s l picks=some (vw s (Jt s l picks n),(Jt s l picks n).ev,(n:Int),true):=by
 obtain⟨hS,hl,hp,hpl⟩:=hg;obtain⟨n,hn,he,hj,ok,ac,ac2,e2⟩:=ZCB hS hl picks;refine⟨n,hn,he,ok,ac,ac2,e2,?_⟩;have hr:=Zzg hS ac;have hev:(Jt s l picks n).ev.length <=488:=by have:=ok.gd.wf.pot;unfold Pot at this;omega
 unfold Zza;rw [ZqL hF hS hl hp hpl (by omega) he hj];simp only [Bq0,Zam,Bool.false_or];rw [show(vw s (Jt s l picks n)).qV=tab (nn s) (Jt s l picks n).st from rfl,Qp,show((nn s:Nat):Int)= ((s.Zf.length:Nat):Int) from rfl,Zam,decide_eq_false (by omega)];simp only [Bool.or_self,Cq0];refine Xf (fun k=>(k:Int)) rfl (n:= (Jt s l picks n).ev.length) (by omega) (fun k hk next=>?_) (fun next=>?_)
 ·unfold Zl6;dsimp only;rw [YQ hk,Cq1,Qf default hk];simp only [Bq0];obtain⟨⟨p,e1,h1⟩,⟨q,e2,h2⟩⟩:=hr _ (Xd (d:=default) hk);rw [e1,e2,Zid h1];simp only [Bq0,Bool.not_true,Bool.not_false,UY];rw [Zid h2];simp only [Bq0,Bool.not_true,Bool.or_self,Cq0];rw [Qw (by omega)]
 ·unfold Zl6;dsimp only;rw [Y2,Cq0]
end
end
section
def kc (k:Int) (p q:Nat) (l:List Zd):Nat:=l.countP fun x=>((x.kW==k) && (x.kV== (p:Int))) && (x.kX== (q:Int))
def asks (s:Zb) (σ:TS) (p q:Nat):Nat:=kc 2 p q (fl σ (li s (pl s p) (pl s q)))
def bb (s:Zb) (σ:TS) (p q:Nat):Nat:=kc 5 p q (σ.be (pl s p)) + kc 5 p q (fl σ (li s (pl s q) (pl s p)))
def wat (σ:TS) (p q:Nat):Nat:= (σ.wa q).count (p:Int)
def ec (σ:TS) (d:Int) (p q:Nat):Nat:=c3 σ.ev d p q
structure Bal (s:Zb) (σ:TS):Prop where
 le:∀ p q,p < nn s ->q < nn s ->ec σ 4 p q + bb s σ p q + wat σ p q + asks s σ p q <=ec σ 3 p q
 eq:∀ p q,p < nn s ->q < nn s ->σ.st p=1 ->ec σ 4 p q + bb s σ p q + wat σ p q + asks s σ p q=ec σ 3 p q
 dead:∀ p q,p < nn s ->q < nn s ->0 < ec σ 4 p q + bb s σ p q ->σ.st q=3
 wz:∀ p q,p < nn s ->q < nn s ->σ.st q=3 ->wat σ p q=0
section
variable {s:Zb} {σ τ υ:TS} {F B a b p q w i j n d r p0 q0:Nat} {x:Zd} {k:Int}
def one (c:Prop) [Decidable c]:Nat:=if c then 1 else 0
theorem Xa {c:Prop} [Decidable c] (h:c):one c=1:=if_pos h
theorem Z4 {c:Prop} [Decidable c] (h:¬ c):one c=0:=if_neg h
theorem ZfX (l m:List Zd):kc k p q (l ++ m)=kc k p q l + kc k p q m:=by unfold kc;rw [List.countP_append]
theorem Zdi (l:List Zd):kc k p q (x::l)=kc k p q l + one (x.kW=k∧x.kV= (p:Int)∧x.kX= (q:Int)):=by
 unfold kc;rw [List.countP_cons];congr 1;by_cases c:x.kW=k∧x.kV= (p:Int)∧x.kX= (q:Int)
 ·rw [Xa c,c.1,c.2.1,c.2.2];simp
 ·rw [Z4 c,if_neg];simp only [Ba0,beq_iff_eq];exact fun z=>c ⟨z.1.1,z.1.2,z.2⟩
theorem Zlo:kc k p q []=0:=rfl
theorem Zxw {l:List Zd} (hi:i < l.length):kc k p q l=kc k p q (Zcd l i) + one ((l.getD i default).kW=k∧(l.getD i default).kV= (p:Int)∧(l.getD i default).kX= (q:Int)):=by
 have e:l=l.take i ++ l.getD i default::l.drop (i + 1):=by
  rw [List.getD_eq_getElem?_getD,List.getElem?_eq_getElem hi];simp
 unfold Zcd
 conv=>lhs;rw [e]
 rw [ZfX,Zdi,ZfX];omega
theorem Zdg (hl:σ.ld (li s a b) <= (σ.sn (li s a b)).length) (j:Nat):kc k p q (fl (send s a b x σ) j)=kc k p q (fl σ j) + (if j=li s a b then one (x.kW=k∧x.kV= (p:Int)∧x.kX= (q:Int)) else 0):=by
 by_cases e:j=li s a b
 ·subst e;rw [if_pos rfl,ZlK hl,ZfX,Zdi,Zlo,Nat.zero_add]
 ·rw [if_neg e,Zen e];rfl
theorem Zdh (hl:σ.ld i < (σ.sn i).length) (j:Nat):kc k p q (fl σ j)=kc k p q (fl (drop1 i σ) j) + (if j=i then one ((hd σ i).kW=k∧(hd σ i).kV= (p:Int)∧(hd σ i).kX= (q:Int)) else 0):=by
 by_cases e:j=i
 ·subst e;rw [if_pos rfl,Zhy hl,Zdi];congr 2;show _= (σ.sn j).drop (ZT σ.ld j (σ.ld j + 1) j);rw [Zq]
 ·rw [if_neg e,Nat.add_zero];congr 1;show _= (σ.sn j).drop (ZT σ.ld i (σ.ld i + 1) j);rw [ZA e];rfl
theorem ZbJ (l:List Zg) (e:Zg) (d p q:Int):c3 (l ++ [e]) d p q=c3 l d p q + one (e.kZ=d∧e.kV=p∧e.kX=q):=by
 unfold c3;rw [List.countP_append,List.countP_cons,List.countP_nil,Nat.zero_add];congr 1;by_cases c:e.kZ=d∧e.kV=p∧e.kX=q
 ·rw [Xa c,c.1,c.2.1,c.2.2];simp
 ·rw [Z4 c,if_neg];simp only [Ba0,beq_iff_eq];exact fun z=>c ⟨z.1.1,z.1.2,z.2⟩
theorem Zfh (d':Int) (p' q' n:Int):ec (tell d' p' q' n σ) k p q=ec σ k p q + one (d'=k∧p'= (p:Int)∧q'= (q:Int)):=ZbJ _ _ _ _ _
theorem Zzj {e:Zg} (h:τ.ev=σ.ev ++ [e]):ec τ k p q=ec σ k p q + one (e.kZ=k∧e.kV= (p:Int)∧e.kX= (q:Int)):=by unfold ec;rw [h];exact ZbJ _ _ _ _ _
theorem ZkL (h:τ.ev=σ.ev):ec τ k p q=ec σ k p q:=by unfold ec;rw [h]
theorem Zs8 (h1:τ.sn=σ.sn) (h2:τ.ld=σ.ld):asks s τ p q=asks s σ p q:=by unfold asks fl;rw [h1,h2]
theorem ZPs (h1:τ.sn=σ.sn) (h2:τ.ld=σ.ld) (h3:τ.be=σ.be):bb s τ p q=bb s σ p q:=by unfold bb fl;rw [h1,h2,h3]
theorem Zpo (h:τ.wa=σ.wa):wat τ p q=wat σ p q:=by unfold wat;rw [h]
structure Un (s:Zb) (σ τ:TS):Prop where
 a:∀ p q,asks s τ p q=asks s σ p q
 b:∀ p q,bb s τ p q=bb s σ p q
 w:∀ p q,wat τ p q=wat σ p q
 e3:∀ p q,ec τ 3 p q=ec σ 3 p q
 e4:∀ p q,ec τ 4 p q=ec σ 4 p q
theorem Un.trans (h:Un s σ τ) (h':Un s τ υ):Un s σ υ:= ⟨fun p q=>(h'.a p q).trans (h.a p q),fun p q=>(h'.b p q).trans (h.b p q),fun p q=>(h'.w p q).trans (h.w p q),fun p q=>(h'.e3 p q).trans (h.e3 p q),fun p q=>(h'.e4 p q).trans (h.e4 p q)⟩
theorem Bal.un (h:Bal s σ) (u:Un s σ τ) (s1:∀ p,p < nn s ->τ.st p=1 ->σ.st p=1) (s3:∀ p,p < nn s ->(σ.st p=3↔τ.st p=3)):Bal s τ:=
 ⟨fun p q hp hq=>by rw [u.e4,u.b,u.w,u.a,u.e3];exact h.le p q hp hq,fun p q hp hq z=>by rw [u.e4,u.b,u.w,u.a,u.e3];exact h.eq p q hp hq (s1 p hp z),fun p q hp hq z=>by rw [u.e4,u.b] at z;exact(s3 q hq).1 (h.dead p q hp hq z),fun p q hp hq z=>by rw [u.w];exact h.wz p q hp hq ((s3 q hq).2 z)⟩
theorem Un.send (hl:σ.ld (li s a b) <= (σ.sn (li s a b)).length) (h2:x.kW ≠ 2) (h5:x.kW ≠ 5):Un s σ (Proofs.YtcnahmgekicbdaaGreat.send s a b x σ):=by
 refine⟨fun p q=>?_,fun p q=>?_,fun p q=>rfl,fun p q=>rfl,fun p q=>rfl⟩
 ·unfold asks;rw [Zdg hl,Z4 (fun z=>h2 z.1)];split <;> rfl
 ·unfold bb;rw [Zdg hl,Z4 (fun z=>h5 z.1)];show kc 5 p q (σ.be (pl s p)) + _=_;split <;> rfl
theorem Un.drop (hl:σ.ld i < (σ.sn i).length) (h2:(hd σ i).kW ≠ 2) (h5:(hd σ i).kW ≠ 5):Un s σ (drop1 i σ):=by
 refine⟨fun p q=>?_,fun p q=>?_,fun p q=>rfl,fun p q=>rfl,fun p q=>rfl⟩
 ·have:=Zdh (k:=2) (p:=p) (q:=q) hl (li s (pl s p) (pl s q));rw [Z4 (fun z=>h2 z.1)] at this;unfold asks;rw [this];split <;> rfl
 ·have:=Zdh (k:=5) (p:=p) (q:=q) hl (li s (pl s q) (pl s p));rw [Z4 (fun z=>h5 z.1)] at this;unfold bb;rw [this];show kc 5 p q (σ.be (pl s p)) + _=_;split <;> rfl
theorem Un.tell (d' p' q' n:Int) (h3:d' ≠ 3) (h4:d' ≠ 4):Un s σ (Proofs.YtcnahmgekicbdaaGreat.tell d' p' q' n σ):=
 ⟨fun _ _=>rfl,fun _ _=>rfl,fun _ _=>rfl,fun p q=>by rw [Zfh,Z4 (fun z=>h3 z.1)];rfl,fun p q=>by rw [Zfh,Z4 (fun z=>h4 z.1)];rfl⟩
theorem Un.see (p q:Nat) (n:Int):Un s σ (Proofs.YtcnahmgekicbdaaGreat.see p q n σ):=by
 unfold Proofs.YtcnahmgekicbdaaGreat.see;split
 ·exact Un.tell _ _ _ _ (by decide) (by decide)
 ·exact⟨fun _ _=>rfl,fun _ _=>rfl,fun _ _=>rfl,fun _ _=>rfl,fun _ _=>rfl⟩
theorem Zs7 (hS:Y8 s) (hl:∀ i,σ.ld i <= (σ.sn i).length) (hp0:p0 < nn s) (hq0:q0 < nn s) (hp:p < nn s) (hq:q < nn s):
 bb s (YH s p0 q0 σ) p q=bb s σ p q + one (p0=p∧q0=q)∧asks s (YH s p0 q0 σ) p q=asks s σ p q:=by
 unfold YH;by_cases e:pl s p0=pl s q0
 ·rw [if_pos e];refine⟨?_,rfl⟩;unfold bb;show kc 5 p q (ZT σ.be (pl s p0) (σ.be (pl s p0) ++ [_]) (pl s p)) + kc 5 p q (fl σ (li s (pl s q) (pl s p)))=_;by_cases e2:pl s p=pl s p0
  ·rw [e2,Zq,ZfX,Zdi,Zlo,Nat.zero_add];by_cases c:p0=p∧q0=q
   ·rw [Xa c,Xa ⟨rfl,by show((p0:Int))=p;omega,by show((q0:Int))=q;omega⟩];omega
   ·rw [Z4 c,Z4 (fun z=>c ⟨by have:((p0:Int))=p:=z.2.1;omega,by have:((q0:Int))=q:=z.2.2;omega⟩)];omega
  ·rw [ZA e2,Z4 (fun z=>e2 (by rw [z.1]))];omega
 ·rw [if_neg e];refine⟨?_,?_⟩
  ·unfold bb;rw [Zdg (hl _)];show kc 5 p q (σ.be (pl s p)) + (_ + _)=_;by_cases c:p0=p∧q0=q
   ·obtain⟨rfl,rfl⟩:=c;rw [if_pos rfl,Xa ⟨rfl,rfl,rfl⟩,Xa ⟨rfl,rfl⟩];omega
   ·rw [Z4 c,Z4 (fun z=>c ⟨by have:((p0:Int))=p:=z.2.1;omega,by have:((q0:Int))=q:=z.2.2;omega⟩)];split <;> omega
  ·unfold asks;rw [Zdg (hl _),Z4 (fun z=>by have:(5:Int)=2:=z.1;omega)];split <;> rfl
theorem Zs6 (hl:∀ i,σ.ld i <= (σ.sn i).length) (p q:Nat):∀ i,(YH s p q σ).ld i <= ((YH s p q σ).sn i).length:=fun i=>by
 rw [(ZbL (s:=s) p q σ).2.2.2.1];exact Nat.le_trans (hl i) (SnM.YH p q i)
theorem ZzM (hS:Y8 s) (hq0:q0 < nn s) (hp:p < nn s) (hq:q < nn s):∀ (l:List Int) (σ:TS),(∀ i,σ.ld i <= (σ.sn i).length) ->(∀ x ∈ l,∃ k:Nat,x= (k:Int)∧k < nn s) ->
 bb s (Zu s q0 l σ) p q=bb s σ p q + (if q0=q then l.count (p:Int) else 0)∧asks s (Zu s q0 l σ) p q=asks s σ p q:=by
 intro l
 induction l with
 | nil=>intro σ _ _;exact⟨by show bb s σ p q=_;split <;> rfl,rfl⟩
 | cons x l ih=>
   intro σ hl hx;obtain⟨k,rfl,hk⟩:=hx x (by simp);have h1:=ih (YH s k q0 σ) (Zs6 hl k q0) fun y hy=>hx y (by simp [hy])
   have h2:=Zs7 (p:=p) (q:=q) hS hl hk hq0 hp hq;show bb s (Zu s q0 l (YH s ((k:Int)).toNat q0 σ)) p q=_∧asks s (Zu s q0 l (YH s ((k:Int)).toNat q0 σ)) p q=_;rw [Int.toNat_natCast,h1.1,h1.2,h2.1,h2.2];refine⟨?_,rfl⟩;rw [List.count_cons];by_cases e:q0=q
   ·rw [if_pos e,if_pos e];by_cases c:k=p
    ·rw [Xa ⟨c,e⟩,if_pos (by simp [c])];omega
    ·rw [Z4 (fun z=>c z.1),if_neg (by simp;omega)];omega
   ·rw [if_neg e,if_neg e,Z4 (fun z=>e z.2)]
theorem Zr5 (hS:Y8 s) (hl:∀ i,σ.ld i <= (σ.sn i).length) (hp0:p0 < nn s) (hq0:q0 < nn s) (hp:p < nn s) (hq:q < nn s):
 asks s (note s p0 q0 σ) p q=asks s σ p q∧(σ.st q0=3 ->bb s (note s p0 q0 σ) p q=bb s σ p q + one (p0=p∧q0=q)∧wat (note s p0 q0 σ) p q=wat σ p q)∧
 (σ.st q0 ≠ 3 ->bb s (note s p0 q0 σ) p q=bb s σ p q∧wat (note s p0 q0 σ) p q=wat σ p q + one (p0=p∧q0=q)):=by
 unfold note;by_cases e:σ.st q0=3
 ·rw [if_pos e];have h:=Zs7 (p:=p) (q:=q) hS hl hp0 hq0 hp hq;exact⟨h.2,fun _=>⟨h.1,Zpo (ZbL (s:=s) p0 q0 σ).2.2.2.2.2.2⟩,fun z=>absurd e z⟩
 ·rw [if_neg e];refine⟨rfl,fun z=>absurd z e,fun _=>⟨rfl,?_⟩⟩;unfold wat;show(ZT σ.wa q0 (σ.wa q0 ++ [(p0:Int)]) q).count (p:Int)=_;by_cases c:q=q0
  ·subst c;rw [Zq,List.count_append,List.count_singleton];by_cases c2:p0=p
   ·rw [Xa ⟨c2,rfl⟩,if_pos (by simp [c2])]
   ·rw [Z4 (fun z=>c2 z.1),if_neg (by simp;omega)]
  ·rw [ZA c,Z4 (fun z=>c z.2.symm)];rfl
end
end
section
def P3 (s:Zb) (σ:TS):Prop:=∀ w,w < mm s ->∀ x ∈ σ.be w,∃ p:Nat,x.kV= (p:Int)∧p < nn s∧pl s p=w
section
variable {s:Zb} {σ τ υ:TS} {F B a b p q w i j n d r p0 q0:Nat} {x:Zd} {k:Int}
theorem P3.congr (h:P3 s σ) (e:τ.be=σ.be):P3 s τ:=fun w hw x hx=>h w hw x (by rwa [e] at hx)
theorem P3.wait (h:P3 s σ) (hx:x.kV= (p:Int)) (hp:p < nn s) (hm:pl s p=a):P3 s (Proofs.YtcnahmgekicbdaaGreat.wait a x σ):=fun w hw y hy=>by
 have hy:y ∈ ZT σ.be a (σ.be a ++ [x]) w:=hy;by_cases e:w=a
 ·subst e;rw [Zq] at hy;rcases List.mem_append.1 hy with hy | hy
  ·exact h w hw y hy
  ·rw [List.mem_singleton.1 hy];exact⟨p,hx,hp,hm⟩
 ·rw [ZA e] at hy;exact h w hw y hy
theorem P3.YH (h:P3 s σ) (hp:p < nn s) (q:Nat):P3 s (Proofs.YtcnahmgekicbdaaGreat.YH s p q σ):=by
 unfold Proofs.YtcnahmgekicbdaaGreat.YH;split
 ·exact h.wait rfl hp rfl
 ·exact h.congr rfl
theorem P3.note (h:P3 s σ) (hp:p < nn s) (q:Nat):P3 s (Proofs.YtcnahmgekicbdaaGreat.note s p q σ):=by
 unfold Proofs.YtcnahmgekicbdaaGreat.note;split
 ·exact h.YH hp q
 ·exact h.congr rfl
theorem P3.act (h1:P1 s σ) (h:P3 s σ) (ac:Act s σ τ):P3 s τ:=by
 cases ac with
 | fall=>exact h.congr rfl
 | J7=>exact h.congr rfl
 | @die p hp h2 hA=>
   have hA:P3 s (ZF s p σ):=by
    have:P3 s (Zu s p (σ.wa p) (QW p σ)):=QA _ (P3 s) (σ.wa p) (QW p σ) (h.congr rfl) fun τ x hx hτ=>by
     obtain⟨k,rfl,hk⟩:=h1.ws p hp x hx;exact hτ.YH (by rw [Int.toNat_natCast];exact hk) p
    exact this.congr rfl
   unfold JI;split
   ·exact hA
   ·split
    ·exact hA.congr rfl
    ·exact hA.congr rfl
 | @ZaS p q=>exact h.congr (XT q p σ.sd (kK p q σ)).2.2.2.2.2.1
 | ZaR=>exact h.congr rfl
 | @ZaN p q hp=>exact(h.congr (τ:=tell 3 p q 0 σ) rfl).note hp q
 | ZaM=>exact h.congr rfl
 | @Za0 a b p q=>exact(h.congr (τ:=drop1 (li s a b) σ) rfl).congr (XT _ _ _ _).2.2.2.2.2.1
 | @Za2 a b p q ha hb hl hk hp hq hpn JL=>exact(h.congr (τ:=drop1 (li s a b) σ) rfl).note hpn q
 | Zab=>exact h.congr rfl
 | KV=>exact h.congr rfl
 | @Za1 a b ha hb hl hk=>
   obtain⟨p,hp,hpn,_,c⟩:=h1.lets a b ha hb _ (ZcH hl);refine(h.congr (τ:=drop1 (li s a b) σ) rfl).wait hp hpn ?_;rcases c with⟨k,_⟩ | ⟨k,_⟩ | ⟨k,_⟩ | ⟨k,_⟩ | ⟨k,e,_⟩
   ·omega
   ·omega
   ·omega
   ·omega
   ·exact e
 | @ring w i hw hpk=>
   have e:=Qq s w i σ;intro v hv y hy;rw [e.1] at hy;by_cases z:v=w
   ·subst z;rw [Zq] at hy;exact h v hv y (ZcO hy)
   ·rw [ZA z] at hy;exact h v hv y hy
theorem ZkO {d:Int} (h:x.kW=d) (hp:x.kV= (p0:Int)) (hq:x.kX= (q0:Int)):one (x.kW=d∧x.kV= (p:Int)∧x.kX= (q:Int))=one (p0=p∧q0=q):=by
 rw [hp,hq];by_cases c:p0=p∧q0=q
 ·rw [Xa c,Xa ⟨h,by omega,by omega⟩]
 ·rw [Z4 c,Z4 (fun z=>c ⟨by have:=z.2.1;omega,by have:=z.2.2;omega⟩)]
theorem Zi4 (n:Int):ec (tell k p0 q0 n σ) k p q=ec σ k p q + one (p0=p∧q0=q):=by
 rw [Zfh];congr 1;by_cases c:p0=p∧q0=q
 ·rw [Xa c,Xa ⟨rfl,by omega,by omega⟩]
 ·rw [Z4 c,Z4 (fun z=>c ⟨by have:=z.2.1;omega,by have:=z.2.2;omega⟩)]
theorem ZkK (d':Int) (n:Int) (h:d' ≠ k):ec (tell d' p0 q0 n σ) k p q=ec σ k p q:=by
 rw [Zfh,Z4 (fun z=>h z.1)];rfl
theorem Un.of (h1:τ.sn=σ.sn) (h2:τ.ld=σ.ld) (h3:τ.be=σ.be) (h4:τ.wa=σ.wa) (h5:τ.ev=σ.ev):Un s σ τ:=
 ⟨fun _ _=>Zs8 h1 h2,fun _ _=>ZPs h1 h2 h3,fun _ _=>Zpo h4,fun _ _=>ZkL h5,fun _ _=>ZkL h5⟩
theorem Bal.ZF (hS:Y8 s) (h1:P1 s σ) (h2:P2 s σ) (h:Bal s σ) (hp0:p0 < nn s):Bal s (Proofs.YtcnahmgekicbdaaGreat.ZF s p0 σ):=by
 have sA:=X7 (s:=s) p0 σ
 have bA:∀ p q,p < nn s ->q < nn s ->bb s (Proofs.YtcnahmgekicbdaaGreat.ZF s p0 σ) p q=bb s σ p q + (if p0=q then(σ.wa p0).count (p:Int) else 0)∧asks s (Proofs.YtcnahmgekicbdaaGreat.ZF s p0 σ) p q=asks s σ p q:=fun p q hp hq=>
  ZzM hS hp0 hp hq (σ.wa p0) (QW p0 σ) h2.ld (h1.ws p0 hp0)
 have wA:∀ p q,wat (Proofs.YtcnahmgekicbdaaGreat.ZF s p0 σ) p q=if p0=q then 0 else wat σ p q:=fun p q=>by
  unfold wat;rw [sA.2.2.2.2.2];by_cases e:p0=q
  ·subst e;rw [Zq,if_pos rfl];rfl
  ·rw [ZA (fun z=>e z.symm),if_neg e]
 have e3:∀ p q,ec (Proofs.YtcnahmgekicbdaaGreat.ZF s p0 σ) 3 p q=ec σ 3 p q:=fun p q=>by rw [Zzj sA.2.2.2.2.1,Z4 (fun z=>by have:(6:Int)=3:=z.1;omega)];rfl
 have e4:∀ p q,ec (Proofs.YtcnahmgekicbdaaGreat.ZF s p0 σ) 4 p q=ec σ 4 p q:=fun p q=>by rw [Zzj sA.2.2.2.2.1,Z4 (fun z=>by have:(6:Int)=4:=z.1;omega)];rfl
 have tot:∀ p q,p < nn s ->q < nn s ->ec (Proofs.YtcnahmgekicbdaaGreat.ZF s p0 σ) 4 p q + bb s (Proofs.YtcnahmgekicbdaaGreat.ZF s p0 σ) p q + wat (Proofs.YtcnahmgekicbdaaGreat.ZF s p0 σ) p q + asks s (Proofs.YtcnahmgekicbdaaGreat.ZF s p0 σ) p q=ec σ 4 p q + bb s σ p q + wat σ p q + asks s σ p q:=fun p q hp hq=>by
  obtain⟨b1,b2⟩:=bA p q hp hq;rw [b1,b2,wA,e4];by_cases e:p0=q
  ·rw [if_pos e,if_pos e,e];unfold wat;omega
  ·rw [if_neg e,if_neg e];omega
 refine⟨fun p q hp hq=>by rw [tot p q hp hq,e3];exact h.le p q hp hq,fun p q hp hq z=>?_,fun p q hp hq z=>?_,fun p q hp hq z=>?_⟩
 ·rw [tot p q hp hq,e3];rw [sA.1] at z;refine h.eq p q hp hq ?_;by_cases e:p=p0
  ·subst e;rw [Zq] at z;omega
  ·rwa [ZA e] at z
 ·rw [sA.1];by_cases e:q=p0
  ·subst e;rw [Zq]
  ·rw [ZA e];rw [e4,(bA p q hp hq).1,if_neg (fun z=>e z.symm)] at z;exact h.dead p q hp hq z
 ·rw [wA];by_cases e:p0=q
  ·rw [if_pos e]
  ·rw [if_neg e];rw [sA.1,ZA (fun z=>e z.symm)] at z;exact h.wz p q hp hq z
theorem Bal.act (hS:Y8 s) (h1:P1 s σ) (h2:P2 s σ) (h3:P3 s σ) (h:Bal s σ) (ac:Act s σ τ):Bal s τ:=by
 have id1:∀ (ρ:TS),ρ.st=σ.st ->∀ p,p < nn s ->ρ.st p=1 ->σ.st p=1:=fun ρ e p _ z=>by rwa [e] at z
 have id3:∀ (ρ:TS),ρ.st=σ.st ->∀ p,p < nn s ->(σ.st p=3↔ρ.st p=3):=fun ρ e p _=>by rw [e]
 cases ac with
 | @fall p0 hp0 hst=>
   refine h.un ((Un.of (s:=s) (σ:=σ) (τ:= {σ with st:=ZT σ.st p0 2}) rfl rfl rfl rfl rfl).trans (Un.tell (σ:= {σ with st:=ZT σ.st p0 2}) 5 p0 0 0 (by decide) (by decide))) (fun p _ z=>?_) (fun p _=>?_)
   ·have z:ZT σ.st p0 2 p=1:=z;by_cases e:p=p0
    ·subst e;exact hst
    ·rwa [ZA e] at z
   ·show _↔ZT σ.st p0 2 p=3;by_cases e:p=p0
    ·subst e;rw [Zq,hst];decide
    ·rw [ZA e]
 | J7=>exact h.un (Un.send (h2.ld _) (show(3:Int) ≠ 2 by decide) (show(3:Int) ≠ 5 by decide)) (id1 _ rfl) (id3 _ rfl)
 | @die p0 hp0 hst hA=>
   have hB:=Bal.ZF hS h1 h2 h hp0;unfold JI;split
   ·exact hB
   ·split
    ·exact hB.un ⟨fun _ _=>rfl,fun _ _=>rfl,fun _ _=>rfl,fun _ _=>rfl,fun _ _=>rfl⟩ (fun _ _ z=>z) (fun _ _=>Iff.rfl)
    ·refine hB.un (Un.send ?_ (show(4:Int) ≠ 2 by decide) (show(4:Int) ≠ 5 by decide)) (fun _ _ z=>z) (fun _ _=>Iff.rfl);rw [(X7 (s:=s) p0 σ).2.2.1];exact Nat.le_trans (h2.ld _) (SnM.ZF p0 _)
 | @ZaS p0 q0 hp hq=>exact h.un (((Un.of (s:=s) (σ:=σ) (τ:= {σ with sd:=σ.sd + 1}) rfl rfl rfl rfl rfl).trans (Un.tell (σ:= {σ with sd:=σ.sd + 1}) 1 p0 q0 σ.sd (by decide) (by decide))).trans (Un.see q0 p0 σ.sd)) (id1 _ (XT q0 p0 σ.sd (kK p0 q0 σ)).1) (id3 _ (XT q0 p0 σ.sd (kK p0 q0 σ)).1)
 | @ZaR p0 q0 hp hq=>exact h.un (((Un.of (s:=s) (σ:=σ) (τ:= {σ with sd:=σ.sd + 1}) rfl rfl rfl rfl rfl).trans (Un.tell (σ:= {σ with sd:=σ.sd + 1}) 1 p0 q0 σ.sd (by decide) (by decide))).trans (Un.send (x:= ⟨1,p0,q0,σ.sd,[]⟩) (h2.ld _) (show(1:Int) ≠ 2 by decide) (show(1:Int) ≠ 5 by decide))) (id1 _ rfl) (id3 _ rfl)
 | @ZaN p0 q0 hp0 hq0 hst e0=>
   have e:=Xc (s:=s) p0 q0 (tell 3 p0 q0 0 σ);have e3:∀ p q,ec (note s p0 q0 (tell 3 p0 q0 0 σ)) 3 p q=ec σ 3 p q + one (p0=p∧q0=q):=fun p q=>by rw [ZkL e.2.2.2.2.2,Zi4]
   have e4:∀ p q,ec (note s p0 q0 (tell 3 p0 q0 0 σ)) 4 p q=ec σ 4 p q:=fun p q=>by rw [ZkL e.2.2.2.2.2,ZkK _ _ (by decide)]
   have nt:=fun p q hp hq=>Zr5 (p:=p) (q:=q) (σ:=tell 3 p0 q0 0 σ) hS h2.ld hp0 hq0 hp hq
   have ta:∀ p q,asks s (tell 3 p0 q0 0 σ) p q=asks s σ p q:=fun _ _=>rfl
   have tb:∀ p q,bb s (tell 3 p0 q0 0 σ) p q=bb s σ p q:=fun _ _=>rfl
   have tw:∀ p q,wat (tell 3 p0 q0 0 σ) p q=wat σ p q:=fun _ _=>rfl
   have ts:(tell 3 p0 q0 0 σ).st q0=σ.st q0:=rfl;refine⟨fun p q hp hq=>?_,fun p q hp hq z=>?_,fun p q hp hq z=>?_,fun p q hp hq z=>?_⟩
   ·have l:=h.le p q hp hq;obtain⟨n1,n2,n3⟩:=nt p q hp hq;rw [e3,e4,n1,ta];by_cases c:σ.st q0=3
    ·obtain⟨m1,m2⟩:=n2 c;rw [m1,m2,tb,tw];omega
    ·obtain⟨m1,m2⟩:=n3 c;rw [m1,m2,tb,tw];omega
   ·rw [e.1] at z;have l:=h.eq p q hp hq z;obtain⟨n1,n2,n3⟩:=nt p q hp hq;rw [e3,e4,n1,ta];by_cases c:σ.st q0=3
    ·obtain⟨m1,m2⟩:=n2 c;rw [m1,m2,tb,tw];omega
    ·obtain⟨m1,m2⟩:=n3 c;rw [m1,m2,tb,tw];omega
   ·rw [e.1];obtain⟨n1,n2,n3⟩:=nt p q hp hq;rw [e4] at z;by_cases c:σ.st q0=3
    ·obtain⟨m1,m2⟩:=n2 c;rw [m1,tb] at z;by_cases cc:p0=p∧q0=q
     ·rw [← cc.2];exact c
     ·rw [Z4 cc] at z;exact h.dead p q hp hq z
    ·obtain⟨m1,m2⟩:=n3 c;rw [m1,tb] at z;exact h.dead p q hp hq z
   ·rw [e.1] at z;obtain⟨n1,n2,n3⟩:=nt p q hp hq;have l:=h.wz p q hp hq z;by_cases c:σ.st q0=3
    ·obtain⟨m1,m2⟩:=n2 c;rw [m2,tw];exact l
    ·obtain⟨m1,m2⟩:=n3 c;rw [m2,tw,l,Z4 (fun cc=>c (by rw [cc.2];exact z))]
 | @ZaM p0 q0 hp0 hq0 hst e0=>
   have e3:∀ p q,ec (send s (pl s p0) (pl s q0) ⟨2,p0,q0,0,[]⟩ (tell 3 p0 q0 0 σ)) 3 p q=ec σ 3 p q + one (p0=p∧q0=q):=fun p q=>Zi4 0
   have e4:∀ p q,ec (send s (pl s p0) (pl s q0) ⟨2,p0,q0,0,[]⟩ (tell 3 p0 q0 0 σ)) 4 p q=ec σ 4 p q:=fun p q=>ZkK _ _ (by decide)
   have ea:∀ p q,asks s (send s (pl s p0) (pl s q0) ⟨2,p0,q0,0,[]⟩ (tell 3 p0 q0 0 σ)) p q=asks s σ p q + one (p0=p∧q0=q):=fun p q=>by
    unfold asks;rw [Zdg (σ:=tell 3 p0 q0 0 σ) (h2.ld _),ZkO (x:= ⟨2,p0,q0,0,[]⟩) (d:=2) (p0:=p0) (q0:=q0) rfl rfl rfl];by_cases c:p0=p∧q0=q
    ·rw [if_pos (by rw [c.1,c.2])];rfl
    ·rw [Z4 c];split <;> rfl
   have eb:∀ p q,bb s (send s (pl s p0) (pl s q0) ⟨2,p0,q0,0,[]⟩ (tell 3 p0 q0 0 σ)) p q=bb s σ p q:=fun p q=>by
    unfold bb;rw [Zdg (σ:=tell 3 p0 q0 0 σ) (h2.ld _),Z4 (fun z=>by have:(2:Int)=5:=z.1;omega)];show kc 5 p q (σ.be (pl s p)) + _=_;split <;> rfl
   have ew:∀ p q,wat (send s (pl s p0) (pl s q0) ⟨2,p0,q0,0,[]⟩ (tell 3 p0 q0 0 σ)) p q=wat σ p q:=fun p q=>rfl
   refine⟨fun p q hp hq=>?_,fun p q hp hq z=>?_,fun p q hp hq z=>?_,fun p q hp hq z=>?_⟩
   ·have l:=h.le p q hp hq;rw [e3,e4,ea,eb,ew];omega
   ·have l:=h.eq p q hp hq z;rw [e3,e4,ea,eb,ew];omega
   ·rw [e4,eb] at z;exact h.dead p q hp hq z
   ·rw [ew];exact h.wz p q hp hq z
 | @Za0 a b p0 q0 ha hb hl hk hp hq hpn JL=>exact h.un ((Un.drop hl (by omega) (by omega)).trans (Un.see q0 p0 _)) (id1 _ (XT q0 p0 (hd σ (li s a b)).n (drop1 (li s a b) σ)).1) (id3 _ (XT q0 p0 (hd σ (li s a b)).n (drop1 (li s a b) σ)).1)
 | @Za2 a b p0 q0 ha hb hl hk hpe hqe hp0 hq0=>
   have e:=Xc (s:=s) p0 q0 (drop1 (li s a b) σ);have hlet:=h1.lets a b ha hb _ (ZcH hl)
   have hpq:pl s p0=a∧pl s q0=b:=by
    obtain⟨p',hp',_,_,c⟩:=hlet;have:p'=p0:=by omega
    subst this;rcases c with⟨k,_⟩ | ⟨k,e1,q',hq',_,e2⟩ | ⟨k,_⟩ | ⟨k,_⟩ | ⟨k,_⟩
    ·omega
    ·have:q'=q0:=by omega
     subst this;exact⟨e1,e2⟩
    ·omega
    ·omega
    ·omega
   have hd2:∀ i,(drop1 (li s a b) σ).ld i <= ((drop1 (li s a b) σ).sn i).length:= (h2.drop hl).ld;have e3:∀ p q,ec (note s p0 q0 (drop1 (li s a b) σ)) 3 p q=ec σ 3 p q:=fun p q=>by rw [ZkL e.2.2.2.2.2];rfl
   have e4:∀ p q,ec (note s p0 q0 (drop1 (li s a b) σ)) 4 p q=ec σ 4 p q:=fun p q=>by rw [ZkL e.2.2.2.2.2];rfl
   have nt:=fun p q hp hq=>Zr5 (p:=p) (q:=q) (σ:=drop1 (li s a b) σ) hS hd2 hp0 hq0 hp hq
   have ta:∀ p q,asks s σ p q=asks s (drop1 (li s a b) σ) p q + one (p0=p∧q0=q):=fun p q=>by
    have:=Zdh (k:=2) (p:=p) (q:=q) hl (li s (pl s p) (pl s q));rw [ZkO (d:=2) (p0:=p0) (q0:=q0) hk hpe hqe] at this;unfold asks;rw [this];by_cases c:p0=p∧q0=q
    ·rw [if_pos (by rw [← c.1,← c.2,hpq.1,hpq.2])]
    ·rw [Z4 c];split <;> rfl
   have tb:∀ p q,bb s (drop1 (li s a b) σ) p q=bb s σ p q:=fun p q=>by
    have:=Zdh (k:=5) (p:=p) (q:=q) hl (li s (pl s q) (pl s p));rw [Z4 (fun z=>by have:=z.1;omega)] at this;unfold bb;rw [this];show kc 5 p q (σ.be (pl s p)) + _=_;split <;> rfl
   have tw:∀ p q,wat (drop1 (li s a b) σ) p q=wat σ p q:=fun _ _=>rfl
   have ts:(drop1 (li s a b) σ).st=σ.st:=rfl;refine⟨fun p q hp hq=>?_,fun p q hp hq z=>?_,fun p q hp hq z=>?_,fun p q hp hq z=>?_⟩
   ·have l:=h.le p q hp hq;obtain⟨n1,n2,n3⟩:=nt p q hp hq;rw [e3,e4,n1];rw [ta] at l;by_cases c:σ.st q0=3
    ·obtain⟨m1,m2⟩:=n2 c;rw [m1,m2,tb,tw];omega
    ·obtain⟨m1,m2⟩:=n3 c;rw [m1,m2,tb,tw];omega
   ·rw [e.1] at z;have l:=h.eq p q hp hq z;obtain⟨n1,n2,n3⟩:=nt p q hp hq;rw [e3,e4,n1];rw [ta] at l;by_cases c:σ.st q0=3
    ·obtain⟨m1,m2⟩:=n2 c;rw [m1,m2,tb,tw];omega
    ·obtain⟨m1,m2⟩:=n3 c;rw [m1,m2,tb,tw];omega
   ·rw [e.1];obtain⟨n1,n2,n3⟩:=nt p q hp hq;rw [e4] at z;by_cases c:σ.st q0=3
    ·obtain⟨m1,m2⟩:=n2 c;rw [m1,tb] at z;by_cases cc:p0=p∧q0=q
     ·rw [← cc.2];exact c
     ·rw [Z4 cc] at z;exact h.dead p q hp hq z
    ·obtain⟨m1,m2⟩:=n3 c;rw [m1,tb] at z;exact h.dead p q hp hq z
   ·rw [e.1] at z;obtain⟨n1,n2,n3⟩:=nt p q hp hq;have l:=h.wz p q hp hq z;by_cases c:σ.st q0=3
    ·obtain⟨m1,m2⟩:=n2 c;rw [m2,tw];exact l
    ·obtain⟨m1,m2⟩:=n3 c;rw [m2,tw,l,Z4 (fun cc=>c (by rw [cc.2];exact z))]
 | Zab ha hb hl hk=>exact h.un (Un.drop hl (by omega) (by omega)) (id1 _ rfl) (id3 _ rfl)
 | KV ha hb hl hk=>exact h.un ((Un.drop hl (by omega) (by omega)).trans ⟨fun _ _=>rfl,fun _ _=>rfl,fun _ _=>rfl,fun _ _=>rfl,fun _ _=>rfl⟩) (id1 _ rfl) (id3 _ rfl)
 | @Za1 a b ha hb hl hk=>
   obtain⟨p0,hpe,hp0,_,c⟩:=h1.lets a b ha hb _ (ZcH hl)
   obtain⟨q0,hqe,hq0,e1,e2⟩:∃ q0:Nat,(hd σ (li s a b)).kX= (q0:Int)∧q0 < nn s∧pl s p0=b∧pl s q0=a:=by
    rcases c with⟨k,_⟩ | ⟨k,_⟩ | ⟨k,_⟩ | ⟨k,_⟩ | ⟨k,e,_,q,h1,h2,h3⟩
    ·omega
    ·omega
    ·omega
    ·omega
    ·exact⟨q,h1,h2,e,h3⟩
   refine h.un ⟨fun p q=>?_,fun p q=>?_,fun _ _=>rfl,fun _ _=>rfl,fun _ _=>rfl⟩ (id1 _ rfl) (id3 _ rfl)
   ·have:=Zdh (k:=2) (p:=p) (q:=q) hl (li s (pl s p) (pl s q));rw [Z4 (fun z=>by have:=z.1;omega)] at this;show asks s (drop1 (li s a b) σ) p q=_;unfold asks;rw [this];split <;> rfl
   ·have:=Zdh (k:=5) (p:=p) (q:=q) hl (li s (pl s q) (pl s p));rw [ZkO (d:=5) (p0:=p0) (q0:=q0) hk hpe hqe] at this;unfold bb;rw [this];show kc 5 p q (ZT σ.be b (σ.be b ++ [hd σ (li s a b)]) (pl s p)) + kc 5 p q (fl (drop1 (li s a b) σ) (li s (pl s q) (pl s p)))=_;by_cases c:p0=p∧q0=q
    ·rw [if_pos (by rw [← c.1,← c.2,e1,e2]),show pl s p=b by rw [← c.1,e1],Zq,ZfX,Zdi,Zlo,ZkO (d:=5) (p0:=p0) (q0:=q0) hk hpe hqe];omega
    ·rw [Z4 c]
     have:kc 5 p q (ZT σ.be b (σ.be b ++ [hd σ (li s a b)]) (pl s p))=kc 5 p q (σ.be (pl s p)):=by
      by_cases z:pl s p=b
      ·rw [z,Zq,ZfX,Zdi,Zlo,ZkO (d:=5) (p0:=p0) (q0:=q0) hk hpe hqe,Z4 c];rfl
      ·rw [ZA z]
     rw [this];split <;> omega
 | @ring w i hw hpk=>
   have e:=Qq s w i σ;have hi:i < (σ.be w).length:=Zc9 _ _ hpk;obtain⟨x,hx⟩:∃ x,x= (σ.be w).getD i default:= ⟨_,rfl⟩
   have hm:x ∈ σ.be w:=by rw [hx];exact Xd hi
   obtain⟨p0,hpe,hp0,hpw⟩:=h3 w hw x hm;obtain⟨⟨_,⟨q0,hqe,hq0⟩,_⟩,hk⟩:=h1.bea w hw x hm;have ea:∀ p q,asks s (rung s w i σ) p q=asks s σ p q:=fun p q=>Zs8 e.2.2.2.2.2.1 e.2.1
   have ew:∀ p q,wat (rung s w i σ) p q=wat σ p q:=fun p q=>Zpo e.2.2.2.2.2.2.1
   have eb:∀ p q,bb s σ p q=bb s (rung s w i σ) p q + one (p0=p∧q0=q):=fun p q=>by
    have hc:=Zxw (k:=5) (p:=p) (q:=q) hi;rw [← hx,ZkO (d:=5) (p0:=p0) (q0:=q0) hk hpe hqe] at hc;have hf:fl (rung s w i σ)=fl σ:=by unfold fl;rw [e.2.1,e.2.2.2.2.2.1]
    unfold bb;rw [hf,e.1];by_cases z:pl s p=w
    ·rw [z,Zq,hc];omega
    ·rw [ZA z,Z4 (fun c=>z (by rw [← c.1];exact hpw))];omega
   have e3:∀ p q,ec (rung s w i σ) 3 p q=ec σ 3 p q:=fun p q=>by
    unfold rung;split
    ·rw [Zfh,Z4 (fun z=>by have:=z.1;omega)];rfl
    ·rfl
   have e4:∀ p q,ec (rung s w i σ) 4 p q=ec σ 4 p q + (if σ.st p0=1 then one (p0=p∧q0=q) else 0):=fun p q=>by
    unfold rung;rw [← hx,hpe,Int.toNat_natCast];split
    ·rw [hqe,Zi4];rfl
    ·rfl
   refine⟨fun p q hp hq=>?_,fun p q hp hq z=>?_,fun p q hp hq z=>?_,fun p q hp hq z=>?_⟩
   ·have l:=h.le p q hp hq;rw [eb] at l;rw [e3,e4,ea,ew];split <;> omega
   ·rw [e.2.2.1] at z;have l:=h.eq p q hp hq z;rw [eb] at l;rw [e3,e4,ea,ew];by_cases c:p0=p∧q0=q
    ·rw [if_pos (by rw [c.1];exact z)];omega
    ·rw [Z4 c] at l ⊢;split <;> omega
   ·rw [e.2.2.1];refine h.dead p q hp hq ?_;rw [eb];rw [e4] at z;split at z <;> omega
   ·rw [ew];rw [e.2.2.1] at z;exact h.wz p q hp hq z
end
end
section
structure MB (s:Zb) (σ:TS):Prop where
 ma:∀ p i,i < mm s * mm s ->σ.ma p i <= ((σ.sn i).length:Int)
 le:∀ j,∀ x ∈ σ.sn j,∀ i,i < mm s * mm s ->x.qX.getD i 0 <= ((σ.sn i).length:Int)
 be:∀ m,∀ x ∈ σ.be m,∀ i,i < mm s * mm s ->x.qX.getD i 0 <= ((σ.sn i).length:Int)
section
variable {s:Zb} {σ τ υ:TS} {F B a b p q w i j n d r p0 q0:Nat} {x:Zd} {k:Int} {l:List ZE} {picks:List Int}
def MX (s:Zb) (σ:TS) (x:Zd):Prop:=∀ i,i < mm s * mm s ->x.qX.getD i 0 <= ((σ.sn i).length:Int)
theorem MB.congr (h:MB s σ) (h1:τ.sn=σ.sn) (h2:τ.be=σ.be) (h3:τ.ma=σ.ma):MB s τ:= ⟨by rw [h1,h3];exact h.ma,by rw [h1];exact h.le,by rw [h1,h2];exact h.be⟩
theorem MB.send (h:MB s σ) (hx:MX s σ x):MB s (Proofs.YtcnahmgekicbdaaGreat.send s a b x σ):=by
 have up:∀ i,(σ.sn i).length <= ((Proofs.YtcnahmgekicbdaaGreat.send s a b x σ).sn i).length:=SnM.send x;refine⟨fun p i hi=>Int.le_trans (h.ma p i hi) (by have:=up i;omega),fun j y hy i hi=>?_,fun m y hy i hi=>Int.le_trans (h.be m y hy i hi) (by have:=up i;omega)⟩;refine Int.le_trans ?_ (Int.ofNat_le.2 (up i));by_cases e:j=li s a b
 ·subst e;rw [Zad] at hy;rcases List.mem_append.1 hy with hy | hy
  ·exact h.le _ y hy i hi
  ·rw [List.mem_singleton.1 hy];exact hx i hi
 ·rw [QS e] at hy;exact h.le _ y hy i hi
theorem MB.wait (h:MB s σ) (hx:MX s σ x):MB s (Proofs.YtcnahmgekicbdaaGreat.wait a x σ):=by
 refine⟨h.ma,h.le,fun m y hy i hi=>?_⟩;have hy:y ∈ ZT σ.be a (σ.be a ++ [x]) m:=hy;by_cases e:m=a
 ·subst e;rw [Zq] at hy;rcases List.mem_append.1 hy with hy | hy
  ·exact h.be _ y hy i hi
  ·rw [List.mem_singleton.1 hy];exact hx i hi
 ·rw [ZA e] at hy;exact h.be _ y hy i hi
theorem Zde (hi:i < mm s * mm s):(Us s σ p).getD i 0=σ.ma p i:=by
 unfold Us;have:=Yw (f:=σ.ma p) hi;rw [Qf 0 (by rw [Qp];exact hi)] at this;exact Oi0 this
theorem MB.Us (h:MB s σ) (d p q n:Int) (p':Nat):MX s σ ⟨d,p,q,n,Proofs.YtcnahmgekicbdaaGreat.Us s σ p'⟩:=fun i hi=>by
 show(Proofs.YtcnahmgekicbdaaGreat.Us s σ p').getD i 0 <=_;rw [Zde hi];exact h.ma p' i hi
theorem MX.nil (d p q n:Int):MX s σ ⟨d,p,q,n,[]⟩:=fun i hi=>by show(0:Int) <=_;omega
theorem MB.YH (h:MB s σ) (p q:Nat):MB s (Proofs.YtcnahmgekicbdaaGreat.YH s p q σ):=by
 unfold Proofs.YtcnahmgekicbdaaGreat.YH;split
 ·exact h.wait (h.Us _ _ _ _ _)
 ·exact h.send (h.Us _ _ _ _ _)
theorem MB.note (h:MB s σ) (p q:Nat):MB s (Proofs.YtcnahmgekicbdaaGreat.note s p q σ):=by
 unfold Proofs.YtcnahmgekicbdaaGreat.note;split
 ·exact h.YH _ _
 ·exact h.congr rfl rfl rfl
theorem MB.see (h:MB s σ) (p q:Nat) (n:Int):MB s (Proofs.YtcnahmgekicbdaaGreat.see p q n σ):=by
 have e:=XT p q n σ;exact h.congr e.2.2.2.2.1 e.2.2.2.2.2.1 e.2.2.1
theorem MB.ZF (h:MB s σ) (p:Nat):MB s (Proofs.YtcnahmgekicbdaaGreat.ZF s p σ):=by
 have h1:MB s (Zu s p (σ.wa p) (QW p σ)):=QA _ (MB s) (σ.wa p) (QW p σ) (h.congr rfl rfl rfl) fun τ x _ hτ=>hτ.YH _ _
 refine⟨fun p' i hi=>?_,h1.le,h1.be⟩;show ZT (Zu s p (σ.wa p) (QW p σ)).ma p (ZdE s (Zu s p (σ.wa p) (QW p σ)) p (mm s)) p' i <=_;by_cases e:p'=p
 ·subst e;rw [Zq];unfold ZdE;split
  ·exact Int.le_refl _
  ·exact h1.ma _ i hi
 ·rw [ZA e];exact h1.ma _ i hi
theorem MB.learn (h:MB s σ) {l:List Int} (hl:∀ i,i < mm s * mm s ->l.getD i 0 <= ((σ.sn i).length:Int)) (p:Nat):MB s (Z8 s p l σ):=by
 refine⟨fun p' i hi=>?_,h.le,h.be⟩;show ZT σ.ma (inn s (p:Int)).toNat (mx (σ.ma (inn s (p:Int)).toNat) l) p' i <= ((σ.sn i).length:Int);by_cases e:p'= (inn s (p:Int)).toNat
 ·rw [e,Zq];have h1:=h.ma (inn s (p:Int)).toNat i hi;have h2:=hl i hi;unfold mx;split <;> omega
 ·rw [ZA e];exact h.ma _ i hi
theorem MB.act (h:MB s σ) (ac:Act s σ τ):MB s τ:=by
 cases ac with
 | fall=>exact h.congr rfl rfl rfl
 | J7=>exact h.send (MX.nil _ _ _ _)
 | @die p hp h2 hA=>
   have hA:=h.ZF p;unfold JI;split
   ·exact hA
   ·split
    ·exact hA.learn (fun i hi=>by rw [Zde hi];exact hA.ma p i hi) p
    ·exact hA.send (hA.Us _ _ _ _ _)
 | @ZaS p q=>exact(h.congr (τ:=kK p q σ) rfl rfl rfl).see _ _ _
 | @ZaR p q=>exact(h.congr (τ:=kK p q σ) rfl rfl rfl).send (MX.nil _ _ _ _)
 | @ZaN p q hp=>exact(h.congr (τ:=tell 3 p q 0 σ) rfl rfl rfl).note _ _
 | @ZaM p q=>exact(h.congr (τ:=tell 3 p q 0 σ) rfl rfl rfl).send (MX.nil _ _ _ _)
 | @Za0 a b p q=>exact(h.congr (τ:=drop1 (li s a b) σ) rfl rfl rfl).see _ _ _
 | @Za2 a b p q=>exact(h.congr (τ:=drop1 (li s a b) σ) rfl rfl rfl).note _ _
 | Zab=>exact h.congr rfl rfl rfl
 | @KV a b p ha hb hl=>exact(h.congr (τ:=drop1 (li s a b) σ) rfl rfl rfl).learn (fun i hi=>h.le _ _ (ZcH hl) i hi) p
 | @Za1 a b ha hb hl=>exact(h.congr (τ:=drop1 (li s a b) σ) rfl rfl rfl).wait (fun i hi=>h.le _ _ (ZcH hl) i hi)
 | @ring w i hw hpk=>
   have e:=Qq s w i σ;refine⟨by rw [e.2.2.2.2.1,e.2.2.2.2.2.1];exact h.ma,by rw [e.2.2.2.2.2.1];exact h.le,fun m y hy j hj=>?_⟩;rw [e.2.2.2.2.2.1];rw [e.1] at hy;by_cases z:m=w
   ·subst z;rw [Zq] at hy;exact h.be _ y (ZcO hy) j hj
   ·rw [ZA z] at hy;exact h.be _ y hy j hj
theorem ZrL (h:P2 s σ) (he:opens s σ= []) (hi:i < mm s * mm s):σ.ld i= (σ.sn i).length:=by
 have h1:=h.ld i;have h2:¬ i ∈ opens s σ:=by rw [he];simp
 rw [Zda] at h2;have:¬ σ.ld i < (σ.sn i).length:=fun z=>h2 ⟨hi,z⟩
 omega
theorem ZkT (hF:100000 <=F) {l:List Zg} (hl:l.length <=9000) (d p o:Int):ZqD F l d p o=some ((c3 l d p o:Nat):Int):=by
 unfold ZqD c3;refine Xf (fun k=>((((l.take k).countP (fun x=>((x.kZ==d) && (x.kV==p)) && (x.kX==o)):Nat):Int),(k:Int))) rfl (n:=l.length) (by omega) (fun k hk next=>?_) (fun next=>?_)
 ·have hc:=List.countP_le_length (p:=fun x:Zg=>((x.kZ==d) && (x.kV==p)) && (x.kX==o)) (l:=l.take k);rw [List.length_take] at hc;unfold Zl4;dsimp only;rw [YQ hk,Cq1,Qf default hk,ZCM hk];simp only [Bq0];unfold ZiV;cases h:((((l.getD k default).kZ==d) && ((l.getD k default).kV==p)) && ((l.getD k default).kX==o)) with
  | true=>rw [Cq1,if_pos rfl,Qw (by omega),Qw (by omega)]
  | false=>rw [Cq0,if_neg (by decide),Qw (by omega)];rfl
 ·unfold Zl4;dsimp only;rw [Y2,Cq0,List.take_length]
end
end
end Go.Proofs.YtcnahmgekicbdaaGreat
end
