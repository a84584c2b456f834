/- Part 14. -/
import Derived.Test.YtcnahmgekicbdaaGreatEa13
set_option linter.all false
set_option maxHeartbeats 2000000
section
namespace Go.Proofs.YtcnahmgekicbdaaGreat
open Go.Lf
section
def inn (w:Zb) (q:Int):Int:= (w.Zf.getD q.toNat default).U2
def up (w:Zb):Nat ->Int ->Int
 | 0,q=>q
 | k + 1,q=>if q < 0 then q else up w k (inn w q)
theorem ZfK {w:Zb} {q:Int} (h:q < 0) (k:Nat):up w k q=q:=by
 cases k with
 | zero=>rfl
 | succ k=>show(if q < 0 then q else _)=q;rw [if_pos h]
theorem Ui (w:Zb) (k:Nat) (q:Int):up w (k + 1) q=if up w k q < 0 then up w k q else inn w (up w k q):=by
 induction k generalizing q with
 | zero=>rfl
 | succ k ih=>
   show(if q < 0 then q else up w (k + 1) (inn w q))=_;by_cases h:q < 0
   ·rw [if_pos h,ZfK h,if_pos h]
   ·rw [if_neg h,ih];show _=if(if q < 0 then q else up w k (inn w q)) < 0 then _ else _
    rw [if_neg h];show _=if _ then(if q < 0 then q else up w k (inn w q)) else inn w (if q < 0 then q else up w k (inn w q))
    rw [if_neg h]
theorem up_add (w:Zb) (a b:Nat) (q:Int):up w (a + b) q=up w b (up w a q):=by
 induction a generalizing q with
 | zero=>rw [Nat.zero_add];rfl
 | succ a ih=>
   rw [show a + 1 + b= (a + b) + 1 by omega];show(if q < 0 then q else up w (a + b) (inn w q))=up w b (if q < 0 then q else up w a (inn w q));by_cases h:q < 0
   ·rw [if_pos h,if_pos h,ZfK h]
   ·rw [if_neg h,if_neg h,ih]
theorem UL {w:Zb} {q:Int} {a:Nat} (h:up w a q < 0) {b:Nat} (hb:a <=b):up w b q < 0:=by
 obtain⟨d,rfl⟩:∃ d,b=a + d:= ⟨b - a,by omega⟩
 rw [up_add,ZfK h];exact h
def okN (w:Zb) (q:Int):Prop:=-1 <=q∧q < (w.Zf.length:Int)
instance (w:Zb) (q:Int):Decidable (okN w q):=by unfold okN;infer_instance
structure Inn (w:Zb):Prop where
 rng:∀ p:Nat,p < w.Zf.length ->okN w (inn w p)
 acy:∀ p:Nat,p < w.Zf.length ->up w w.Zf.length p < 0
theorem Inn.up {w:Zb} (h:Inn w) {q:Int} (hq:okN w q) (k:Nat):okN w (up w k q):=by
 induction k with
 | zero=>exact hq
 | succ k ih=>
   rw [Ui];by_cases h2:Proofs.YtcnahmgekicbdaaGreat.up w k q < 0
   ·rw [if_pos h2];exact ih
   ·rw [if_neg h2];have:=h.rng (Proofs.YtcnahmgekicbdaaGreat.up w k q).toNat (by have:=ih.2;omega)
    rwa [Int.toNat_of_nonneg (by omega)] at this
theorem Znq {w:Zb} (hr:∀ p:Nat,p < w.Zf.length ->okN w (inn w p)):(∀ p:Nat,p < w.Zf.length ->up w w.Zf.length p < 0)↔∀ p:Nat,p < w.Zf.length ->∀ j,j <=w.Zf.length ->up w (j + 1) p ≠ (p:Int):=by
 constructor
 ·intro h p hp j hj e
  have:∀ m:Nat,up w (m * (j + 1)) p= (p:Int):=fun m=>by
   induction m with
   | zero=>rw [Nat.zero_mul];rfl
   | succ m ih=>rw [Nat.succ_mul,up_add,ih,e]
  have h2:=UL (h p hp) (b:=w.Zf.length * (j + 1)) (Nat.le_mul_of_pos_right _ (by omega));rw [this] at h2;omega
 ·intro h p hp;rcases Int.lt_or_le (up w w.Zf.length p) 0 with q | q
  ·exact q
  ·exfalso
   have hk:∀ k,k <=w.Zf.length ->0 <=up w k p:=fun k hk=>by
    rcases Int.lt_or_le (up w k p) 0 with z | z
    ·have:=UL z hk;omega
    ·exact z
   have hok:∀ k,okN w (up w k p):=fun k=>by
    induction k with
    | zero=>exact⟨by show(-1:Int) <= (p:Int);omega,by show(p:Int) < _;omega⟩
    | succ k ih=>
      rw [Ui];by_cases h2:up w k p < 0
      ·rw [if_pos h2];exact ih
      ·rw [if_neg h2];have:=hr (up w k p).toNat (by have:=ih.2;omega)
       rwa [Int.toNat_of_nonneg (by omega)] at this
   obtain⟨i,j,h1,h2,h3⟩:=ZHo w.Zf.length (fun k=>(up w k p).toNat) fun k hk'=>by
    have:= (hok k).2;have:=hk k hk';omega
   have e:up w i p=up w j p:=by have:=hk i (by omega);have:=hk j h2;omega
   have hi:=hk i (by omega);have:=h (up w i p).toNat (by have:= (hok i).2;omega) (j - i - 1) (by omega);apply this;rw [Int.toNat_of_nonneg hi,show j - i - 1 + 1=j - i by omega,← up_add,show i + (j - i)=j by omega,e]
theorem Zdb {w:Zb} {q:Int} (h:okN w q) (h2:¬ q < 0):∃ k:Nat,q= (k:Int)∧k < w.Zf.length:= ⟨q.toNat,by omega,by have:=h.2;omega⟩
def spt (w:Zb) (p:Nat):ZP:=w.Zf.getD p default
theorem QC {w:Zb} {p:Nat} (hp:p < w.Zf.length):ZR w.Zf (p:Int)=some (spt w p):=QD default hp
theorem J5 (w:Zb) (p:Nat):(spt w p).U2=inn w (p:Int):=by unfold spt inn;rw [Int.toNat_natCast]
def Wth (w:Zb) (p x:Nat):Prop:=∃ j,up w j (x:Int)= (p:Int)
theorem Wth.bound {w:Zb} (hi:Inn w) {p x:Nat} (hx:x < w.Zf.length) (h:Wth w p x):∃ j,j < w.Zf.length∧up w j (x:Int)= (p:Int):=by
 obtain⟨j,e⟩:=h;refine⟨j,Classical.byContradiction fun q=>?_,e⟩;have:=UL (hi.acy x hx) (show w.Zf.length <=j by omega);omega
def ZAW (w:Zb) (p x:Nat):Bool:= (List.range w.Zf.length).any fun j=>up w j (x:Int)== (p:Int)
theorem ZvN {w:Zb} (hi:Inn w) {p x:Nat} (hx:x < w.Zf.length):ZAW w p x=true↔Wth w p x:=by
 unfold ZAW;rw [List.any_eq_true]
 constructor
 ·rintro⟨j,_,e⟩;exact⟨j,beq_iff_eq.1 e⟩
 ·intro h;obtain⟨j,hj,e⟩:=h.bound hi hx;exact⟨j,List.mem_range.2 hj,beq_iff_eq.2 e⟩
def desc (w:Zb):Nat ->Nat ->List Int
 | 0,_=>[]
 | d + 1,v=>(v:Int)::(List.range w.Zf.length).flatMap fun k:Nat=>if inn w (k:Int)= (v:Int) then desc w d k else []
def Kv (w:Zb) (d v:Nat):Prop:=∀ k,k < w.Zf.length ->∀ j,d <=j ->up w j (k:Int) ≠ (v:Int)
theorem Kv.all {w:Zb} (hi:Inn w) {v:Nat}:Kv w w.Zf.length v:=fun k hk j hj q=>by
 have:=UL (hi.acy k hk) hj;omega
theorem ZA8 {w:Zb} {x k v j:Nat} (h1:up w j (x:Int)= (k:Int)) (h2:inn w (k:Int)= (v:Int)):up w (j + 1) (x:Int)= (v:Int):=by
 rw [Ui,h1,if_neg (by omega),h2]
theorem Kv.kid {w:Zb} {d v k:Nat} (h:Kv w (d + 1) v) (h2:inn w (k:Int)= (v:Int)):Kv w d k:=fun x hx j hj q=>h x hx (j + 1) (by omega) (ZA8 q h2)
def kids (w:Zb) (d v k:Nat):List Int:= (List.range k).flatMap fun k:Nat=>if inn w (k:Int)= (v:Int) then desc w d k else []
structure Xk (s:Zb):Prop where
 m1:1 <=s.qG
 m2:s.qG <=4
 p1:1 <=s.Zf.length
 p2:s.Zf.length <=8
 at_:∀ p,p < s.Zf.length ->0 <= (spt s p).at_∧(spt s p).at_ < s.qG
 inn:Inn s
def Ends (s:Zb) (p:Nat):Prop:=∃ m,m <=s.Zf.length∧up s (m + 1) (p:Int) < 0
section
variable {F:Nat} {s:Zb}
theorem ZlO (hr:∀ p:Nat,p < s.Zf.length ->okN s (inn s p)) {p:Nat} (hp:p < s.Zf.length):∀ k,okN s (up s k (p:Int)):=by
 intro k
 induction k with
 | zero=>exact⟨by show(-1:Int) <= (p:Int);omega,by show(p:Int) < _;omega⟩
 | succ k ih=>
   rw [Ui];by_cases h2:up s k p < 0
   ·rw [if_pos h2];exact ih
   ·rw [if_neg h2];obtain⟨j,e,hj⟩:=Zdb ih h2;rw [e];exact hr j hj
theorem Zo2 (hr:∀ p:Nat,p < s.Zf.length ->okN s (inn s p)):(∀ p,p < s.Zf.length ->Ends s p)↔∀ p:Nat,p < s.Zf.length ->up s s.Zf.length (p:Int) < 0:=by
 constructor
 ·intro h;refine(Znq hr).2 fun p hp j hj e=>?_
  obtain⟨m,hm,he⟩:=h p hp
  have:∀ k:Nat,up s (k * (j + 1)) p= (p:Int):=fun k=>by
   induction k with
   | zero=>rw [Nat.zero_mul];rfl
   | succ k ih=>rw [Nat.succ_mul,up_add,ih,e]
  have h2:=UL he (b:= (m + 1) * (j + 1)) (Nat.le_mul_of_pos_right _ (by omega));rw [this] at h2;omega
 ·intro h p hp;exact⟨s.Zf.length,Nat.le_refl _,UL (h p hp) (by omega)⟩
theorem Zrw (hF:1000 <=F) (h8:s.Zf.length <=8) (hr:∀ p:Nat,p < s.Zf.length ->okN s (inn s p)) {p:Nat} (hp:p < s.Zf.length) (v30:Int) (next:Int×Int ->Option Int):
 loop F (Zjd s (p:Int) next) (inn s (p:Int),v30,0,false)=ifc (Ends s p) (next (((p + 1:Nat):Int),v30)) (some 2):=by
 have e0:(inn s (p:Int),v30,(0:Int),false)= (up s (0 + 1) p,v30,((0:Nat):Int),false):=by
  rw [Ui];show _= (if((p:Int)) < 0 then _ else _,_);rw [if_neg (by omega)];rfl
 obtain⟨m,hm,hs,hlt⟩:=ZaU (c:=fun k=>s.Zf.length <=k∨up s (k + 1) p < 0) (n:=s.Zf.length) (.inl (by omega))
 have hj:∀ j,j < m ->j < s.Zf.length∧¬ up s (j + 1) p < 0:=fun j hj=>by
  have:=hlt j hj;exact⟨Classical.byContradiction fun z=>this (.inl (by omega)),fun q=>this (.inr q)⟩
 refine XO (fun j=>(up s (j + 1) p,v30,(j:Int),false)) e0.symm (n:=m) (by omega) (fun j hjm nx=>?_) (fun nx=>?_)
 ·obtain⟨a1,a2⟩:=hj j hjm;obtain⟨k,e,hk⟩:=Zdb (ZlO hr hp (j + 1)) a2;unfold Zjd;dsimp only;rw [Ui s (j + 1),if_neg a2,e,Ze4,Cq1,QI (by omega),decide_eq_false (by omega),QC hk];simp only [Cq0,Bool.not_true,Bq0];rw [J5]
 ·unfold Zjd;dsimp only;by_cases h2:up s (m + 1) p < 0
  ·rw [decide_eq_false (show ¬ up s (m + 1) p >=0 by omega),Cq0,ZL ⟨m,hm,h2⟩];unfold Zgj;dsimp only;rw [Cq0,QI (by omega)]
  ·have hml:m=s.Zf.length:=by rcases hs with z | z;· omega
                              ·exact absurd z h2
   obtain⟨k,e,hk⟩:=Zdb (ZlO hr hp (m + 1)) h2
   have hne:¬ Ends s p:=by
    rintro⟨j,h1,h3⟩;have:=UL h3 (show j + 1 <=m + 1 by omega);exact h2 this
   rw [e,Ze4,Cq1,QI (by omega),decide_eq_true (show((m + 1:Nat):Int) > (s.Zf.length:Int) by omega),ZF hne]
   rfl
theorem Zxz (hF:1000 <=F) (h8:s.Zf.length <=8) (hr:∀ p:Nat,p < s.Zf.length ->okN s (inn s p)) {p:Nat} (hp:p < s.Zf.length) (next:Int ->Option Bool):
 loop F (Zji s (p:Int) next) (inn s (p:Int),0)=ifc (∀ j,j <=s.Zf.length ->up s (j + 1) p ≠ (p:Int)) (next ((p + 1:Nat):Int)) (some false):=by
 have hok:=ZlO hr hp
 have e0:(inn s (p:Int),(0:Int))= (up s (0 + 1) p,((0:Nat):Int)):=by
  rw [Ui];show _= (if((p:Int)) < 0 then _ else _,_);rw [if_neg (by omega)];rfl
 obtain⟨m,hm,hs,hlt⟩:=ZaU (c:=fun k=>s.Zf.length < k∨up s (k + 1) p < 0∨up s (k + 1) p= (p:Int)) (n:=s.Zf.length + 1) (.inl (by omega))
 have hj:∀ j,j < m ->j <=s.Zf.length∧¬ up s (j + 1) p < 0∧up s (j + 1) p ≠ (p:Int):=fun j hj=>by
  have:=hlt j hj;exact⟨Classical.byContradiction fun z=>this (.inl (by omega)),fun q=>this (.inr (.inl q)),fun q=>this (.inr (.inr q))⟩
 refine XO (fun j=>(up s (j + 1) p,(j:Int))) e0.symm (n:=m) (by omega) (fun j hjm nx=>?_) (fun nx=>?_)
 ·obtain⟨a1,a2,a3⟩:=hj j hjm;obtain⟨k,e,hk⟩:=Zdb (hok (j + 1)) a2;unfold Zji;dsimp only;rw [Ui s (j + 1),if_neg a2];rw [e] at a3 ⊢;rw [decide_eq_true (show(j:Int) <= (s.Zf.length:Int) by omega),Ze4,Bool.and_self,Cq1,Xi,decide_eq_false a3,Cq0,QC hk];simp only [Bq0];rw [QI (by omega),J5]
 ·unfold Zji;dsimp only;by_cases h1:s.Zf.length < m
  ·rw [decide_eq_false (show ¬ (m:Int) <= (s.Zf.length:Int) by omega),Bool.false_and,Cq0,QI (by omega),ZL fun j q1=>(hj j (by omega)).2.2]
  ·by_cases h2:up s (m + 1) p < 0
   ·rw [decide_eq_false (show ¬ up s (m + 1) p >=0 by omega),Bool.and_false,Cq0,QI (by omega),ZL];intro j q1 q2;rcases Nat.lt_or_ge j m with z | z
    ·exact(hj j z).2.2 q2
    ·have:=UL h2 (show m + 1 <=j + 1 by omega);omega
   ·have h3:up s (m + 1) p= (p:Int):=by
     rcases hs with z | z | z
     ·exact absurd z h1
     ·exact absurd z h2
     ·exact z
    rw [decide_eq_true (show(m:Int) <= (s.Zf.length:Int) by omega),h3,Ze4,Bool.and_self,Cq1,Xi,decide_eq_true rfl,Cq1,ZF fun z=>z m (by omega) h3]
def Rng (s:Zb) (p:Nat):Prop:= (0 <= (spt s p).at_∧(spt s p).at_ < s.qG)∧okN s (inn s (p:Int))
def Bnd (s:Zb):Prop:=1 <=s.qG∧s.qG <=4∧1 <=s.Zf.length∧s.Zf.length <=8
theorem ZhH (s:Zb):((((decide (s.qG < 1)) || (decide (s.qG > 4))) || (decide ((s.Zf.length:Int) < 1))) || (decide ((s.Zf.length:Int) > 8)))=true↔¬ Bnd s:=by
 unfold Bnd;simp only [Bool.or_eq_true,decide_eq_true_eq];omega
theorem Zac:Xk s↔Bnd s∧(∀ p,p < s.Zf.length ->Rng s p)∧∀ p:Nat,p < s.Zf.length ->up s s.Zf.length (p:Int) < 0:=
 ⟨fun h=>⟨⟨h.m1,h.m2,h.p1,h.p2⟩,fun p hp=>⟨h.at_ p hp,h.inn.rng p hp⟩,h.inn.acy⟩,fun h=>⟨h.1.1,h.1.2.1,h.1.2.2.1,h.1.2.2.2,fun p hp=>(h.2.1 p hp).1,⟨fun p hp=>(h.2.1 p hp).2,h.2.2⟩⟩⟩
theorem ZtU (hF:1000 <=F) (s:Zb):Zrd F s=ifc (Xk s) (some true) (some false):=by
 unfold Zrd;rcases Classical.em (¬ Bnd s) with hb | hb
 ·rw [(ZhH s).2 hb,Cq1,ZF fun z=>hb (Zac.1 z).1]
 have hb:=Classical.not_not.1 hb;rw [Bool.eq_false_iff.2 fun z=>(ZhH s).1 z hb,Cq0];have h8:=hb.2.2.2
 have e1:=Zai (body:=Zjj F s) (r1:=some false) (r2:=loop F (Zgn F s) 0) (s0:= (0:Int)) (fun k=>(k:Int)) rfl (Rng s) (n:=s.Zf.length) (F:=F) (by omega) (fun k hk next=>by
  unfold Zjj;rw [YU hk,Cq1,QC hk];simp only [Bq0];rw [J5];by_cases r:Rng s k
  ·have r1:=r.1.1;have r2:=r.1.2;have r3:=r.2.1;have r4:=r.2.2;rw [ZL r,decide_eq_false (by omega),decide_eq_false (by omega),decide_eq_false (by omega),decide_eq_false (by omega)];simp only [Bool.or_self,Cq0];rw [QI (by omega)]
  ·rw [ZF r]
   have:((((decide ((spt s k).at_ < 0)) || (decide ((spt s k).at_ >=s.qG))) || (decide (inn s (k:Int) < (-1)))) || (decide (inn s (k:Int) >= (s.Zf.length:Int))))=true:=by
    rw [← Bool.not_eq_false];intro z;simp only [Bool.or_eq_false_iff,decide_eq_false_iff_not] at z;exact r ⟨⟨by omega,by omega⟩,by omega,by omega⟩
   rw [this,Cq1]) (fun next=>by
  unfold Zjj;rw [Xb,Cq0])
 rw [e1];by_cases hr:∀ p,p < s.Zf.length ->Rng s p
 ·have hr':∀ p:Nat,p < s.Zf.length ->okN s (inn s p):=fun p hp=>(hr p hp).2
  have e2:=Zai (body:=Zgn F s) (r1:=some false) (r2:=some true) (s0:= (0:Int)) (fun k=>(k:Int)) rfl (fun p:Nat=>∀ j,j <=s.Zf.length ->up s (j + 1) p ≠ (p:Int)) (n:=s.Zf.length) (F:=F) (by omega) (fun k hk next=>by
   unfold Zgn;rw [YU hk,Cq1,QC hk];simp only [Bq0];rw [J5];exact Zxz hF h8 hr' hk next) (fun next=>by
   unfold Zgn;rw [Xb,Cq0])
  rw [ZL hr,e2];by_cases ha:∀ p:Nat,p < s.Zf.length ->up s s.Zf.length (p:Int) < 0
  ·rw [ZL (Zac.2 ⟨hb,hr,ha⟩),ZL ((Znq hr').1 ha)]
  ·rw [ZF fun z=>ha (Zac.1 z).2.2,ZF fun z=>ha ((Znq hr').2 z)]
 ·rw [ZF hr,ZF fun z=>hr (Zac.1 z).2.1]
theorem Zrv (hF:1000 <=F) (s:Zb):Zzl F s=ifc (Xk s) (some 0) (some 2):=by
 unfold Zzl;rcases Classical.em (¬ Bnd s) with hb | hb
 ·rw [(ZhH s).2 hb,Cq1,ZF fun z=>hb (Zac.1 z).1]
 have hb:=Classical.not_not.1 hb;rw [Bool.eq_false_iff.2 fun z=>(ZhH s).1 z hb,Cq0];have h8:=hb.2.2.2
 have e1:=Zai (body:=Zje F s) (r1:=some 2) (r2:=loop F (Zgk F s) (0,0)) (s0:= (0:Int)) (fun k=>(k:Int)) rfl (Rng s) (n:=s.Zf.length) (F:=F) (by omega) (fun k hk next=>by
  unfold Zje ZmB;rw [YU hk,Cq1,QC hk];simp only [Bq0];rw [J5];by_cases r1:0 <= (spt s k).at_∧(spt s k).at_ < s.qG
  ·rw [decide_eq_false (show ¬ (spt s k).at_ < 0 by omega),decide_eq_false (show ¬ (spt s k).at_ >=s.qG by omega)];simp only [Bool.or_self,Bool.not_false,Bool.true_and,Bool.false_or];by_cases r2:inn s (k:Int)=-1
   ·rw [r2,Zdh,ZaR];simp only [Bq0,Bool.false_and,Cq0];rw [QI (by omega),ZL ⟨r1,by rw [r2];unfold okN;omega⟩]
   ·rw [ZbD,decide_eq_true r2,Km];simp only [Bq0,Bool.true_and];by_cases r3:0 <=inn s (k:Int)∧inn s (k:Int) < (s.Zf.length:Int)
    ·rw [decide_eq_true (show inn s (k:Int) >=0 from r3.1),decide_eq_true r3.2,Bool.and_self,Bool.not_true,Cq0,QI (by omega),ZL ⟨r1,by unfold okN;omega⟩]
    ·have:(decide (inn s (k:Int) >=0) && decide (inn s (k:Int) < (s.Zf.length:Int)))=false:=by
      rw [← Bool.not_eq_true];intro z;simp only [Ba0,decide_eq_true_eq] at z;exact r3 ⟨z.1,z.2⟩
     rw [this,Bool.not_false,Cq1,ZF];rintro⟨_,a,b⟩;exact r3 ⟨by omega,b⟩
  ·have:(decide ((spt s k).at_ < 0) || decide ((spt s k).at_ >=s.qG))=true:=by
    rw [← Bool.not_eq_false];intro z;simp only [Bool.or_eq_false_iff,decide_eq_false_iff_not] at z;exact r1 ⟨by omega,by omega⟩
   rw [this];simp only [Bool.not_true,Bool.false_and,ZaR,Bq0,Bool.true_or,Cq1];rw [ZF fun z=>r1 z.1]) (fun next=>by
  unfold Zje;rw [Xb,Cq0])
 rw [e1];by_cases hr:∀ p,p < s.Zf.length ->Rng s p
 ·have hr':∀ p:Nat,p < s.Zf.length ->okN s (inn s p):=fun p hp=>(hr p hp).2
  have e2:=Zai (body:=Zgk F s) (r1:=some 2) (r2:=some 0) (s0:= ((0:Int),(0:Int))) (fun k=>((k:Int),(0:Int))) rfl (Ends s) (n:=s.Zf.length) (F:=F) (by omega) (fun k hk next=>by
   unfold Zgk;dsimp only;rw [YU hk,Cq1,QC hk];simp only [Bq0];rw [J5];exact Zrw hF h8 hr' hk 0 next) (fun next=>by
   unfold Zgk;dsimp only;rw [Xb,Cq0])
  rw [ZL hr,e2];by_cases ha:∀ p:Nat,p < s.Zf.length ->up s s.Zf.length (p:Int) < 0
  ·rw [ZL (Zac.2 ⟨hb,hr,ha⟩),ZL ((Zo2 hr').2 ha)]
  ·rw [ZF fun z=>ha (Zac.1 z).2.2,ZF fun z=>ha ((Zo2 hr').1 z)]
 ·rw [ZF hr,ZF fun z=>hr (Zac.1 z).2.1]
end
end
section
section
variable {F:Nat} {s:Zb}
theorem ZkJ (s:Zb) (p:Int):(decide (p >=0) && decide (p < (s.Zf.length:Int)))=true↔∃ k:Nat,p= (k:Int)∧k < s.Zf.length:=by
 rw [Ba0,decide_eq_true_eq,decide_eq_true_eq]
 constructor
 ·rintro⟨a,b⟩;exact⟨p.toNat,by omega,by omega⟩
 ·rintro⟨k,rfl,h⟩;omega
theorem ZlL {k:Nat} (h:k < s.Zf.length):(decide ((k:Int) >=0) && decide ((k:Int) < (s.Zf.length:Int)))=true:= (ZkJ s k).2 ⟨k,rfl,h⟩
theorem up1 {p:Nat}:up s (0 + 1) (p:Int)=inn s (p:Int):=by
 rw [Ui];show(if((p:Int)) < 0 then _ else _)=_;rw [if_neg (by omega)];rfl
end
end
section
def Pl (w:Zb) (p:Int):Prop:=∃ k:Nat,p= (k:Int)∧k < w.Zf.length
structure Told (w:Zb) (e:Zg):Prop where
 pl:Pl w e.kV
 n0:0 <=e.n
 dd:((e.kZ=1∨e.kZ=2)∧Pl w e.kX)∨((e.kZ=3∨e.kZ=4)∧Pl w e.kX∧e.n=0)∨((e.kZ=5∨e.kZ=6)∧e.kX=0∧e.n=0)
section
variable {F:Nat} {w:Zb} {d p o n:Int}
theorem ZC3 {l:List Zg} {k:Nat} (h:k < l.length) (f:Zg ->Bool):((l.take (k + 1)).countP f:Nat)= (l.take k).countP f + (if f (l.getD k default)=true then 1 else 0):=by
 rw [List.take_succ_eq_append_getElem h,List.countP_append,ZcG h];congr 1;rw [List.countP_cons,List.countP_nil,Nat.zero_add]
def c3 (l:List Zg) (d p o:Int):Nat:=l.countP fun x=>((x.kZ==d) && (x.kV==p)) && (x.kX==o)
end
end
section
def k1 (l:List Zg) (e:Zg):Nat:=l.countP fun x=>((x.kZ==1) && (x.n==e.n)) && ((e.kZ==1) || ((x.kV==e.kX) && (x.kX==e.kV)))
def k2 (l:List Zg) (e:Zg):Nat:=l.countP fun x=>(x.kZ==2) && (x.n==e.n)
def ZsN (w:Zb) (l:List Zg) (p:Int):Bool:= (List.range w.Zf.length).any fun q:Nat=>(inn w (q:Int)==p) && decide (c3 l 6 (q:Int) 0=0)
def atW (w:Zb) (p:Int):Int:= (w.Zf.getD p.toNat default).at_
def Zws (w:Zb) (l:List Zg) (e:Zg):Bool:=l.any fun x=>((x.kZ==4) && (atW w x.kV==atW w e.kV)) && ZAW w x.kX.toNat e.kX.toNat
def KS (w:Zb) (l:List Zg) (e:Zg):Int:=
 bif(e.kZ !=6) && decide (c3 l 5 e.kV 0 > 0) then 1
 else bif e.kZ==1 then(bif decide (k1 l e > 0) then 2 else 0)
 else bif e.kZ==2 then(bif decide (k1 l e=0) || decide (k2 l e > 0) then 2 else bif Zws w l e then 5 else 0)
 else bif e.kZ==6 then(bif(decide (c3 l 5 e.kV 0=0) || decide (c3 l 6 e.kV 0 > 0)) || ZsN w l e.kV then 3 else 0)
 else bif e.kZ==4 then(bif decide (c3 l 6 e.kX 0=0) || decide (c3 l 4 e.kV e.kX >=c3 l 3 e.kV e.kX) then 4 else 0)
 else 0
section
variable {F:Nat} {w:Zb}
end
end
section
section
variable {F:Nat} {w:Zb}
end
end
section
def tab {α:Type} (n:Nat) (f:Nat ->α):List α:= (List.range n).map f
def Z0 {α:Type} (f:Nat ->α) (k:Nat) (v:α):Nat ->α:=fun j=>if j=k then v else f j
theorem Zq {α:Type} (f:Nat ->α) (k:Nat) (v:α):Z0 f k v k=v:=if_pos rfl
theorem Zz {α:Type} {f:Nat ->α} {k j:Nat} {v:α} (h:j ≠ k):Z0 f k v j=f j:=if_neg h
theorem Zur {α:Type} (f:Nat ->α) (k:Nat) (v w:α):Z0 (Z0 f k v) k w=Z0 f k w:=by funext j;unfold Z0;by_cases h:j=k <;> simp [h]
section
variable {α:Type} {n k:Nat} {f g:Nat ->α} {v:α}
theorem Qh:(tab n f).length=n:=by simp [tab]
theorem Zhl (h:k < n):(tab n f)[k]? =some (f k):=by simp [tab,h]
theorem Yx (h:k < n):ZR (tab n f) (k:Int)=some (f k):=by rw [Ze2,Zhl h]
theorem QS:Y5 (tab n f) (k:Int) v=tab n (Z0 f k v):=by
 unfold Y5;apply List.ext_getElem?;intro j;rw [Int.toNat_natCast,List.getElem?_set,Qh];by_cases hj:j < n
 ·rw [Zhl hj,Zhl hj];unfold Z0;by_cases e:k=j
  ·subst e;simp [hj]
  ·rw [if_neg e,if_neg (fun q=>e q.symm)]
 ·rw [List.getElem?_eq_none (by rw [Qh];omega),List.getElem?_eq_none (by rw [Qh];omega)];by_cases e:k=j
  ·subst e;simp [hj]
  ·rw [if_neg e]
theorem Wh (h:∀ k,k < n ->f k=g k):tab n f=tab n g:=by
 unfold tab;exact List.map_congr_left fun k hk=>h k (List.mem_range.1 hk)
theorem ZhR:tab (n + 1) f=tab n f ++ [f n]:=by simp [tab,List.range_succ]
end
theorem ZA9 {α:Type} (n:Nat) (x:α):List.replicate n x=tab n fun _=>x:=by
 apply List.ext_getElem?;intro j;by_cases hj:j < n
 ·rw [Zhl hj,List.getElem?_replicate,if_pos hj]
 ·rw [List.getElem?_eq_none (by simp;omega),List.getElem?_eq_none (by rw [Qh];omega)]
structure TS where
 st:Nat ->Int
 ma:Nat ->Nat ->Int
 kn:Nat ->List Int
 wa:Nat ->List Int
 be:Nat ->List Zd
 sn:Nat ->List Zd
 ld:Nat ->Nat
 sd:Int
 ev:List Zg
section
variable (s:Zb)
def nn:Nat:=s.Zf.length
def mm:Nat:=s.qG.toNat
def pl (p:Nat):Nat:= (spt s p).at_.toNat
def li (a b:Nat):Nat:=a * mm s + b
def lnk (σ:TS) (i:Nat):Zn:= ⟨(σ.ld i:Int),(σ.sn i).drop (σ.ld i)⟩
def vw (σ:TS):Zh:= ⟨tab (nn s) σ.st,tab (nn s) fun p=>tab (mm s * mm s) (σ.ma p),tab (nn s) σ.kn,tab (nn s) σ.wa,tab (mm s) σ.be,tab (mm s * mm s) (lnk σ),σ.sd⟩
def hal (σ:TS):ZC:= ⟨vw s σ,s,σ.ev⟩
def tell (d p q n:Int) (σ:TS):TS:= {σ with ev:=σ.ev ++ [⟨d,p,q,n⟩]}
def send (a b:Nat) (x:Zd) (σ:TS):TS:= {σ with sn:=Z0 σ.sn (li s a b) (σ.sn (li s a b) ++ [x])}
def wait (m:Nat) (x:Zd) (σ:TS):TS:= {σ with be:=Z0 σ.be m (σ.be m ++ [x])}
def UH (σ:TS) (p:Nat):List Int:=tab (mm s * mm s) (σ.ma p)
def YP (p q:Nat) (σ:TS):TS:=if pl s p=pl s q then wait (pl s p) ⟨5,p,q,0,UH s σ q⟩ σ else send s (pl s q) (pl s p) ⟨5,p,q,0,UH s σ q⟩ σ
def see (p q:Nat) (n:Int) (σ:TS):TS:=if σ.st p=1 then tell 2 p q n σ else σ
def note (p q:Nat) (σ:TS):TS:=if σ.st q=3 then YP s p q σ else{σ with wa:=Z0 σ.wa q (σ.wa q ++ [(p:Int)])}
structure Few (B:Nat) (σ:TS):Prop where
 ev:σ.ev.length <=B
 sn:∀ i,i < mm s * mm s ->(σ.sn i).length <=B
 be:∀ m,m < mm s ->(σ.be m).length <=B
 wa:∀ q,q < nn s ->(σ.wa q).length <=B
 ld:∀ i,i < mm s * mm s ->σ.ld i <= (σ.sn i).length
 ws:∀ q,q < nn s ->∀ x ∈ σ.wa q,∃ k:Nat,x= (k:Int)∧k < nn s
end
section
variable {s:Zb} {σ:TS} {a b p q k B:Nat}
theorem Xk.mm (h:Xk s):s.qG= (Proofs.YtcnahmgekicbdaaGreat.mm s:Int)∧1 <=Proofs.YtcnahmgekicbdaaGreat.mm s∧Proofs.YtcnahmgekicbdaaGreat.mm s <=4:=by
 have:=h.m1;have:=h.m2;unfold Proofs.YtcnahmgekicbdaaGreat.mm;omega
theorem Xk.pl (h:Xk s) (hp:p < nn s):(spt s p).at_= (Proofs.YtcnahmgekicbdaaGreat.pl s p:Int)∧Proofs.YtcnahmgekicbdaaGreat.pl s p < Proofs.YtcnahmgekicbdaaGreat.mm s:=by
 have:=h.at_ p hp;have:=h.mm.1;unfold Proofs.YtcnahmgekicbdaaGreat.pl;omega
theorem J3 (ha:a < mm s) (hb:b < mm s):li s a b < mm s * mm s:=by
 unfold li;have:(a + 1) * mm s <=mm s * mm s:=Nat.mul_le_mul_right _ ha;rw [Nat.add_mul,Nat.one_mul] at this;omega
theorem ZcB (hS:Xk s) (ha:a < mm s) (hb:b < mm s):YA (YA ((a:Int) * s.qG) + (b:Int))= ((li s a b:Nat):Int):=by
 obtain⟨e,h1,h4⟩:=hS.mm;have hl:=J3 ha hb;have h16:mm s * mm s <=16:=Nat.mul_le_mul h4 h4;have hm:a * mm s <=li s a b:=by unfold li;omega
 rw [e];have e1:(a:Int) * ((mm s:Nat):Int)= ((a * mm s:Nat):Int):=by rw [Int.natCast_mul]
 have e3:YA ((a * mm s:Nat):Int)= ((a * mm s:Nat):Int):=WN (by omega) (by omega);have e2:((a * mm s:Nat):Int) + (b:Int)= ((li s a b:Nat):Int):=by unfold li;omega
 rw [e1,e3,e2];exact WN (by omega) (by omega)
theorem U0 (hS:Xk s) (hp:p < nn s):WT (hal s σ) (p:Int)=some (pl s p:Int):=by
 unfold WT;show(ZR s.Zf (p:Int)).bind _=_;rw [QC hp];simp only [Bq0];rw [(hS.pl hp).1]
theorem Ky (h:Few s 800000 σ) (d p q n:Int):Zj7 (hal s σ) d p q n=some (hal s (tell d p q n σ)):=by
 unfold Zj7;show(app 32 σ.ev _).bind _=_;rw [app1 (by have:=h.ev;omega) (by decide)];rfl
theorem ZxA (h:Few s B σ) (ha:a < mm s) (hb:b < mm s) (x:Zd):tab (mm s * mm s) (Z0 (lnk σ) (li s a b) ⟨(σ.ld (li s a b):Int),(σ.sn (li s a b)).drop (σ.ld (li s a b)) ++ [x]⟩)=tab (mm s * mm s) (lnk (send s a b x σ)):=by
 refine Wh fun k hk=>?_
 by_cases e:k=li s a b
 ·subst e;rw [Zq];show _= (⟨_,(Z0 σ.sn (li s a b) _ (li s a b)).drop _⟩:Zn);rw [Zq];show _= (⟨_,(σ.sn (li s a b) ++ [x]).drop (σ.ld (li s a b))⟩:Zn);rw [List.drop_append_of_le_length (h.ld _ hk)];rfl
 ·rw [Zz e];show _= (⟨_,(Z0 σ.sn (li s a b) _ k).drop _⟩:Zn);rw [Zz e];rfl
theorem ZaE (hS:Xk s) (h:Few s 800000 σ) (ha:a < mm s) (hb:b < mm s) (x:Zd):Zmu (hal s σ) (a:Int) (b:Int) x=some (hal s (send s a b x σ)):=by
 unfold Zmu;show(ZR (tab (mm s * mm s) (lnk σ)) (YA (YA ((a:Int) * s.qG) + (b:Int)))).bind _=_;have hl:=J3 ha hb;rw [ZcB hS ha hb,Yx hl];simp only [Bq0];have:((lnk σ (li s a b)).kG).length <=900000:=by have:=h.sn _ hl;unfold lnk;simp;omega
 rw [app1 this (by decide)];simp only [Bq0];show some (ZC.mk (Zh.mk _ _ _ _ _ (Y5 (tab (mm s * mm s) (lnk σ)) (YA (YA ((a:Int) * s.qG) + (b:Int))) _) _) _ _)=_;rw [ZcB hS ha hb,QS,show(lnk σ (li s a b)).ZU= (σ.ld (li s a b):Int) from rfl,show(lnk σ (li s a b)).kG= (σ.sn (li s a b)).drop (σ.ld (li s a b)) from rfl,ZxA h ha hb x];rfl
theorem Zku (h:Few s 800000 σ) (ha:a < mm s) (x:Zd):Zk8 (hal s σ) (a:Int) x=some (hal s (wait a x σ)):=by
 unfold Zk8;show(ZR (tab (mm s) σ.be) (a:Int)).bind _=_;rw [Yx ha];simp only [Bq0];rw [app1 (by have:=h.be a ha;omega) (by decide)];simp only [Bq0];show(ZR (tab (mm s) σ.be) (a:Int)).bind (fun _=>some (ZC.mk (Zh.mk _ _ _ _ (Y5 (tab (mm s) σ.be) (a:Int) _) _ _) _ _))=_;rw [Yx ha,QS];rfl
theorem Zoh (hS:Xk s) (hq:q < nn s):app 8 ([]:List Int) (UH s σ q)=some (UH s σ q):=by
 have:(UH s σ q).length <=16:=by unfold UH;rw [Qh];exact Nat.mul_le_mul hS.mm.2.2 hS.mm.2.2
 rw [ZDt (by simp;omega)];rfl
theorem Zfg (a b:Nat):(((a:Int))== ((b:Int)))=decide (a=b):=by
 rw [Xi];by_cases h:a=b
 ·subst h;simp
 ·rw [decide_eq_false h,decide_eq_false (by omega)]
theorem Zli (hS:Xk s) (h:Few s 800000 σ) (hp:p < nn s) (hq:q < nn s):ZuA (hal s σ) (p:Int) (q:Int)=some (hal s (YP s p q σ)):=by
 unfold ZuA Zg4;show(ZR (tab (nn s) fun p=>tab (mm s * mm s) (σ.ma p)) (q:Int)).bind _=_;rw [Yx hq];simp only [Bq0];rw [show app 8 ([]:List Int) (tab (mm s * mm s) (σ.ma q))=some (UH s σ q) from Zoh hS hq];simp only [Bq0];rw [U0 hS hp,U0 hS hq];simp only [Bq0];rw [Zfg];unfold YP;by_cases e:pl s p=pl s q
 ·rw [decide_eq_true e,Cq1,if_pos e,Zku h (hS.pl hp).2];rfl
 ·rw [decide_eq_false e,Cq0,if_neg e,ZaE hS h (hS.pl hq).2 (hS.pl hp).2];rfl
theorem ZnR (h:Few s 800000 σ) {x:Zd} (hx:x.kX= (p:Int)) (hp:p < nn s):ZuC (hal s σ) x=some (hal s (if σ.st p=1 then tell 2 p x.kV x.n σ else σ)):=by
 unfold ZuC;rw [hx];show(ZR (tab (nn s) σ.st) (p:Int)).bind _=_;rw [Yx hp];simp only [Bq0];rw [Xi];by_cases e:σ.st p=1
 ·rw [decide_eq_true e,Cq1,if_pos e,Ky h];rfl
 ·rw [decide_eq_false e,Cq0,if_neg e]
theorem ZkM (hS:Xk s) (h:Few s 800000 σ) {x:Zd} (hx:x.kV= (p:Int)) (hy:x.kX= (q:Int)) (hp:p < nn s) (hq:q < nn s):ZuB (hal s σ) x=some (hal s (note s p q σ)):=by
 unfold ZuB;rw [hx,hy];show(ZR (tab (nn s) σ.st) (q:Int)).bind _=_;rw [Yx hq];simp only [Bq0];unfold note;rw [Xi];by_cases e:σ.st q=3
 ·rw [decide_eq_true e,Cq1,if_pos e,Zli hS h hp hq];rfl
 ·rw [decide_eq_false e,Cq0,if_neg e];show(ZR (tab (nn s) σ.wa) (q:Int)).bind _=_;rw [Yx hq];simp only [Bq0];rw [app1 (by have:=h.wa _ hq;omega) (by decide)];simp only [Bq0];show(ZR (tab (nn s) σ.wa) (q:Int)).bind (fun _=>some (ZC.mk (Zh.mk _ _ _ (Y5 (tab (nn s) σ.wa) (q:Int) _) _ _ _) _ _))=_;rw [Yx hq,QS];rfl
end
end
section
def Alo (s:Zb) (σ:TS) (p:Nat):Prop:=∀ k:Nat,k < nn s ->inn s (k:Int)= (p:Int) ->(k:Int) ∈ σ.kn p
def ins (k:Int) (l:List Int):List Int:=l.takeWhile (fun x=>decide (x < k)) ++ k::l.dropWhile (fun x=>decide (x < k))
def mx (f:Nat ->Int) (l:List Int) (i:Nat):Int:=if l.getD i 0 > f i then l.getD i 0 else f i
theorem ZDs:∀ (l:List Int) (a b:Int),l.Pairwise (· < ·) ->(∀ x ∈ l,a <=x∧x < b) ->(l.length:Int) <=max 0 (b - a):=by
 intro l
 induction l with
 | nil=>intro a b _ _;simp;omega
 | cons x xs ih=>
   intro a b h1 h2;obtain⟨p1,p2⟩:=List.pairwise_cons.1 h1;have:=ih (x + 1) b p2 fun y hy=>⟨by have:=p1 y hy;omega,(h2 y (by simp [hy])).2⟩
   have:=h2 x (by simp);rw [List.length_cons];omega
section
variable {s:Zb} {σ:TS} {F p k q:Nat}
theorem ZxM {l:List Int} (hF:1000 <=F) (hl:l.length <=500) (x:Int):∃ r,ZoR F l x=some r∧(r >=0↔x ∈ l):=by
 unfold ZoR;by_cases hz:∃ j,j < l.length∧l.getD j 0=x
 ·obtain⟨j,hj⟩:=hz;obtain⟨m,_,⟨hm,hx⟩,hlt⟩:=ZaU (c:=fun j=>j < l.length∧l.getD j 0=x) hj;refine⟨(m:Int),XO (fun k=>(k:Int)) rfl (n:=m) (by omega) (fun k hk next=>?_) (fun next=>?_),?_⟩
  ·unfold Zdo;rw [YU (show k < l.length by omega),Cq1,QD 0 (show k < l.length by omega)];simp only [Bq0];rw [Xi,decide_eq_false (fun e=>hlt k hk ⟨by omega,e.symm⟩),Cq0,QI (by omega)]
  ·unfold Zdo;rw [YU hm,Cq1,QD 0 hm];simp only [Bq0];rw [Xi,decide_eq_true hx.symm,Cq1]
  ·exact⟨fun _=>by rw [← hx];exact XK hm,fun _=>by omega⟩
 ·refine⟨-1,XO (fun k=>(k:Int)) rfl (n:=l.length) (by omega) (fun k hk next=>?_) (fun next=>?_),?_⟩
  ·unfold Zdo;rw [YU hk,Cq1,QD 0 hk];simp only [Bq0];rw [Xi,decide_eq_false (fun e=>hz ⟨k,hk,e.symm⟩),Cq0,QI (by omega)]
  ·unfold Zdo;rw [Xb,Cq0]
  ·refine⟨fun h=>by omega,fun h=>?_⟩;obtain⟨j,hj,e⟩:=List.getElem_of_mem h;exact absurd ⟨j,hj,by rw [ZcG hj];exact e⟩ hz
theorem contains_eq {l:List Int} (hF:1000 <=F) (hl:l.length <=500) (x:Int):Zuz F l x=some (decide (x ∈ l)):=by
 obtain⟨r,h1,h2⟩:=ZxM (F:=F) hF hl x;unfold Zuz;rw [h1];simp only [Bq0];congr 1;by_cases h:x ∈ l
 ·rw [decide_eq_true h,decide_eq_true (h2.2 h)]
 ·rw [decide_eq_false h,decide_eq_false fun q=>h (h2.1 q)]
theorem Zer (hF:1000 <=F) (hS:Xk s) (hp:p < nn s) (hl:(σ.kn p).length <=500):ZoP F (hal s σ) (p:Int)=ifc (Alo s σ p) (some true) (some false):=by
 unfold ZoP Zmt;simp only [Bq0];have h8:=hS.p2
 have e:=Zai (body:=Zi9 F (hal s σ) (p:Int)) (r1:=some false) (r2:=some true) (s0:= ((0:Int),false)) (fun k=>((k:Int),false)) rfl (fun k:Nat=>inn s (k:Int)= (p:Int) ->(k:Int) ∈ σ.kn p) (n:=nn s) (F:=F) (by unfold nn;omega) (fun k hk next=>by
  unfold Zi9;dsimp only;rw [show(hal s σ).qK.Zf=s.Zf from rfl,show((s.Zf.length:Nat):Int)= ((nn s:Nat):Int) from rfl,YU hk,Cq1,QC hk];simp only [Bq0];rw [J5,Xi];by_cases e:inn s (k:Int)= (p:Int)
  ·rw [decide_eq_true e,Cq1,Cq0];show(ZR (tab (nn s) σ.kn) (p:Int)).bind _=_;rw [Yx hp];simp only [Bq0];rw [contains_eq hF hl];simp only [Bq0,Bool.not_false,Bool.not_true,Cq1,Cq0];by_cases m:(k:Int) ∈ σ.kn p
   ·rw [decide_eq_true m,Bool.not_true,Cq0,ZL (fun _=>m),QI (by unfold nn at hk;omega)]
   ·rw [decide_eq_false m,Bool.not_false,Cq1,ZF (fun z=>m (z e))];rfl
  ·rw [decide_eq_false e,Cq0,ZL (fun z=>absurd z e),QI (by unfold nn at hk;omega)]) (fun next=>by
  unfold Zi9;dsimp only;rw [show(hal s σ).qK.Zf=s.Zf from rfl,show((s.Zf.length:Nat):Int)= ((nn s:Nat):Int) from rfl,Xb,Cq0]
  rfl)
 rw [e];rfl
def ZxI (s:Zb) (p:Nat):List Nat:= (List.range (nn s)).filter fun q:Nat=>inn s (q:Int)== (p:Int)
theorem ZiL:k ∈ ZxI s p↔k < nn s∧inn s (k:Int)= (p:Int):=by unfold ZxI;simp
end
theorem Zkv {l:List Int} {k:Int}:(l.takeWhile fun x=>decide (x < k)).length <=l.length:=by
 induction l with
 | nil=>simp
 | cons x xs ih=>
   rw [List.takeWhile_cons];by_cases h:x < k <;> simp [h];omega
theorem ZLw {l:List Int} {k:Int}:∀ j,j < (l.takeWhile fun x=>decide (x < k)).length ->l.getD j 0 < k:=by
 induction l with
 | nil=>intro j hj;simp at hj
 | cons x xs ih=>
   intro j hj;rw [List.takeWhile_cons] at hj;by_cases h:x < k
   ·rw [decide_eq_true h,if_pos rfl,List.length_cons] at hj;cases j with
    | zero=>simpa using h
    | succ j=>have:=ih j (by omega);simpa using this
   ·rw [decide_eq_false h] at hj;simp at hj
theorem ZLx {l:List Int} {k:Int} (hs:l.Pairwise (· < ·)):∀ j,(l.takeWhile fun x=>decide (x < k)).length <=j ->j < l.length ->k <=l.getD j 0:=by
 induction l with
 | nil=>intro j _ hj;simp at hj
 | cons x xs ih=>
   intro j h1 h2;obtain⟨p1,p2⟩:=List.pairwise_cons.1 hs;rw [List.takeWhile_cons] at h1;by_cases h:x < k
   ·rw [decide_eq_true h,if_pos rfl,List.length_cons] at h1;cases j with
    | zero=>omega
    | succ j=>have:=ih p2 j (by omega) (by simpa using h2);simpa using this
   ·cases j with
    | zero=>simpa using h
    | succ j=>
      have hj:j < xs.length:=by simpa using h2
      have:=p1 _ (XK (d:=0) hj);simp only [List.getD_cons_succ];omega
theorem ZnH {l:List Int} {k:Int}:l.take (l.takeWhile fun x=>decide (x < k)).length=l.takeWhile (fun x=>decide (x < k))∧l.drop (l.takeWhile fun x=>decide (x < k)).length=l.dropWhile (fun x=>decide (x < k)):=by
 have h:=List.takeWhile_append_dropWhile (p:=fun x:Int=>decide (x < k)) (l:=l)
 constructor
 ·conv=>lhs;rw [← h]
  rw [List.takeWhile_append_dropWhile];have:∀ (a b:List Int),(a ++ b).take a.length=a:=fun a b=>by simp
  conv=>lhs;arg 2;rw [← h]
  exact this _ _
 ·have:∀ (a b:List Int),(a ++ b).drop a.length=b:=fun a b=>by simp
  conv=>lhs;arg 2;rw [← h]
  exact this _ _
theorem ZHE (k:Int) (l:List Int):ins k l=l.take (l.takeWhile fun x=>decide (x < k)).length ++ k::l.drop (l.takeWhile fun x=>decide (x < k)).length:=by
 unfold ins;rw [ZnH.1,ZnH.2]
theorem Ws {k x:Int} {l:List Int}:x ∈ ins k l↔x=k∨x ∈ l:=by
 unfold ins
 conv=>rhs;rhs;rw [← List.takeWhile_append_dropWhile (p:=fun x:Int=>decide (x < k)) (l:=l)]
 simp only [List.mem_append,List.mem_cons]
 constructor
 ·rintro(h | h | h)
  ·exact .inr (.inl h)
  ·exact .inl h
  ·exact .inr (.inr h)
 ·rintro(h | h | h)
  ·exact .inr (.inl h)
  ·exact .inl h
  ·exact .inr (.inr h)
theorem ZqG {k:Int}:∀ {l:List Int},l.Pairwise (· < ·) ->k ∉ l ->(ins k l).Pairwise (· < ·):=by
 intro l
 induction l with
 | nil=>intro _ _;simp [ins]
 | cons x xs ih=>
   intro hs hk;obtain⟨p1,p2⟩:=List.pairwise_cons.1 hs;simp at hk;by_cases h:x < k
   ·have e:ins k (x::xs)=x::ins k xs:=by unfold ins;simp [List.takeWhile_cons,List.dropWhile_cons,h]
    rw [e]
    exact List.pairwise_cons.2 ⟨fun y hy=>by rcases Ws.1 hy with z | z;· rw [z];exact h
                                             ·exact p1 y z,ih p2 hk.2⟩
   ·have e:ins k (x::xs)=k::x::xs:=by unfold ins;simp [List.takeWhile_cons,List.dropWhile_cons,h]
    rw [e]
    exact List.pairwise_cons.2 ⟨fun y hy=>by rcases List.mem_cons.1 hy with z | z;· rw [z];omega
                                             ·have:=p1 y z;omega,hs⟩
theorem ZBy (a b:Int):ZoS a b=some (decide (a < b)):=by
 unfold ZoS Zk7;simp [gd]
theorem Zkz {F:Nat} {l:List Int} {k:Int} (hF:1000 <=F) (hl:l.length <=500) (hs:l.Pairwise (· < ·)) (hk:k ∉ l):Zk6 F l k=some (((l.takeWhile fun x=>decide (x < k)).length:Int),false):=by
 unfold Zk6;obtain⟨c,hc⟩:∃ c,c= (l.takeWhile fun x=>decide (x < k)).length:= ⟨_,rfl⟩
 have h1:∀ j,j < c ->l.getD j 0 < k:=fun j hj=>ZLw j (by omega)
 have h2:∀ j,c <=j ->j < l.length ->k <=l.getD j 0:=fun j a b=>ZLx hs j (by omega) b
 have hcl:c <=l.length:=by rw [hc];exact Zkv
 rw [← hc]
 have key:∀ d F i j:Nat,d < F ->j - i <=d ->i <=c ->c <=j ->j <=l.length ->loop F (Ze7 l k) ((i:Int),(j:Int))=some ((c:Int),false):=by
  intro d
  induction d with
  | zero=>
    intro F i j hF hd hi hj hjl;have:i=c:=by omega
    subst this;have:j=i:=by omega
    subst this;cases F with
    | zero=>omega
    | succ F=>
      rw [UC];unfold Ze7;dsimp only;rw [Xb,Cq0,ZHs];by_cases hlt:j < l.length
      ·rw [decide_eq_true hlt,QD 0 hlt];have:l.getD j 0 ≠ k:=fun e=>hk (by rw [← e];exact XK hlt)
       rw [Km];simp only [Bq0];rw [Xi,decide_eq_false this];simp [gd,Zk4,QD 0 hlt]
      ·rw [decide_eq_false hlt];simp [gd]
  | succ d ih=>
    intro F i j hF hd hi hj hjl;by_cases hij:i < j
    ·cases F with
     | zero=>omega
     | succ F=>
       rw [UC];unfold Ze7;dsimp only;have e1:YA ((i:Int) + (j:Int))= ((i + j:Nat):Int):=by rw [WN (by omega) (by omega)];omega
       have e2:IntKind.wrap .u64 (((i + j:Nat):Int))= ((i + j:Nat):Int):=by
        show(((i + j:Nat):Int)) % 18446744073709551616=_;omega
       have e3:YA ((((i + j:Nat):Int)) / 2)= (((i + j) / 2:Nat):Int):=by rw [WN (by omega) (by omega)];omega
       obtain⟨m,hm⟩:∃ m,m= (i + j) / 2:= ⟨_,rfl⟩
       rw [YU hij,Cq1,e1,e2,e3,← hm,QD 0 (by omega)];simp only [Bq0];rw [ZBy];simp only [Bq0];by_cases hx:l.getD m 0 < k
       ·rw [decide_eq_true hx,Cq1,QI (by omega)];have:m < c:=Classical.byContradiction fun z=>by have:=h2 m (by omega) (by omega);omega
        exact ih F (m + 1) j (by omega) (by omega) (by omega) hj hjl
       ·rw [decide_eq_false hx,Cq0];have:c <=m:=Classical.byContradiction fun z=>by have:=h1 m (by omega);omega
        exact ih F i m (by omega) (by omega) hi this (by omega)
    ·exact ih F i j (by omega) (by omega) hi hj hjl
 have:=key l.length F 0 l.length (by omega) (by omega) (Nat.zero_le _) hcl (Nat.le_refl _);exact this
theorem insert_eq {l:List Int} {k:Int} (hl:l.length <=500):ZoQ l ((l.takeWhile fun x=>decide (x < k)).length:Int) [k]=some (ins k l):=by
 unfold ZoQ;have:=Zkv (l:=l) (k:=k);rw [Nm0 (by omega),decide_eq_true (show(0:Int) <= ((l.takeWhile fun x=>decide (x < k)).length:Int) by omega),decide_eq_true (show((l.takeWhile fun x=>decide (x < k)).length:Int) <= (l.length:Int) by omega)];show some _=_;rw [Int.toNat_natCast,ZHE,List.append_assoc];rfl
theorem Zqy {β:Type} {F n:Nat} {f:Nat ->Int} {l:List Int} {r:Option β} (hF:n < F) (hn:n <=1000) (hl:l.length=n) {body:Int×List Int ->(Int×List Int ->Option β) ->Option β}
 (hb:∀ v8 (k:Nat),k < n ->∀ next,body ((k:Int),v8) next= (ZR l (k:Int)).bind fun x=>(ZR v8 (k:Int)).bind fun y=>(ZR v8 (k:Int)).bind fun z=>next (YA ((k:Int) + 1),Y5 v8 (k:Int) (if x > y then x else y)))
 (he:∀ next,body ((n:Int),tab n (mx f l)) next=r):loop F body (0,tab n f)=r:=by
 refine XO (fun k=>((k:Int),tab n fun i=>if i < k then mx f l i else f i)) (by simp) hF (fun k hk next=>?_) (fun next=>?_)
 ·rw [hb _ _ hk,QD 0 (by rw [hl];exact hk)];simp only [Bq0];rw [Yx hk];simp only [Bq0];rw [if_neg (Nat.lt_irrefl _),QS,QI (by omega)];congr 2;refine Wh fun i hi=>?_
  unfold Z0;by_cases e:i=k
  ·subst e;rw [if_pos rfl,if_pos (Nat.lt_succ_self _)];rfl
  ·rw [if_neg e];show(if i < k then mx f l i else f i)=_;by_cases h:i < k
   ·rw [if_pos h,if_pos (by omega)]
   ·rw [if_neg h,if_neg (by omega)]
 ·have:(tab n fun i=>if i < n then mx f l i else f i)=tab n (mx f l):=Wh fun i hi=>by rw [if_pos hi]
  show body ((n:Int),tab n fun i=>if i < n then mx f l i else f i) next=r;rw [this];exact he next
section
variable {F n:Nat} {f:Nat ->Int} {l:List Int}
theorem Ze1 (hF:1000 <=F) (hn:n <=500) (hl:l.length=n):Zk5 F [tab n f,l]=some (tab n (mx f l)):=by
 unfold Zk5 Zg4;have e0:ZR [tab n f,l] 0=some (tab n f):=rfl;rw [e0];simp only [Bq0];rw [ZDt (by rw [Qh];simp;omega)];simp only [Bq0,List.nil_append];have e1:slL [tab n f,l] 1 (([tab n f,l].length:Nat):Int)=some [l]:=rfl;rw [e1];simp only [Bq0];refine XO (fun k=>((k:Int),if k=0 then tab n f else tab n (mx f l))) rfl (n:=1) (by omega) (fun k hk next=>?_) (fun next=>?_)
 ·have:k=0:=by omega
  subst this;unfold Zhx;dsimp only;rw [show decide (((0:Nat):Int) < (([l].length:Nat):Int))=true from rfl,Cq1,show ZR [l] ((0:Nat):Int)=some l from rfl];simp only [Bq0];refine Zqy (by omega) (by omega) hl (fun v8 k hk next=>?_) (fun next'=>?_)
  ·unfold Zhw;dsimp only;rw [hl,YU hk,Cq1]
  ·unfold Zhw;dsimp only;rw [hl,Xb,Cq0];rfl
 ·unfold Zhx;dsimp only;rw [show decide (((1:Nat):Int) < (([l].length:Nat):Int))=false from rfl,Cq0];rfl
end
end
section
def Qu (n:Nat) (f:Nat ->Nat):Nat:= ((List.range n).map f).sum
section
variable {n k:Nat} {f g:Nat ->Nat}
theorem Kz:Qu (n + 1) f=Qu n f + f n:=by simp [Qu,List.range_succ]
theorem Zbc (h:∀ k,k < n ->f k=g k):Qu n f=Qu n g:=by
 unfold Qu;rw [List.map_congr_left fun k hk=>h k (List.mem_range.1 hk)]
theorem ZBa (h:∀ k,k < n ->f k <=g k):Qu n f <=Qu n g:=by
 induction n with
 | zero=>simp [Qu]
 | succ n ih=>rw [Kz,Kz];have:=ih fun k hk=>h k (by omega);have:=h n (by omega);omega
theorem UO (h:k < n):f k <=Qu n f:=by
 induction n with
 | zero=>omega
 | succ n ih=>
   rw [Kz];by_cases e:k=n
   ·subst e;omega
   ·have:=ih (by omega);omega
theorem ZnK {v:Nat} (h:k < n):Qu n (Z0 f k v) + f k=Qu n f + v:=by
 induction n with
 | zero=>omega
 | succ n ih=>
   rw [Kz,Kz];by_cases e:k=n
   ·subst e;rw [Zq,Zbc (f:=Z0 f k v) (g:=f) fun j hj=>Zz (by omega)];omega
   ·have:=ih (by omega);rw [Zz (by omega)];omega
theorem Zcg (h:k < n) (hg:∀ j,j < n ->j ≠ k ->g j=f j):Qu n g + f k=Qu n f + g k:=by
 rw [Zbc (f:=g) (g:=Z0 f k (g k)) fun j hj=>by
  by_cases e:j=k
  ·subst e;rw [Zq]
  ·rw [Zz e,hg j hj e]]
 exact ZnK h
theorem ZhS (n c:Nat):Qu n (fun _=>c)=n * c:=by
 induction n with
 | zero=>simp [Qu]
 | succ n ih=>rw [Kz,ih,Nat.succ_mul]
end
def ew (x:Zd):Nat:=if x.kW=1 then 1 else if x.kW=2 then 2 else if x.kW=5 then 1 else 0
def sw (x:Int):Nat:=if x=1 then 11 else if x=3 then 0 else 2
def fl (σ:TS) (i:Nat):List Zd:= (σ.sn i).drop (σ.ld i)
def lw (σ:TS) (i:Nat):Nat:= (σ.sn i).length + ((fl σ i).map ew).sum
def Pot (s:Zb) (σ:TS):Nat:=σ.ev.length + Qu (mm s * mm s) (lw σ) + Qu (mm s) (fun m=>(σ.be m).length) + Qu (nn s) (fun q=>2 * (σ.wa q).length) + Qu (nn s) (fun p=>sw (σ.st p))
structure Wf (s:Zb) (B:Nat) (σ:TS):Prop where
 pot:Pot s σ <=B
 ld:∀ i,i < mm s * mm s ->σ.ld i <= (σ.sn i).length
 ws:∀ q,q < nn s ->∀ x ∈ σ.wa q,∃ k:Nat,x= (k:Int)∧k < nn s
section
variable {s:Zb} {σ:TS} {B a b p q m:Nat}
theorem Wf.few (h:Wf s B σ) (hB:B <=800000):Few s 800000 σ:=by
 have hp:=h.pot;unfold Pot at hp;refine⟨by omega,fun i hi=>?_,fun m hm=>?_,fun q hq=>?_,h.ld,h.ws⟩
 ·have:=UO (f:=lw σ) hi;unfold lw at this;unfold lw at hp;omega
 ·have:=UO (f:=fun m=>(σ.be m).length) hm;omega
 ·have:=UO (f:=fun q=>2 * (σ.wa q).length) hq;omega
theorem Zxa (d p q n:Int):Pot s (tell d p q n σ)=Pot s σ + 1:=by
 show(σ.ev ++ [_]).length + Qu (mm s * mm s) (lw σ) + Qu (mm s) (fun m=>(σ.be m).length) + Qu (nn s) (fun q=>2 * (σ.wa q).length) + Qu (nn s) (fun p=>sw (σ.st p))=_;rw [List.length_append,List.length_singleton];unfold Pot;omega
theorem Zmn (hl:σ.ld (li s a b) <= (σ.sn (li s a b)).length) (x:Zd):fl (send s a b x σ) (li s a b)=fl σ (li s a b) ++ [x]:=by
 show(Z0 σ.sn (li s a b) _ (li s a b)).drop (σ.ld (li s a b))=_;rw [Zq,List.drop_append_of_le_length hl];rfl
theorem Zeg {i:Nat} (hi:i ≠ li s a b) (x:Zd):fl (send s a b x σ) i=fl σ i:=by
 show(Z0 σ.sn (li s a b) _ i).drop (σ.ld i)=_;rw [Zz hi];rfl
theorem Zc5 (x:Zd):(send s a b x σ).sn (li s a b)=σ.sn (li s a b) ++ [x]:=Zq _ _ _
theorem JI {i:Nat} (hi:i ≠ li s a b) (x:Zd):(send s a b x σ).sn i=σ.sn i:=Zz hi
theorem Zxb (ha:a < mm s) (hb:b < mm s) (hl:∀ i,i < mm s * mm s ->σ.ld i <= (σ.sn i).length) (x:Zd):Pot s (send s a b x σ)=Pot s σ + 1 + ew x:=by
 have hi:=J3 ha hb;have h:=Zcg (f:=lw σ) (g:=lw (send s a b x σ)) hi fun j _ hj=>by unfold lw;rw [JI hj,Zeg hj]
 have e:lw (send s a b x σ) (li s a b)=lw σ (li s a b) + 1 + ew x:=by
  unfold lw;rw [Zc5,Zmn (hl _ hi),List.length_append,List.map_append,List.sum_append];simp;omega
 show σ.ev.length + Qu (mm s * mm s) (lw (send s a b x σ)) + Qu (mm s) (fun m=>(σ.be m).length) + Qu (nn s) (fun q=>2 * (σ.wa q).length) + Qu (nn s) (fun p=>sw (σ.st p))=_;unfold Pot;omega
theorem Zqo (hm:m < mm s) (l:List Zd):Pot s {σ with be:=Z0 σ.be m l} + (σ.be m).length=Pot s σ + l.length:=by
 have h:=Zcg (f:=fun m=>(σ.be m).length) (g:=fun j=>(Z0 σ.be m l j).length) hm fun j _ hj=>by rw [Zz hj]
 rw [Zq] at h;show σ.ev.length + Qu (mm s * mm s) (lw σ) + Qu (mm s) (fun j=>(Z0 σ.be m l j).length) + Qu (nn s) (fun q=>2 * (σ.wa q).length) + Qu (nn s) (fun p=>sw (σ.st p)) + _=_;unfold Pot;omega
theorem Zw9 (hm:m < mm s) (x:Zd):Pot s (wait m x σ)=Pot s σ + 1:=by
 have:=Zqo (σ:=σ) hm (σ.be m ++ [x]);rw [List.length_append,List.length_singleton] at this;unfold wait;omega
theorem ZHl (hq:q < nn s) (l:List Int):Pot s {σ with wa:=Z0 σ.wa q l} + 2 * (σ.wa q).length=Pot s σ + 2 * l.length:=by
 have h:=Zcg (f:=fun q=>2 * (σ.wa q).length) (g:=fun j=>2 * (Z0 σ.wa q l j).length) hq fun j _ hj=>by rw [Zz hj]
 rw [Zq] at h;show σ.ev.length + Qu (mm s * mm s) (lw σ) + Qu (mm s) (fun m=>(σ.be m).length) + Qu (nn s) (fun j=>2 * (Z0 σ.wa q l j).length) + Qu (nn s) (fun p=>sw (σ.st p)) + _=_;unfold Pot;omega
theorem ZHm (hp:p < nn s) (v:Int):Pot s {σ with st:=Z0 σ.st p v} + sw (σ.st p)=Pot s σ + sw v:=by
 have h:=Zcg (f:=fun p=>sw (σ.st p)) (g:=fun j=>sw (Z0 σ.st p v j)) hp fun j _ hj=>by rw [Zz hj]
 rw [Zq] at h;show σ.ev.length + Qu (mm s * mm s) (lw σ) + Qu (mm s) (fun m=>(σ.be m).length) + Qu (nn s) (fun q=>2 * (σ.wa q).length) + Qu (nn s) (fun j=>sw (Z0 σ.st p v j)) + _=_;unfold Pot;omega
theorem ZCN (p q n:Int) (l:List Int):ew ⟨5,p,q,n,l⟩=1:=rfl
theorem Wf.tell (h:Wf s B σ) (d p q n:Int):Wf s (B + 1) (tell d p q n σ):= ⟨by rw [Zxa];have:=h.pot;omega,h.ld,h.ws⟩
theorem Wf.send (h:Wf s B σ) (ha:a < mm s) (hb:b < mm s) (x:Zd):Wf s (B + 1 + ew x) (send s a b x σ):=by
 refine⟨by rw [Zxb ha hb h.ld];have:=h.pot;omega,fun i hi=>?_,h.ws⟩;show σ.ld i <=_;by_cases e:i=li s a b
 ·subst e;rw [Zc5,List.length_append];have:=h.ld _ hi;omega
 ·rw [JI e];exact h.ld i hi
theorem Wf.wait (h:Wf s B σ) (hm:m < mm s) (x:Zd):Wf s (B + 1) (wait m x σ):= ⟨by rw [Zw9 hm];have:=h.pot;omega,h.ld,h.ws⟩
theorem Wf.up (h:Wf s B σ) {B':Nat} (hb:B <=B'):Wf s B' σ:= ⟨Nat.le_trans h.pot hb,h.ld,h.ws⟩
theorem Wf.YP (hS:Xk s) (h:Wf s B σ) (hp:p < nn s) (hq:q < nn s):Wf s (B + 2) (YP s p q σ):=by
 unfold Proofs.YtcnahmgekicbdaaGreat.YP;by_cases e:pl s p=pl s q
 ·rw [if_pos e];exact(h.wait (hS.pl hp).2 _).up (by omega)
 ·rw [if_neg e];exact(h.send (hS.pl hq).2 (hS.pl hp).2 _).up (by rw [ZCN];omega)
theorem Wf.wa (h:Wf s B σ) (hq:q < nn s) {l:List Int} (hl:∀ x ∈ l,∃ k:Nat,x= (k:Int)∧k < nn s) {B':Nat} (hB:B + 2 * l.length <=B' + 2 * (σ.wa q).length):Wf s B' {σ with wa:=Z0 σ.wa q l}:=by
 refine⟨?_,h.ld,fun j hj x hx=>?_⟩
 ·have:=ZHl (σ:=σ) hq l;have:=h.pot;omega
 ·have hx:x ∈ Z0 σ.wa q l j:=hx;by_cases e:j=q
  ·subst e;rw [Zq] at hx;exact hl x hx
  ·rw [Zz e] at hx;exact h.ws j hj x hx
theorem Wf.st (h:Wf s B σ) (hp:p < nn s) (v:Int) {B':Nat} (hB:B + sw v <=B' + sw (σ.st p)):Wf s B' {σ with st:=Z0 σ.st p v}:=
 ⟨by have:=ZHm (σ:=σ) hp v;have:=h.pot;omega,h.ld,h.ws⟩
theorem Wf.note (hS:Xk s) (h:Wf s B σ) (hp:p < nn s) (hq:q < nn s):Wf s (B + 2) (note s p q σ):=by
 unfold Proofs.YtcnahmgekicbdaaGreat.note;by_cases e:σ.st q=3
 ·rw [if_pos e];exact h.YP hS hp hq
 ·rw [if_neg e]
  exact h.wa hq (fun x hx=>by
   rcases List.mem_append.1 hx with hx | hx
   ·exact h.ws q hq x hx
   ·rw [List.mem_singleton.1 hx];exact⟨p,rfl,hp⟩) (by rw [List.length_append,List.length_singleton];omega)
theorem Wf.see (h:Wf s B σ) (p q:Nat) (n:Int):Wf s (B + 1) (see p q n σ):=by
 unfold Proofs.YtcnahmgekicbdaaGreat.see;by_cases e:σ.st p=1
 ·rw [if_pos e];exact h.tell _ _ _ _
 ·rw [if_neg e];exact h.up (by omega)
end
end
section
structure Kn (s:Zb) (σ:TS):Prop where
 srt:∀ q,q < nn s ->(σ.kn q).Pairwise (· < ·)
 rng:∀ q,q < nn s ->∀ x ∈ σ.kn q,∃ k:Nat,x= (k:Int)∧k < nn s∧inn s (k:Int)= (q:Int)∧σ.st k=3
noncomputable section
variable (s:Zb)
def ZdJ (σ:TS) (p K:Nat) (i:Nat):Int:=if i / mm s=pl s p∧i % mm s < K∧i % mm s ≠ pl s p then((σ.sn i).length:Int) else σ.ma p i
def Jd (p:Nat) (σ:TS):TS:= {σ with st:=Z0 σ.st p 3,ev:=σ.ev ++ [⟨6,(p:Int),0,0⟩],wa:=Z0 σ.wa p []}
def Zr (p:Nat) (l:List Int) (σ:TS):TS:=l.foldl (fun σ x=>YP s x.toNat p σ) σ
def ZPx (p:Nat) (σ:TS):TS:= {σ with ma:=Z0 σ.ma p (ZdJ s σ p (mm s))}
def ZM (p:Nat) (σ:TS):TS:=ZPx s p (Zr s p (σ.wa p) (Jd p σ))
def Yb (k:Nat) (l:List Int) (σ:TS):TS:= {σ with kn:=Z0 σ.kn (inn s (k:Int)).toNat (ins (k:Int) (σ.kn (inn s (k:Int)).toNat)),ma:=Z0 σ.ma (inn s (k:Int)).toNat (mx (σ.ma (inn s (k:Int)).toNat) l)}
def J6 (die:Nat ->TS ->TS) (k:Nat) (l:List Int) (σ:TS):TS:=
 ifc ((Yb s k l σ).st (inn s (k:Int)).toNat=2∧Alo s (Yb s k l σ) (inn s (k:Int)).toNat) (die (inn s (k:Int)).toNat (Yb s k l σ)) (Yb s k l σ)
def ZcO (die:Nat ->TS ->TS) (p:Nat) (σ:TS):TS:=
 if inn s (p:Int) < 0 then σ
 else if pl s (inn s (p:Int)).toNat=pl s p then J6 s die p (UH s σ p) σ
 else send s (pl s p) (pl s (inn s (p:Int)).toNat) ⟨4,(p:Int),0,0,UH s σ p⟩ σ
def Zby:Nat ->Nat ->TS ->TS
 | 0,_,σ=>σ
 | d + 1,p,σ=>ZcO s (Zby d) p (ZM s p σ)
end
section
variable {s:Zb} {σ:TS} {F B p q:Nat}
theorem Zl6:ZC.mk (Zh.mk (tab (nn s) σ.st) (tab (nn s) fun p=>tab (mm s * mm s) (σ.ma p)) (tab (nn s) σ.kn) (tab (nn s) σ.wa) (tab (mm s) σ.be) (tab (mm s * mm s) (lnk σ)) σ.sd) (Zb.mk s.qG s.Zf) σ.ev=hal s σ:=rfl
theorem Zdw (p q:Nat) (σ:TS):(YP s p q σ).st=σ.st∧(YP s p q σ).kn=σ.kn∧(YP s p q σ).ma=σ.ma∧(YP s p q σ).ld=σ.ld∧(YP s p q σ).sd=σ.sd∧(YP s p q σ).ev=σ.ev∧(YP s p q σ).wa=σ.wa:=by
 unfold YP;split <;> exact⟨rfl,rfl,rfl,rfl,rfl,rfl,rfl⟩
theorem ZcS (p:Nat):∀ (l:List Int) (σ:TS),(Zr s p l σ).st=σ.st∧(Zr s p l σ).kn=σ.kn∧(Zr s p l σ).ma=σ.ma∧(Zr s p l σ).ld=σ.ld∧(Zr s p l σ).sd=σ.sd∧(Zr s p l σ).ev=σ.ev∧(Zr s p l σ).wa=σ.wa:=by
 intro l
 induction l with
 | nil=>intro σ;exact⟨rfl,rfl,rfl,rfl,rfl,rfl,rfl⟩
 | cons x l ih=>
   intro σ;have h1:=ih (YP s x.toNat p σ);have h2:=Zdw (s:=s) x.toNat p σ;have e:Zr s p (x::l) σ=Zr s p l (YP s x.toNat p σ):=rfl;rw [e];exact⟨h1.1.trans h2.1,h1.2.1.trans h2.2.1,h1.2.2.1.trans h2.2.2.1,h1.2.2.2.1.trans h2.2.2.2.1,h1.2.2.2.2.1.trans h2.2.2.2.2.1,h1.2.2.2.2.2.1.trans h2.2.2.2.2.2.1,h1.2.2.2.2.2.2.trans h2.2.2.2.2.2.2⟩
theorem ZrC (p k:Nat) (l:List Int) (hk:k < l.length) (σ:TS):Zr s p (l.take (k + 1)) σ=YP s (l.getD k 0).toNat p (Zr s p (l.take k) σ):=by
 unfold Zr;rw [List.take_succ_eq_append_getElem hk,List.foldl_append,ZcG hk];rfl
theorem ZhN (hS:Xk s) (hp:p < nn s):∀ (l:List Int) (B:Nat) (σ:TS),Wf s B σ ->(∀ x ∈ l,∃ k:Nat,x= (k:Int)∧k < nn s) ->Wf s (B + 2 * l.length) (Zr s p l σ):=by
 intro l
 induction l with
 | nil=>intro B σ h _;exact h
 | cons x l ih=>
   intro B σ h hx;obtain⟨k,e,hk⟩:=hx x (by simp);have h1:=ih (B + 2) (YP s x.toNat p σ) (by rw [e,Int.toNat_natCast];exact h.YP hS hk hp) (fun y hy=>hx y (by simp [hy]));exact h1.up (by rw [List.length_cons];omega)
theorem Zwc {x:Int} (h:x ≠ 3):2 <=sw x:=by
 unfold sw;by_cases e:x=1
 ·rw [if_pos e];omega
 ·rw [if_neg e,if_neg h];omega
theorem Zlw (h:Wf s B σ) (hp:p < nn s) (h3:σ.st p ≠ 3):2 <=B∧Wf s (B - 1 - 2 * (σ.wa p).length) (Jd p σ)∧2 * (σ.wa p).length + 2 <=B:=by
 have h2:=Zwc h3
 have Z05:2 + 2 * (σ.wa p).length <=Pot s σ:=by
  have a1:=UO (f:=fun p=>sw (σ.st p)) hp;have a2:=UO (f:=fun q=>2 * (σ.wa q).length) hp;unfold Pot;omega
 have hb:=h.pot;have w1:=h.st hp (3:Int) (B':=B - 2) (by rw [show sw (3:Int)=0 from rfl];omega);have w2:=w1.tell 6 (p:Int) 0 0
 have w3:=w2.wa (l:= []) hp (by simp) (B':=B - 1 - 2 * (σ.wa p).length) (by
  show _ <=_ + 2 * (σ.wa p).length;simp;omega)
 exact⟨by omega,w3,by omega⟩
theorem Wf.ma (h:Wf s B σ) (f:Nat ->Nat ->Int):Wf s B {σ with ma:=f}:= ⟨h.pot,h.ld,h.ws⟩
theorem ZaC {k:Nat} {l:List Int} (h:Wf s B σ):Wf s B (Yb s k l σ):= ⟨h.pot,h.ld,h.ws⟩
theorem Zr7 (hS:Xk s) (h:Wf s B σ) (hp:p < nn s) (h3:σ.st p ≠ 3):Wf s (B - 1) (ZM s p σ):=by
 obtain⟨h1,h2,h4⟩:=Zlw h hp h3;have:=ZhN hS hp (σ.wa p) _ _ h2 (h.ws p hp);exact(this.up (by omega)).ma _
theorem Qj (p:Nat) (σ:TS):(ZM s p σ).st=Z0 σ.st p 3∧(ZM s p σ).kn=σ.kn∧(ZM s p σ).ld=σ.ld∧(ZM s p σ).sd=σ.sd∧(ZM s p σ).ev=σ.ev ++ [⟨6,(p:Int),0,0⟩]∧(ZM s p σ).wa=Z0 σ.wa p []:=by
 have h:=ZcS (s:=s) p (σ.wa p) (Jd p σ);exact⟨h.1,h.2.1,h.2.2.2.1,h.2.2.2.2.1,h.2.2.2.2.2.1,h.2.2.2.2.2.2⟩
theorem ZsK (h:Kn s σ) (p:Nat):Kn s (ZM s p σ):=by
 have e:=Qj (s:=s) p σ;refine⟨fun q hq=>by rw [e.2.1];exact h.srt q hq,fun q hq x hx=>?_⟩;rw [e.2.1] at hx;obtain⟨k,h1,h2,h3,h4⟩:=h.rng q hq x hx;refine⟨k,h1,h2,h3,?_⟩;rw [e.1];by_cases z:k=p
 ·subst z;exact Zq _ _ _
 ·rw [Zz z];exact h4
theorem Kn.len (hS:Xk s) (h:Kn s σ) (hq:q < nn s):(σ.kn q).length <=8:=by
 have:=ZDs (σ.kn q) 0 (nn s) (h.srt q hq) fun x hx=>by
  obtain⟨k,e,hk,_⟩:=h.rng q hq x hx;omega
 have h8:=hS.p2;unfold nn at this;omega
theorem X6 (hS:Xk s) (hp:p < nn s) (h0:¬ inn s (p:Int) < 0):inn s (p:Int)= ((inn s (p:Int)).toNat:Int)∧(inn s (p:Int)).toNat < nn s:=by
 obtain⟨k,e,hk⟩:=Zdb (hS.inn.rng p hp) h0;rw [e,Int.toNat_natCast];exact⟨rfl,hk⟩
theorem Wl (hS:Xk s) (h:Kn s σ) (hp:p < nn s) (h0:¬ inn s (p:Int) < 0) (h3:σ.st p=3) (hn:(p:Int) ∉ σ.kn (inn s (p:Int)).toNat) (l:List Int):Kn s (Yb s p l σ):=by
 obtain⟨e,hq⟩:=X6 hS hp h0;refine⟨fun q hq'=>?_,fun q hq' x hx=>?_⟩
 ·show(Z0 σ.kn _ _ q).Pairwise _;by_cases z:q= (inn s (p:Int)).toNat
  ·subst z;rw [Zq];exact ZqG (h.srt _ hq) hn
  ·rw [Zz z];exact h.srt q hq'
 ·have hx:x ∈ Z0 σ.kn _ _ q:=hx;by_cases z:q= (inn s (p:Int)).toNat
  ·subst z;rw [Zq] at hx;rcases Ws.1 hx with w | w
   ·exact⟨p,w,hp,e,h3⟩
   ·exact h.rng _ hq x w
  ·rw [Zz z] at hx;exact h.rng q hq' x hx
theorem WB {M a b i:Nat} (hb:b < M):i=a * M + b↔i / M=a∧i % M=b:=by
 have hM:0 < M:=by omega
 constructor
 ·intro e;subst e;have e1:(a * M + b) / M=a:=by rw [Nat.mul_comm,Nat.mul_add_div hM,Nat.div_eq_of_lt hb,Nat.add_zero]
  exact⟨e1,by rw [Nat.mul_comm,Nat.mul_add_mod,Nat.mod_eq_of_lt hb]⟩
 ·rintro⟨h1,h2⟩;have:=Nat.div_add_mod i M;rw [h1,h2,Nat.mul_comm] at this;exact this.symm
theorem Zua (σ:TS) (p i:Nat):ZdJ s σ p 0 i=σ.ma p i:=by unfold ZdJ;rw [if_neg];rintro⟨_,h,_⟩;omega
theorem Zub {k:Nat} (hk:k < mm s) (hne:k ≠ pl s p) (i:Nat):ZdJ s σ p (k + 1) i=Z0 (ZdJ s σ p k) (li s (pl s p) k) ((σ.sn (li s (pl s p) k)).length:Int) i:=by
 unfold Z0;by_cases e:i=li s (pl s p) k
 ·rw [if_pos e];obtain⟨e1,e2⟩:= (WB hk).1 e;unfold ZdJ;rw [if_pos ⟨e1,by omega,by omega⟩,e]
 ·rw [if_neg e];unfold ZdJ;by_cases c:i / mm s=pl s p∧i % mm s < k∧i % mm s ≠ pl s p
  ·rw [if_pos c,if_pos ⟨c.1,by omega,c.2.2⟩]
  ·rw [if_neg c,if_neg];rintro⟨c1,c2,c3⟩;refine c ⟨c1,?_,c3⟩;have:i % mm s ≠ k:=fun z=>e ((WB hk).2 ⟨c1,z⟩)
   omega
theorem Zuc {k:Nat} (hne:k=pl s p) (i:Nat):ZdJ s σ p (k + 1) i=ZdJ s σ p k i:=by
 unfold ZdJ;by_cases c:i / mm s=pl s p∧i % mm s < k∧i % mm s ≠ pl s p
 ·rw [if_pos c,if_pos ⟨c.1,by omega,c.2.2⟩]
 ·rw [if_neg c,if_neg];rintro⟨c1,c2,c3⟩;exact c ⟨c1,by omega,c3⟩
def ZdK (s:Zb) (f:Nat ->Nat ->Int):List (List Int):=tab (nn s) fun j=>tab (mm s * mm s) (f j)
theorem ZkN {f:Nat ->Nat ->Int} (hp:p < nn s):ZR (ZdK s f) (p:Int)=some (tab (mm s * mm s) (f p)):=Yx hp
theorem ZfY {f:Nat ->Nat ->Int} {g:Nat ->Int}:Y5 (ZdK s f) (p:Int) (tab (mm s * mm s) g)=ZdK s (Z0 f p g):=by
 unfold ZdK;rw [QS];refine Wh fun j _=>?_
 by_cases e:j=p
 ·subst e;rw [Zq,Zq]
 ·rw [Zz e,Zz e]
theorem Zd4 {f g:Nat ->Nat ->Int} (h:∀ j,j < nn s ->∀ i,i < mm s * mm s ->f j i=g j i):ZdK s f=ZdK s g:=Wh fun j hj=>Wh fun i hi=>h j hj i hi
theorem Zwp (h:Wf s B σ) (hB:B <=800000) {i:Nat} (hi:i < mm s * mm s):YA ((lnk σ i).ZU + ((lnk σ i).kG.length:Int))= ((σ.sn i).length:Int):=by
 have h1:=h.ld i hi;have h2:= (h.few hB).sn i hi;show YA ((σ.ld i:Int) + (((σ.sn i).drop (σ.ld i)).length:Int))=_;rw [List.length_drop,WN (by omega) (by omega)];omega
theorem Zqz {β:Type} (hF:1000 <=F) (hS:Xk s) (h:Wf s B σ) (hB:B <=800000) (hp:p < nn s) {r:Option β} {body:Int×List (List Int) ->(Int×List (List Int) ->Option β) ->Option β}
 (hb:∀ (v:List (List Int)) (k:Nat),k < mm s ->∀ next,body ((k:Int),v) next=bif((k:Int) != (pl s p:Int)) then((ZR v (p:Int)).bind fun x=>(ZR x (YA (YA ((pl s p:Int) * s.qG) + (k:Int)))).bind fun _=>next (YA ((k:Int) + 1),Y5 v (p:Int) (Y5 x (YA (YA ((pl s p:Int) * s.qG) + (k:Int))) ((σ.sn (li s (pl s p) k)).length:Int)))) else next (YA ((k:Int) + 1),v))
 (he:∀ next,body ((mm s:Int),ZdK s (ZPx s p σ).ma) next=r):loop F body (0,ZdK s σ.ma)=r:=by
 obtain⟨_,_,h4⟩:=hS.mm;have hpl:= (hS.pl hp).2
 refine XO (fun k=>((k:Int),ZdK s (Z0 σ.ma p (ZdJ s σ p k)))) (by
  have:ZdK s (Z0 σ.ma p (ZdJ s σ p 0))=ZdK s σ.ma:=Zd4 fun j _ i _=>by
   by_cases e:j=p
   ·subst e;rw [Zq,Zua]
   ·rw [Zz e]
  rw [this];rfl) (n:=mm s) (by omega) (fun k hk next=>?_) (fun next=>?_)
 ·rw [hb _ _ hk]
  have e1:(((k:Int)) != ((pl s p:Int)))=decide (k ≠ pl s p):=by
   rw [ZbD];by_cases z:k=pl s p
   ·subst z;simp
   ·rw [decide_eq_true z,decide_eq_true (by omega)]
  rw [e1];by_cases z:k ≠ pl s p
  ·rw [decide_eq_true z,Cq1,ZkN hp,Zq];simp only [Bq0];rw [ZcB hS hpl hk,Yx (J3 hpl hk)];simp only [Bq0];rw [QS,ZfY,QI (by omega)];congr 2;refine Zd4 fun j _ i hi=>?_
   by_cases e:j=p
   ·subst e;rw [Zq,Zq,Zub hk z]
   ·rw [Zz e,Zz e,Zz e]
  ·have z:=Classical.not_not.1 z;rw [decide_eq_false (by simpa using z),Cq0,QI (by omega)];congr 2;refine Zd4 fun j _ i hi=>?_
   by_cases e:j=p
   ·subst e;rw [Zq,Zq,Zuc z]
   ·rw [Zz e,Zz e]
 ·exact he next
end
end
section
section
variable {s:Zb} {σ:TS} {F B p q:Nat} {die:Nat ->TS ->TS}
theorem ZiA (hS:Xk s):mm s * mm s <=16:=Nat.mul_le_mul hS.mm.2.2 hS.mm.2.2
theorem ZlU (hS:Xk s):decide (((mm s:Nat):Int) < s.qG)=false:=by rw [hS.mm.1];exact Xb _
theorem Zf0 (hS:Xk s) {k:Nat} (hk:k < mm s):decide ((k:Int) < s.qG)=true:=by rw [hS.mm.1];exact YU hk
theorem ZtQ (hF:100000 <=F) (hS:Xk s) (hp:p < nn s) (hw:Wf s B σ) (hB:B <=700000) (hk:Kn s σ) (h3:σ.st p=3) (hn:¬ inn s (p:Int) < 0 ->(p:Int) ∉ σ.kn (inn s (p:Int)).toNat) (U8:ZC×Int ->Option ZC) (nx:Int×List (List Int) ->Option ZC)
 (hx:¬ inn s (p:Int) < 0 ->(Yb s p (UH s σ p) σ).st (inn s (p:Int)).toNat=2 ->U8 (hal s (Yb s p (UH s σ p) σ),((inn s (p:Int)).toNat:Int))=some (hal s (die (inn s (p:Int)).toNat (Yb s p (UH s σ p) σ)))):
 Zi7 F (p:Int) U8 (tab (nn s) σ.st) (tab (nn s) σ.kn) (tab (nn s) σ.wa) (tab (mm s) σ.be) (tab (mm s * mm s) (lnk σ)) σ.sd s.qG s.Zf σ.ev (pl s p:Int) ((mm s:Int),ZdK s σ.ma) nx=some (hal s (ZcO s die p σ)):=by
 have h16:=ZiA hS;unfold Zi7;dsimp only;rw [ZlU hS,Cq0,QC hp];simp only [Bq0];rw [J5];unfold ZcO;by_cases h0:inn s (p:Int) < 0
 ·rw [decide_eq_true h0,Cq1,if_pos h0];rfl
 ·rw [decide_eq_false h0,Cq0,if_neg h0];obtain⟨eq,hq⟩:=X6 hS hp h0;have hn:=hn h0;have hx:=hx h0;obtain⟨q,hqe⟩:∃ q,q= (inn s (p:Int)).toNat:= ⟨_,rfl⟩
  rw [← hqe] at eq hq hn hx ⊢;rw [eq,show ZdK s σ.ma=tab (nn s) fun p=>tab (mm s * mm s) (σ.ma p) from rfl,Zl6,U0 hS hq];simp only [Bq0];rw [Zfg,Yx hp];simp only [Bq0];by_cases e:pl s q=pl s p
  ·rw [decide_eq_true e,Cq1,if_pos e,Yx hq];simp only [Bq0];have hl:=hk.len hS hq;rw [Zkz (by omega) (by omega) (hk.srt q hq) hn];simp only [Bq0,Bool.not_false,Cq1];rw [insert_eq (by omega)];simp only [Bq0];rw [QS];unfold Zi5;rw [J5,eq,Yx hq];simp only [Bq0];rw [Ze1 (by omega) (by omega) Qh];simp only [Bq0];rw [Yx hq];simp only [Bq0]
   have e3:Y5 (tab (nn s) fun p=>tab (mm s * mm s) (σ.ma p)) (q:Int) (tab (mm s * mm s) (mx (σ.ma q) (tab (mm s * mm s) (σ.ma p))))=tab (nn s) fun j=>tab (mm s * mm s) ((Yb s p (UH s σ p) σ).ma j):=by
    have:=ZfY (s:=s) (p:=q) (f:=σ.ma) (g:=mx (σ.ma q) (tab (mm s * mm s) (σ.ma p)));unfold ZdK at this;rw [this];show _=tab (nn s) fun j=>tab (mm s * mm s) (Z0 σ.ma (inn s (p:Int)).toNat _ j)
    rw [← hqe];rfl
   have e4:tab (nn s) (Z0 σ.kn q (ins (p:Int) (σ.kn q)))=tab (nn s) (Yb s p (UH s σ p) σ).kn:=by
    show _=tab (nn s) (Z0 σ.kn (inn s (p:Int)).toNat _);rw [← hqe]
   rw [e3,e4];have e5:ZC.mk (Zh.mk (tab (nn s) σ.st) (tab (nn s) fun j=>tab (mm s * mm s) ((Yb s p (UH s σ p) σ).ma j)) (tab (nn s) (Yb s p (UH s σ p) σ).kn) (tab (nn s) σ.wa) (tab (mm s) σ.be) (tab (mm s * mm s) (lnk σ)) σ.sd) (Zb.mk s.qG s.Zf) σ.ev=hal s (Yb s p (UH s σ p) σ):=rfl;rw [e5];have hk3:=Wl hS hk hp h0 h3 (by rw [← hqe];exact hn) (UH s σ p);rw [Xi];unfold J6;rw [← hqe];have e6:(Yb s p (UH s σ p) σ).st q=σ.st q:=rfl;by_cases h2:σ.st q=2
   ·rw [decide_eq_true h2,Km,Zer (by omega) hS hq (by have:=hk3.len hS hq;omega)];by_cases hA:Alo s (Yb s p (UH s σ p) σ) q
    ·rw [ZL hA];simp only [Bq0,Bool.and_self,Cq1];rw [hx (by rw [e6];exact h2),ZL ⟨by rw [e6];exact h2,hA⟩];rfl
    ·rw [ZF hA];simp only [Bq0,Bool.and_false,Cq0];rw [ZF fun z=>hA z.2]
     rfl
   ·rw [decide_eq_false h2,ZaR];simp only [Bq0,Bool.false_and,Cq0];rw [ZF fun z=>h2 (by rw [← e6];exact z.1)]
    rfl
  ·rw [decide_eq_false e,Cq0,if_neg e];unfold Zg4;rw [show app 8 ([]:List Int) (tab (mm s * mm s) (σ.ma p))=some (UH s σ p) from Zoh hS hp];simp only [Bq0];rw [ZaE hS (hw.few (by omega)) (hS.pl hp).2 (hS.pl hq).2];rfl
theorem Zpb (hF:1000000 <=F) (hS:Xk s):∀ (d p:Nat) (σ:TS) (F':Nat),d < F' ->p < nn s ->up s d (p:Int) < 0 ->Wf s B σ ->B <=700000 ->Kn s σ ->σ.st p ≠ 3 ->loop F' (Zk2 F) (hal s σ,(p:Int))=some (hal s (Zby s d p σ)):=by
 intro d
 induction d generalizing B with
 | zero=>intro p σ F' _ _ hu _ _ _ _;exact absurd hu (by show ¬ ((p:Int)) < 0;omega)
 | succ d ih=>
   intro p σ F' hd hp hu hw hB hk h3;cases F' with
   | zero=>omega
   | succ F'=>
     obtain⟨b1,w0,b2⟩:=Zlw hw hp h3;have wA:=Zr7 hS hw hp h3;have kA:=ZsK hk p;have sA:=Qj (s:=s) p σ;have w1:=hw.st hp (3:Int) (B':=B) (by rw [show sw (3:Int)=0 from rfl];omega);have sB:=ZcS (s:=s) p (σ.wa p) (Jd p σ);rw [UC];unfold Zk2;dsimp only;rw [show(hal s σ).Za.qV=tab (nn s) σ.st from rfl,Yx hp];simp only [Bq0];rw [QS,show ZC.mk (Zh.mk (tab (nn s) (Z0 σ.st p 3)) (hal s σ).Za.qX (hal s σ).Za.qZ (hal s σ).Za.Zl (hal s σ).Za.Zr (hal s σ).Za.kQ (hal s σ).Za.kK) (hal s σ).qK (hal s σ).kU=hal s {σ with st:=Z0 σ.st p 3} from rfl,Ky (w1.few (by omega))];simp only [Bq0];rw [show(hal s (tell 6 (p:Int) 0 0 {σ with st:=Z0 σ.st p 3})).Za.Zl=tab (nn s) σ.wa from rfl,Yx hp];simp only [Bq0];rw [QS];refine XO (fun k=>((k:Int),tab (nn s) (Zr s p ((σ.wa p).take k) (Jd p σ)).st,(tab (nn s) fun j=>tab (mm s * mm s) ((Zr s p ((σ.wa p).take k) (Jd p σ)).ma j)),tab (nn s) (Zr s p ((σ.wa p).take k) (Jd p σ)).kn,tab (nn s) (Zr s p ((σ.wa p).take k) (Jd p σ)).wa,tab (mm s) (Zr s p ((σ.wa p).take k) (Jd p σ)).be,tab (mm s * mm s) (lnk (Zr s p ((σ.wa p).take k) (Jd p σ))),(Zr s p ((σ.wa p).take k) (Jd p σ)).sd,s.qG,s.Zf,(Zr s p ((σ.wa p).take k) (Jd p σ)).ev)) rfl (n:= (σ.wa p).length) (by omega) (fun k hk' next=>?_) (fun next=>?_)
     ·unfold Zms;dsimp only;rw [YU hk',Cq1,QD 0 hk'];simp only [Bq0];obtain⟨j,ej,hj⟩:=hw.ws p hp _ (XK (d:=0) hk');have wk:=ZhN hS hp ((σ.wa p).take k) _ _ w0 (fun x hx=>hw.ws p hp x (List.mem_of_mem_take hx));have hlen:((σ.wa p).take k).length <= (σ.wa p).length:=by rw [List.length_take];omega
      rw [Zl6,ej,Zli hS (wk.few (by omega)) hj hp];simp only [Bq0];rw [ZrC p k _ hk',ej,Int.toNat_natCast,QI (by omega)];rfl
     ·unfold Zms;dsimp only;rw [Xb,Cq0,List.take_length,Zl6,U0 hS hp];simp only [Bq0];have wB:=ZhN hS hp (σ.wa p) _ _ w0 (hw.ws p hp);refine Zqz (by omega) hS wB (by omega) hp (fun v k hk' next=>?_) (fun next=>?_)
      ·unfold Zi7 Zi6;dsimp only;rw [Zf0 hS hk',Cq1];by_cases z:k=pl s p
       ·subst z;rw [show(((pl s p:Nat):Int) != ((pl s p:Nat):Int))=false by simp,Cq0,Cq0]
       ·have:(((k:Int)) != ((pl s p:Int)))=true:=by rw [ZbD];exact decide_eq_true (by omega)
        rw [this,Cq1,Cq1,ZcB hS (hS.pl hp).2 hk',Yx (J3 (hS.pl hp).2 hk')];simp only [Bq0];rw [Zwp wB (by omega) (J3 (hS.pl hp).2 hk')]
      ·have hpA:(ZM s p σ).st p=3:=by rw [sA.1,Zq]
       have hnot:¬ inn s (p:Int) < 0 ->(p:Int) ∉ (ZM s p σ).kn (inn s (p:Int)).toNat:=fun h0 hm=>by
        obtain⟨eq,hq⟩:=X6 hS hp h0;rw [sA.2.1] at hm;obtain⟨k,e1,e2,e3,e4⟩:=hk.rng _ hq _ hm;have:k=p:=by omega
        subst this;exact h3 e4
       have ht:=ZtQ (F:=F) (die:=Zby s d) (by omega) hS hp wA (by omega) kA hpA hnot (fun x=>loop F' (Zk2 F) x) next fun h0 h2=>by
        obtain⟨eq,hq⟩:=X6 hS hp h0;refine ih (B:=B - 1) _ _ F' (by omega) hq ?_ ((ZaC wA).up (Nat.le_refl _)) (by omega) (Wl hS kA hp h0 hpA (hnot h0) _) (by rw [h2];decide);rw [← eq];have hu:(if((p:Int)) < 0 then(p:Int) else up s d (inn s (p:Int))) < 0:=hu
        rwa [if_neg (by omega)] at hu
       exact ht
end
end
section
theorem ZBd {α:Type} {l:List α} {c:Nat} (h:c <=l.length):slL l 0 (c:Int)=some (l.take c):=by
 unfold slL;rw [decide_eq_true (show(0:Int) <=0 by omega),decide_eq_true (show(0:Int) <= (c:Int) by omega),decide_eq_true (show(c:Int) <= (l.length:Int) by omega)];simp
theorem Zsb {α:Type} {l:List α} {c:Nat} (h:c <=l.length):slL l (c:Int) (l.length:Int)=some (l.drop c):=by
 unfold slL;rw [decide_eq_true (show(0:Int) <= (c:Int) by omega),decide_eq_true (show(c:Int) <= (l.length:Int) by omega),decide_eq_true (show(l.length:Int) <= (l.length:Int) by omega)];simp
section
variable {s:Zb} {σ:TS} {F B p q:Nat} {die:Nat ->TS ->TS}
end
end
section
noncomputable section
variable (s:Zb)
def Xc (p:Nat) (σ:TS):TS:= {σ with st:=Z0 σ.st p 2,ev:=σ.ev ++ [⟨5,(p:Int),0,0⟩]}
def ZaS (fall:Nat ->TS ->TS) (p:Nat) (σ:TS) (k:Nat):TS:=
 if pl s k=pl s p then(if σ.st k=1 then fall k σ else σ)
 else if(k:Int) ∈ σ.kn p then σ else send s (pl s p) (pl s k) ⟨3,(k:Int),0,0,[]⟩ σ
def Zb7 (p:Nat) (σ:TS):TS:=ifc (σ.st p=2∧Alo s σ p) (Zby s (nn s) p σ) σ
def Zom (p k:Nat):List Nat:= (List.range k).filter fun q:Nat=>inn s (q:Int)== (p:Int)
def fk (fall:Nat ->TS ->TS) (p k:Nat) (σ:TS):TS:= (Zom s p k).foldl (ZaS s fall p) σ
def Y7:Nat ->Nat ->TS ->TS
 | 0,_,σ=>σ
 | d + 1,p,σ=>Zb7 s p (fk s (Y7 d) p (nn s) (Xc p σ))
end
section
variable {s:Zb} {σ:TS} {F B p q d:Nat} {fall:Nat ->TS ->TS}
theorem ZaN (p k:Nat):Zom s p (k + 1)=Zom s p k ++ (if inn s (k:Int)= (p:Int) then [k] else []):=by
 unfold Zom;rw [List.range_succ,List.filter_append,List.filter_cons,List.filter_nil,Xi];by_cases h:inn s (k:Int)= (p:Int) <;> simp [h]
theorem ZiM (p k:Nat):(Zom s p k).length <=k:=by
 unfold Zom;have:=List.length_filter_le (fun q:Nat=>inn s (q:Int)== (p:Int)) (List.range k)
 rwa [List.length_range] at this
theorem Zy4 {k:Nat} (h:inn s (k:Int)= (p:Int)):fk s fall p (k + 1) σ=ZaS s fall p (fk s fall p k σ) k:=by
 unfold fk;rw [ZaN,if_pos h,List.foldl_append];rfl
theorem ZER {k:Nat} (h:inn s (k:Int) ≠ (p:Int)):fk s fall p (k + 1) σ=fk s fall p k σ:=by
 unfold fk;rw [ZaN,if_neg h,List.append_nil]
structure Gd (s:Zb) (B:Nat) (σ:TS):Prop where
 wf:Wf s B σ
 kn:Kn s σ
theorem Gd.up (h:Gd s B σ) {B':Nat} (hb:B <=B'):Gd s B' σ:= ⟨h.wf.up hb,h.kn⟩
theorem ZMD (h:Kn s σ) {v:Int} (h3:σ.st p ≠ 3) {e:List Zg}:Kn s {σ with st:=Z0 σ.st p v,ev:=e}:=by
 refine⟨h.srt,fun q hq x hx=>?_⟩;obtain⟨k,h1,h2,h4,h5⟩:=h.rng q hq x hx;refine⟨k,h1,h2,h4,?_⟩;show Z0 σ.st p v k=3;rw [Zz (fun z=>by subst z;exact h3 h5)];exact h5
theorem ZsJ (h:Kn s σ) (a b:Nat) (x:Zd):Kn s (send s a b x σ):= ⟨h.srt,h.rng⟩
theorem ZoC (h:Gd s B σ) (hp:p < nn s) (h1:σ.st p=1):11 <=B∧Gd s (B - 8) (Xc p σ):=by
 have hb:=h.wf.pot
 have h11:11 <=Pot s σ:=by
  have:=UO (f:=fun p=>sw (σ.st p)) hp;have e:sw (σ.st p)=11:=by rw [h1];rfl
  unfold Pot;omega
 have w1:=h.wf.st hp (2:Int) (B':=B - 9) (by rw [h1];show B + 2 <=B - 9 + 11;omega);exact⟨by omega,(w1.tell 5 (p:Int) 0 0).up (by omega),ZMD h.kn (by rw [h1];decide)⟩
theorem Zp4 (hp:p < nn s) (hu:up s (d + 1) (p:Int) < 0):up s d (inn s (p:Int)) < 0:=by
 have hu:(if((p:Int)) < 0 then(p:Int) else up s d (inn s (p:Int))) < 0:=hu
 rwa [if_neg (by omega)] at hu
theorem ZzB (hS:Xk s):∀ (d p:Nat) (σ:TS) (B:Nat),p < nn s ->up s d (p:Int) < 0 ->Gd s B σ ->σ.st p ≠ 3 ->Gd s B (Zby s d p σ):=by
 intro d
 induction d with
 | zero=>intro p σ B hp hu _ _;exact absurd hu (by show ¬ ((p:Int)) < 0;omega)
 | succ d ih=>
   intro p σ B hp hu h h3;have wA:=Zr7 hS h.wf hp h3;have kA:=ZsK h.kn p;have sA:=Qj (s:=s) p σ;have b1:= (Zlw h.wf hp h3).1;have hpA:(ZM s p σ).st p=3:=by rw [sA.1,Zq]
   show Gd s B (ZcO s (Zby s d) p (ZM s p σ));unfold ZcO;by_cases h0:inn s (p:Int) < 0
   ·rw [if_pos h0];exact⟨wA.up (by omega),kA⟩
   ·rw [if_neg h0];obtain⟨eq,hq⟩:=X6 hS hp h0
    have hnot:(p:Int) ∉ (ZM s p σ).kn (inn s (p:Int)).toNat:=fun hm=>by
     rw [sA.2.1] at hm;obtain⟨k,e1,e2,e3,e4⟩:=h.kn.rng _ hq _ hm;have:k=p:=by omega
     subst this;exact h3 e4
    have k3:=Wl hS kA hp h0 hpA hnot (UH s (ZM s p σ) p);by_cases e:pl s (inn s (p:Int)).toNat=pl s p
    ·rw [if_pos e];unfold J6;by_cases c:(Yb s p (UH s (ZM s p σ) p) (ZM s p σ)).st (inn s (p:Int)).toNat=2∧Alo s (Yb s p (UH s (ZM s p σ) p) (ZM s p σ)) (inn s (p:Int)).toNat
     ·rw [ZL c];refine(ih _ _ (B - 1) hq ?_ ⟨ZaC wA,k3⟩ (by rw [c.1];decide)).up (by omega);rw [← eq];exact Zp4 hp hu
     ·rw [ZF c];exact⟨(ZaC wA).up (by omega),k3⟩
    ·rw [if_neg e];exact⟨(wA.send (hS.pl hp).2 (hS.pl hq).2 _).up (by show B - 1 + 1 + 0 <=B;omega),ZsJ kA _ _ _⟩
theorem ZBc (hS:Xk s) (ih:∀ (k:Nat) (σ:TS) (B:Nat),k < nn s ->Kv s d k ->Gd s B σ ->σ.st k=1 ->Gd s B (fall k σ)) {k:Nat} (hk:k < nn s) (hp:p < nn s) (hs:Kv s d k) (h:Gd s B σ):Gd s (B + 1) (ZaS s fall p σ k):=by
 unfold ZaS;by_cases e:pl s k=pl s p
 ·rw [if_pos e];by_cases e1:σ.st k=1
  ·rw [if_pos e1];exact(ih k σ B hk hs h e1).up (by omega)
  ·rw [if_neg e1];exact h.up (by omega)
 ·rw [if_neg e];by_cases e1:(k:Int) ∈ σ.kn p
  ·rw [if_pos e1];exact h.up (by omega)
  ·rw [if_neg e1];exact⟨(h.wf.send (hS.pl hp).2 (hS.pl hk).2 _).up (by show B + 1 + 0 <=B + 1;omega),ZsJ h.kn _ _ _⟩
theorem ZES (hS:Xk s) (ih:∀ (k:Nat) (σ:TS) (B:Nat),k < nn s ->Kv s d k ->Gd s B σ ->σ.st k=1 ->Gd s B (fall k σ)) (hp:p < nn s) (hs:Kv s (d + 1) p) (h:Gd s B σ):∀ k,k <=nn s ->Gd s (B + (Zom s p k).length) (fk s fall p k σ):=by
 intro k
 induction k with
 | zero=>intro _;exact h
 | succ k ihk=>
   intro hk;have h1:=ihk (by omega);by_cases e:inn s (k:Int)= (p:Int)
   ·rw [Zy4 e,ZaN,if_pos e,List.length_append,List.length_singleton];exact ZBc hS ih (by omega) hp (hs.kid e) h1
   ·rw [ZER e,ZaN,if_neg e,List.append_nil];exact h1
theorem WW (hS:Xk s) (hp:p < nn s):up s (nn s) (p:Int) < 0:=hS.inn.acy p hp
theorem Zmq (hS:Xk s):∀ (d p:Nat) (σ:TS) (B:Nat),p < nn s ->Kv s d p ->Gd s B σ ->σ.st p=1 ->Gd s B (Y7 s d p σ):=by
 intro d
 induction d with
 | zero=>intro p σ B hp hs _ _;exact absurd rfl (hs p hp 0 (Nat.le_refl _))
 | succ d ih=>
   intro p σ B hp hs h h1;obtain⟨b,g0⟩:=ZoC h hp h1;have g1:=ZES hS ih hp hs g0 (nn s) (Nat.le_refl _);have hl:=ZiM (s:=s) p (nn s);have h8:nn s <=8:=hS.p2;have g2:=g1.up (B':=B) (by omega);show Gd s B (Zb7 s p (fk s (Y7 s d) p (nn s) (Xc p σ)));unfold Zb7;by_cases c:(fk s (Y7 s d) p (nn s) (Xc p σ)).st p=2∧Alo s (fk s (Y7 s d) p (nn s) (Xc p σ)) p
   ·rw [ZL c];exact ZzB hS _ _ _ _ hp (WW hS hp) g2 (by rw [c.1];decide)
   ·rw [ZF c];exact g2
def WG (s:Zb) (σ:TS):List Int×List (List Int)×List (List Int)×List (List Int)×List (List Zd)×List Zn×Int×Int×List ZP×List Zg:=
 (tab (nn s) σ.st,(tab (nn s) fun j=>tab (mm s * mm s) (σ.ma j)),tab (nn s) σ.kn,tab (nn s) σ.wa,tab (mm s) σ.be,tab (mm s * mm s) (lnk σ),σ.sd,s.qG,s.Zf,σ.ev)
theorem Zuy (hF:1000000 <=F) (hS:Xk s) (hp:p < nn s) (h:Gd s B σ) (hB:B <=700000):Zek F (p:Int) (WG s σ)=some (hal s (Zb7 s p σ)):=by
 unfold Zek WG;dsimp only;rw [Yx hp];simp only [Bq0];rw [Xi,Zl6];unfold Zb7;by_cases h2:σ.st p=2
 ·rw [decide_eq_true h2,Km,Zer (by omega) hS hp (by have:=h.kn.len hS hp;omega)];by_cases hA:Alo s σ p
  ·rw [ZL hA,ZL ⟨h2,hA⟩];simp only [Bq0,Bool.and_self,Cq1];unfold Zy8;have h8:nn s <=8:=hS.p2;rw [Zpb hF hS _ _ _ F (by omega) hp (WW hS hp) h.wf hB h.kn (by rw [h2];decide)];rfl
  ·rw [ZF hA,ZF fun z=>hA z.2];simp only [Bq0,Bool.and_false,Cq0]
 ·rw [decide_eq_false h2,ZaR,ZF fun z=>h2 z.1];simp only [Bq0,Bool.false_and,Cq0]
theorem Zhr (k:Int) (nx:Int×List Int×List (List Int)×List (List Int)×List (List Int)×List (List Zd)×List Zn×Int×Int×List ZP×List Zg ->Option ZC):Zej F (p:Int) k nx (WG s σ)=nx (YA (k + 1),WG s σ):=rfl
theorem Zk1 (hF:1000000 <=F) (hS:Xk s):∀ (d p:Nat) (σ:TS) (F' B:Nat),d < F' ->p < nn s ->Kv s d p ->Gd s B σ ->B <=700000 ->σ.st p=1 ->loop F' (Zk3 F) (hal s σ,(p:Int))=some (hal s (Y7 s d p σ)):=by
 intro d
 induction d with
 | zero=>intro p σ F' B _ hp hs _ _ _;exact absurd rfl (hs p hp 0 (Nat.le_refl _))
 | succ d ih=>
   intro p σ F' B hd hp hs h hB h1;cases F' with
   | zero=>omega
   | succ F'=>
     obtain⟨b,g0⟩:=ZoC h hp h1;have gk:=ZES hS (fun k σ B hk hs h e=>Zmq hS d k σ B hk hs h e) hp hs g0;have h8:nn s <=8:=hS.p2;have w1:=h.wf.st hp (2:Int) (B':=B) (by rw [h1];show B + 2 <=B + 11;omega);rw [UC];generalize hnx:loop F' (Zk3 F)=nx;unfold Zk3 ZmA;dsimp only;rw [show(hal s σ).Za.qV=tab (nn s) σ.st from rfl,Yx hp];simp only [Bq0];rw [QS,show ZC.mk (Zh.mk (tab (nn s) (Z0 σ.st p 2)) (hal s σ).Za.qX (hal s σ).Za.qZ (hal s σ).Za.Zl (hal s σ).Za.Zr (hal s σ).Za.kQ (hal s σ).Za.kK) (hal s σ).qK (hal s σ).kU=hal s {σ with st:=Z0 σ.st p 2} from rfl,Ky (w1.few (by omega))];simp only [Bq0];refine XO (fun k=>((k:Int),WG s (fk s (Y7 s d) p k (Xc p σ)))) rfl (n:=nn s) (by omega) (fun k hk next=>?_) (fun next=>?_)
     ·have gk':=gk k (by omega);have hl:=ZiM (s:=s) p k;have hB':B - 8 + (Zom s p k).length <=700000:=by omega
      obtain⟨σk,hσ⟩:∃ σk,σk=fk s (Y7 s d) p k (Xc p σ):= ⟨_,rfl⟩
      rw [← hσ] at gk' ⊢;have fw:=gk'.wf.few (by omega);unfold Zjc;rw [show(WG s σk)= (tab (nn s) σk.st,(tab (nn s) fun j=>tab (mm s * mm s) (σk.ma j)),tab (nn s) σk.kn,tab (nn s) σk.wa,tab (mm s) σk.be,tab (mm s * mm s) (lnk σk),σk.sd,s.qG,s.Zf,σk.ev) from rfl];dsimp only;rw [show(hal s (tell 5 (p:Int) 0 0 {σ with st:=Z0 σ.st p 2})).qK.Zf=s.Zf from rfl,show((s.Zf.length:Nat):Int)= ((nn s:Nat):Int) from rfl,YU hk,Cq1,QC hk];simp only [Bq0];rw [J5,Xi];by_cases e:inn s (k:Int)= (p:Int)
      ·rw [decide_eq_true e,Cq1,Zl6,U0 hS hk,U0 hS hp];simp only [Bq0];rw [Zy4 e,← hσ,Zfg];unfold ZaS;by_cases e1:pl s k=pl s p
       ·rw [decide_eq_true e1,Cq1,if_pos e1,Yx hk];simp only [Bq0];rw [Xi];by_cases e2:σk.st k=1
        ·rw [decide_eq_true e2,Cq1,if_pos e2,← hnx,ih k σk F' _ (by omega) hk (hs.kid e) gk' hB' e2];simp only [Bq0];exact(Zhr (s:=s) (σ:=Y7 s d k σk) (F:=F) (p:=p) (k:Int) next).trans (by rw [QI (by omega)])
        ·rw [decide_eq_false e2,Cq0,if_neg e2];exact(Zhr (s:=s) (σ:=σk) (F:=F) (p:=p) (k:Int) next).trans (by rw [QI (by omega)])
       ·rw [decide_eq_false e1,Cq0,if_neg e1,Yx hp];simp only [Bq0];rw [contains_eq (by omega) (by have:=gk'.kn.len hS hp;omega)];simp only [Bq0];by_cases e2:(k:Int) ∈ σk.kn p
        ·rw [decide_eq_true e2,Bool.not_true,Cq0,if_pos e2];exact(Zhr (s:=s) (σ:=σk) (F:=F) (p:=p) (k:Int) next).trans (by rw [QI (by omega)])
        ·rw [decide_eq_false e2,Bool.not_false,Cq1,if_neg e2];rw [ZaE hS fw (hS.pl hp).2 (hS.pl hk).2];simp only [Bq0];exact(Zhr (s:=s) (σ:=send s (pl s p) (pl s k) ⟨3,(k:Int),0,0,[]⟩ σk) (F:=F) (p:=p) (k:Int) next).trans (by rw [QI (by omega)])
      ·rw [decide_eq_false e,Cq0,ZER e,← hσ,QI (by omega)]
       rfl
     ·have gk':=gk (nn s) (Nat.le_refl _);have hl:=ZiM (s:=s) p (nn s);refine(?_:Zjc F (p:Int) _ _ _ next=Zek F (p:Int) (WG s (fk s (Y7 s d) p (nn s) (Xc p σ)))).trans (Zuy hF hS hp gk' (by omega));unfold Zjc WG;dsimp only;rw [show(hal s (tell 5 (p:Int) 0 0 {σ with st:=Z0 σ.st p 2})).qK.Zf=s.Zf from rfl,show((s.Zf.length:Nat):Int)= ((nn s:Nat):Int) from rfl,Xb,Cq0]
end
end
section
section
variable {s:Zb} {σ:TS} {F B p q d:Nat} {fall:Nat ->TS ->TS}
end
end
section
def drop1 (i:Nat) (σ:TS):TS:= {σ with ld:=Z0 σ.ld i (σ.ld i + 1)}
noncomputable def Zbr (s:Zb) (k:Nat) (l:List Int) (σ:TS):TS:=J6 s (Zby s (nn s)) k l σ
noncomputable def ZeW (s:Zb) (b:Nat) (x:Zd) (σ:TS):TS:=
 if x.kW=1 then see x.kX.toNat x.kV.toNat x.n σ
 else if x.kW=2 then note s x.kV.toNat x.kX.toNat σ
 else if x.kW=3 then(if σ.st x.kV.toNat=1 then Y7 s (nn s) x.kV.toNat σ else σ)
 else if x.kW=4 then Zbr s x.kV.toNat x.qX σ
 else wait b x σ
def hd (σ:TS) (i:Nat):Zd:= (σ.sn i).getD (σ.ld i) default
noncomputable def ZbN (s:Zb) (a b:Nat) (σ:TS):TS:=ZeW s b (hd σ (li s a b)) (drop1 (li s a b) σ)
def Zvr (s:Zb) (b:Nat) (x:Zd):Prop:=∃ p:Nat,x.kV= (p:Int)∧p < nn s∧
 ((x.kW=1∧∃ q:Nat,x.kX= (q:Int)∧q < nn s)∨(x.kW=2∧∃ q:Nat,x.kX= (q:Int)∧q < nn s)∨x.kW=3∨(x.kW=4∧0 <=inn s (p:Int)∧x.qX.length=mm s * mm s)∨(x.kW=5∧pl s p=b∧x.qX.length=mm s * mm s∧∃ q:Nat,x.kX= (q:Int)∧q < nn s))
def Zr3 (s:Zb) (x:Zd) (σ:TS):Prop:=x.kW=4 ->σ.st x.kV.toNat=3∧x.kV ∉ σ.kn (inn s x.kV).toNat
section
variable {s:Zb} {σ:TS} {F B a b p q:Nat} {x:Zd} {l:List Int}
theorem Zhv (h:σ.ld p < (σ.sn p).length):fl σ p=hd σ p::(σ.sn p).drop (σ.ld p + 1):=by
 unfold fl hd;rw [List.drop_eq_getElem_cons h,ZcG h]
theorem Zxc (hp:p < mm s * mm s) (h:σ.ld p < (σ.sn p).length):Pot s (drop1 p σ) + ew (hd σ p)=Pot s σ:=by
 have e:=Zcg (f:=lw σ) (g:=lw (drop1 p σ)) hp fun j _ hj=>by
  unfold lw fl;show _ + (((σ.sn j).drop (Z0 σ.ld p _ j)).map ew).sum=_;rw [Zz hj];rfl
 have e1:lw (drop1 p σ) p + ew (hd σ p)=lw σ p:=by
  show(σ.sn p).length + (((σ.sn p).drop (Z0 σ.ld p _ p)).map ew).sum + _= (σ.sn p).length + ((fl σ p).map ew).sum;rw [Zq,Zhv h,List.map_cons,List.sum_cons];omega
 show σ.ev.length + Qu (mm s * mm s) (lw (drop1 p σ)) + Qu (mm s) (fun m=>(σ.be m).length) + Qu (nn s) (fun q=>2 * (σ.wa q).length) + Qu (nn s) (fun p=>sw (σ.st p)) + _=_;unfold Pot;omega
theorem Zs5 (h:Gd s B σ) (hp:p < mm s * mm s) (hl:σ.ld p < (σ.sn p).length):ew (hd σ p) <=B∧Gd s (B - ew (hd σ p)) (drop1 p σ):=by
 have:=Zxc (s:=s) hp hl;have:=h.wf.pot;refine⟨by omega,⟨by omega,fun i hi=>?_,h.wf.ws⟩,⟨h.kn.srt,h.kn.rng⟩⟩;show Z0 σ.ld p _ i <=_;by_cases e:i=p
 ·subst e;rw [Zq];exact hl
 ·rw [Zz e];exact h.wf.ld i hi
theorem ZxB (hS:Xk s) (h:Gd s B σ) (hp:p < nn s) (h0:¬ inn s (p:Int) < 0) (h3:σ.st p=3) (hn:(p:Int) ∉ σ.kn (inn s (p:Int)).toNat):Gd s B (Zbr s p l σ):=by
 obtain⟨eq,hq⟩:=X6 hS hp h0;have k3:=Wl hS h.kn hp h0 h3 hn l;unfold Zbr J6;by_cases c:(Yb s p l σ).st (inn s (p:Int)).toNat=2∧Alo s (Yb s p l σ) (inn s (p:Int)).toNat
 ·rw [ZL c];exact ZzB hS _ _ _ _ hq (WW hS hq) ⟨ZaC h.wf,k3⟩ (by rw [c.1];decide)
 ·rw [ZF c];exact⟨ZaC h.wf,k3⟩
theorem Zwq (h:Gd s B σ) (p q:Nat) (n:Int):Gd s (B + 1) (see p q n σ):=by
 refine⟨h.wf.see p q n,?_⟩;unfold see;split <;> exact⟨h.kn.srt,h.kn.rng⟩
theorem ZDl (hS:Xk s) (h:Gd s B σ) (hp:p < nn s) (hq:q < nn s):Gd s (B + 2) (YP s p q σ):=by
 have e:=Zdw (s:=s) p q σ;exact⟨h.wf.YP hS hp hq,⟨fun j hj=>by rw [e.2.1];exact h.kn.srt j hj,fun j hj y hy=>by rw [e.2.1] at hy;rw [e.1];exact h.kn.rng j hj y hy⟩⟩
theorem ZsB (hS:Xk s) (h:Gd s B σ) (hp:p < nn s) (hq:q < nn s):Gd s (B + 2) (note s p q σ):=by
 refine⟨h.wf.note hS hp hq,?_⟩;unfold note;split
 ·exact(ZDl hS h hp hq).kn
 ·exact⟨h.kn.srt,h.kn.rng⟩
theorem ZAX (h:Gd s B σ) (ha:a < mm s) (x:Zd):Gd s (B + 1) (wait a x σ):= ⟨h.wf.wait ha x,⟨h.kn.srt,h.kn.rng⟩⟩
theorem ZiK (hp:x.kV= (p:Int)) (hd:Zr3 s x σ) (h4:x.kW=4):σ.st p=3∧(p:Int) ∉ σ.kn (inn s (p:Int)).toNat:=by
 have:=hd h4;rw [hp,Int.toNat_natCast] at this;exact this
theorem ZxD (hS:Xk s) (h:Gd s B σ) (hb:b < mm s) (hx:Zvr s b x) (hd:Zr3 s x σ):Gd s (B + ew x) (ZeW s b x σ):=by
 obtain⟨p,hp,hpn,c⟩:=hx;unfold ZeW;rw [hp,Int.toNat_natCast];rcases c with⟨k,q,hq,UI⟩ | ⟨k,q,hq,UI⟩ | k | ⟨k,h0,hl⟩ | ⟨k,e,hl,q,hq,UI⟩
 ·rw [if_pos k,hq,Int.toNat_natCast];exact(Zwq h q p x.n).up (by unfold ew;rw [if_pos k];omega)
 ·rw [if_neg (by omega),if_pos k,hq,Int.toNat_natCast];exact(ZsB hS h hpn UI).up (by unfold ew;rw [if_neg (by omega),if_pos k];omega)
 ·rw [if_neg (by omega),if_neg (by omega),if_pos k];split
  ·exact(Zmq hS _ _ _ _ hpn (Kv.all hS.inn) h (by assumption)).up (by omega)
  ·exact h.up (by omega)
 ·rw [if_neg (by omega),if_neg (by omega),if_neg (by omega),if_pos k];have:=ZiK hp hd k;exact(ZxB hS h hpn (by omega) this.1 this.2).up (by omega)
 ·rw [if_neg (by omega),if_neg (by omega),if_neg (by omega),if_neg (by omega)];exact(ZAX h hb x).up (by unfold ew;rw [if_neg (by omega),if_neg (by omega),if_pos k];omega)
theorem Zol (hS:Xk s) (h:Gd s B σ) (ha:a < mm s) (hb:b < mm s) (hl:σ.ld (li s a b) < (σ.sn (li s a b)).length) (hx:Zvr s b (hd σ (li s a b))) (hd:Zr3 s (hd σ (li s a b)) σ):Gd s B (ZbN s a b σ):=by
 obtain⟨h1,h2⟩:=Zs5 h (J3 ha hb) hl;exact(ZxD hS h2 hb hx hd).up (by omega)
theorem ZFc {xs ys:List Zd} (h:xs.length + ys.length <=1000000):app 56 xs ys=some (xs ++ ys):=ZrH h (by decide)
theorem ZqB (h:Gd s B σ) (hB:B <=700000) (hp:p < mm s * mm s) (hl:σ.ld p < (σ.sn p).length):
 Y5 (Y5 (tab (mm s * mm s) (lnk σ)) (p:Int) ⟨(lnk σ p).ZU,(fl σ p).drop 1⟩) (p:Int) ⟨YA ((lnk σ p).ZU + 1),(fl σ p).drop 1⟩=tab (mm s * mm s) (lnk (drop1 p σ)):=by
 have hs:= (h.wf.few (by omega)).sn p hp;rw [QS,QS,Zur];refine Wh fun j hj=>?_
 by_cases e:j=p
 ·subst e;rw [Zq];show _= (⟨((Z0 σ.ld j _ j:Nat):Int),(σ.sn j).drop (Z0 σ.ld j _ j)⟩:Zn);rw [Zq,show(lnk σ j).ZU= (σ.ld j:Int) from rfl,QI (by omega)];unfold fl;rw [List.drop_drop]
 ·rw [Zz e];show _= (⟨((Z0 σ.ld p _ j:Nat):Int),(σ.sn j).drop (Z0 σ.ld p _ j)⟩:Zn);rw [Zz e];rfl
theorem ZFT (hl:σ.ld p < (σ.sn p).length):ZR (lnk σ p).kG 0=some (hd σ p):=by
 show ZR (fl σ p) 0=_;rw [Zhv hl];rfl
theorem ZFS (h:Gd s B σ) (hB:B <=700000) (hp:p < mm s * mm s) (hl:σ.ld p < (σ.sn p).length):slL (lnk σ p).kG 1 (((lnk σ p).kG.length:Nat):Int)=some ((fl σ p).drop 1)∧((fl σ p).drop 1).length <=800000:=by
 have hs:= (h.wf.few (by omega)).sn p hp;refine⟨?_,by unfold fl;rw [List.length_drop,List.length_drop];omega⟩;show slL (fl σ p) ((1:Nat):Int) (((fl σ p).length:Nat):Int)=_;exact Zsb (by unfold fl;rw [List.length_drop];omega)
theorem ZoL (hF:1000000 <=F) (hS:Xk s) (h:Gd s B σ) (hB:B <=700000) (hp:p < nn s) (h0:¬ inn s (p:Int) < 0) (h3:σ.st p=3) (hn:(p:Int) ∉ σ.kn (inn s (p:Int)).toNat) (hx:x.kV= (p:Int)) (hm:x.qX.length=mm s * mm s):
 ZoV F (hal s σ) x=some (hal s (Zbr s p x.qX σ)):=by
 obtain⟨eq,hq⟩:=X6 hS hp h0;have k3:=Wl hS h.kn hp h0 h3 hn x.qX;have w3:Wf s B (Yb s p x.qX σ):=ZaC h.wf;have h16:=ZiA hS;unfold ZoV;rw [hx];show(ZR s.Zf (p:Int)).bind _=_;rw [QC hp];simp only [Bq0];obtain⟨q,hqe⟩:∃ q,q= (inn s (p:Int)).toNat:= ⟨_,rfl⟩
 rw [← hqe] at eq hq hn;rw [J5,eq];have hl:=h.kn.len hS hq;rw [show(hal s σ).Za.qZ=tab (nn s) σ.kn from rfl,Yx hq];simp only [Bq0];rw [Zkz (by omega) (by omega) (h.kn.srt q hq) hn];simp only [Bq0,Bool.not_false,Cq1];rw [insert_eq (by omega)];simp only [Bq0];rw [QS];unfold Ze9;rw [J5,eq,show(hal s σ).Za.qX=ZdK s σ.ma from rfl,ZkN hq];simp only [Bq0];rw [Ze1 (by omega) (by omega) hm];simp only [Bq0]
 have e4:tab (nn s) (Z0 σ.kn q (ins (p:Int) (σ.kn q)))=tab (nn s) (Yb s p x.qX σ).kn:=by
  show _=tab (nn s) (Z0 σ.kn (inn s (p:Int)).toNat _);rw [← hqe]
 have e3:ZdK s (Z0 σ.ma q (mx (σ.ma q) x.qX))=tab (nn s) fun j=>tab (mm s * mm s) ((Yb s p x.qX σ).ma j):=by
  show _=tab (nn s) fun j=>tab (mm s * mm s) (Z0 σ.ma (inn s (p:Int)).toNat _ j)
  rw [← hqe];rfl
 rw [ZfY,e3,e4,show(hal s σ).Za.qV=tab (nn s) σ.st from rfl,Yx hq];simp only [Bq0];have e5:ZC.mk (Zh.mk (tab (nn s) σ.st) (tab (nn s) fun j=>tab (mm s * mm s) ((Yb s p x.qX σ).ma j)) (tab (nn s) (Yb s p x.qX σ).kn) (hal s σ).Za.Zl (hal s σ).Za.Zr (hal s σ).Za.kQ (hal s σ).Za.kK) (hal s σ).qK (hal s σ).kU=hal s (Yb s p x.qX σ):=rfl;rw [e5,Xi];unfold Zbr J6;rw [← hqe];have e6:(Yb s p x.qX σ).st q=σ.st q:=rfl;have h8:nn s <=8:=hS.p2;by_cases h2:σ.st q=2
 ·rw [decide_eq_true h2,Km,Zer (by omega) hS hq (by have:=k3.len hS hq;omega)];by_cases hA:Alo s (Yb s p x.qX σ) q
  ·rw [ZL hA];simp only [Bq0,Bool.and_self,Cq1];unfold Zy8;rw [Zpb hF hS _ _ _ F (by omega) hq (WW hS hq) w3 hB k3 (by rw [e6,h2];decide),ZL ⟨by rw [e6];exact h2,hA⟩];rfl
  ·rw [ZF hA];simp only [Bq0,Bool.and_false,Cq0];rw [ZF fun z=>hA z.2];rfl
 ·rw [decide_eq_false h2,ZaR];simp only [Bq0,Bool.false_and,Cq0];rw [ZF fun z=>h2 (by rw [← e6];exact z.1)];rfl
theorem Zul (hF:1000000 <=F) (hS:Xk s) (h:Gd s B σ) (hB:B <=600000) (ha:a < mm s) (hb:b < mm s) (hl:σ.ld (li s a b) < (σ.sn (li s a b)).length) (hx:Zvr s b (hd σ (li s a b))) (hd:Zr3 s (hd σ (li s a b)) σ):Zzc F (hal s σ) (a:Int) (b:Int)=some (hal s (ZbN s a b σ)):=by
 have hi:=J3 ha hb;obtain⟨_,g'⟩:=Zs5 h hi hl;have fw:=g'.wf.few (by omega);obtain⟨t1,t2⟩:=ZFS h (by omega) hi hl;unfold Zzc;show(ZR (tab (mm s * mm s) (lnk σ)) (YA (YA ((a:Int) * s.qG) + (b:Int)))).bind _=_;rw [ZcB hS ha hb,Yx hi];simp only [Bq0];rw [ZFT hl];simp only [Bq0];rw [t1];simp only [Bq0];unfold Zti;rw [ZFc (by rw [List.length_nil];omega)];simp only [Bq0,List.nil_append]
 have el:∀ (β:Type) (f:List Zn ->β),f (Y5 (Y5 (hal s σ).Za.kQ (YA ((YA ((a:Int) * (hal s σ).qK.qG)) + (b:Int))) (Zn.mk (lnk σ (li s a b)).ZU ((fl σ (li s a b)).drop 1))) (YA ((YA ((a:Int) * (hal s σ).qK.qG)) + (b:Int))) (Zn.mk (YA ((lnk σ (li s a b)).ZU + 1)) ((fl σ (li s a b)).drop 1)))=f (tab (mm s * mm s) (lnk (drop1 (li s a b) σ))):=fun β f=>by
  rw [show(hal s σ).qK.qG=s.qG from rfl,ZcB hS ha hb,show(hal s σ).Za.kQ=tab (mm s * mm s) (lnk σ) from rfl,ZqB h (by omega) hi hl]
 have el:=el _ id;simp only [id] at el;rw [el];have e5:ZC.mk (Zh.mk (hal s σ).Za.qV (hal s σ).Za.qX (hal s σ).Za.qZ (hal s σ).Za.Zl (hal s σ).Za.Zr (tab (mm s * mm s) (lnk (drop1 (li s a b) σ))) (hal s σ).Za.kK) (hal s σ).qK (hal s σ).kU=hal s (drop1 (li s a b) σ):=rfl;rw [e5];unfold ZbN ZeW;obtain⟨y,hy⟩:∃ y,y=Proofs.YtcnahmgekicbdaaGreat.hd σ (li s a b):= ⟨_,rfl⟩
 rw [← hy] at hx hd ⊢;obtain⟨p,hp,hpn,c⟩:=hx;simp only [Xi];rcases c with⟨k,q,hq,UI⟩ | ⟨k,q,hq,UI⟩ | k | ⟨k,h0,hm⟩ | ⟨k,e,hm,q,hq,UI⟩
 ·rw [decide_eq_true k,Cq1,if_pos k,ZnR fw hq UI,hp,hq,Int.toNat_natCast,Int.toNat_natCast]
  rfl
 ·rw [decide_eq_false (by omega),Cq0,decide_eq_true k,Cq1,if_neg (by omega),if_pos k,ZkM hS fw hp hq hpn UI,hp,hq,Int.toNat_natCast,Int.toNat_natCast]
  rfl
 ·rw [decide_eq_false (by omega),Cq0,decide_eq_false (by omega),Cq0,decide_eq_true k,Cq1,if_neg (by omega),if_neg (by omega),if_pos k,hp,Int.toNat_natCast];show(ZR (tab (nn s) σ.st) (p:Int)).bind _=_;rw [Yx hpn];simp only [Bq0];by_cases e:σ.st p=1
  ·rw [decide_eq_true e,Cq1,if_pos (show(drop1 (li s a b) σ).st p=1 from e)];unfold Zze;have h8:nn s <=8:=hS.p2;rw [Zk1 hF hS (nn s) _ _ F _ (by omega) hpn (Kv.all hS.inn) g' (by omega) e];rfl
  ·rw [decide_eq_false e,Cq0,if_neg (show ¬ (drop1 (li s a b) σ).st p=1 from e)];rfl
 ·have hD:=ZiK hp hd k;rw [decide_eq_false (by omega),Cq0,decide_eq_false (by omega),Cq0,decide_eq_false (by omega),Cq0,decide_eq_true k,Cq1,if_neg (by omega),if_neg (by omega),if_neg (by omega),if_pos k,ZoL hF hS g' (by omega) hpn (by omega) hD.1 hD.2 hp hm,hp,Int.toNat_natCast];rfl
 ·rw [decide_eq_false (by omega),Cq0,decide_eq_false (by omega),Cq0,decide_eq_false (by omega),Cq0,decide_eq_false (by omega),Cq0,decide_eq_true k,Cq1,if_neg (by omega),if_neg (by omega),if_neg (by omega),if_neg (by omega)];unfold Zth;rw [hp,U0 hS hpn,e];simp only [Bq0];rw [Zku fw hb];rfl
end
end
section
section
variable {s:Zb} {σ:TS} {F B a b p q:Nat} {x:Zd} {l:List Int}
end
end
section
noncomputable section
def dep (s:Zb) (q:Nat):Nat:=@dite _ (∃ m,m <=nn s∧up s (m + 1) (q:Int) < 0∧∀ k,k < m ->¬ up s (k + 1) (q:Int) < 0) (Classical.propDecidable _) (fun h=>Classical.choose h) (fun _=>0)
def rdy (s:Zb) (ld:Nat ->Nat) (w:Nat) (x:Zd):Prop:=∀ b:Nat,b < mm s ->b ≠ w ->x.qX.getD (li s b w) 0 <= (ld (li s b w):Int)
def Zcx (s:Zb) (x:Zd):Nat:=dep s x.kX.toNat
def Jg (s:Zb) (ld:Nat ->Nat) (w:Nat) (l:List Zd):Nat ->Option Nat
 | 0=>none
 | k + 1=>ifc (rdy s ld w (l.getD k default)∧∀ j,Jg s ld w l k=some j ->Zcx s (l.getD j default) < Zcx s (l.getD k default)) (some k) (Jg s ld w l k)
def Zbz {α:Type} (l:List α) (i:Nat):List α:=l.take i ++ l.drop (i + 1)
def rung (s:Zb) (w i:Nat) (σ:TS):TS:=
 if σ.st ((σ.be w).getD i default).kV.toNat=1 then tell 4 ((σ.be w).getD i default).kV ((σ.be w).getD i default).kX 0 {σ with be:=Z0 σ.be w (Zbz (σ.be w) i)} else{σ with be:=Z0 σ.be w (Zbz (σ.be w) i)}
def Ue (s:Zb) (w:Nat):Nat ->TS ->TS
 | 0,σ=>σ
 | n + 1,σ=>match Jg s σ.ld w (σ.be w) (σ.be w).length with
   | none=>σ
   | some i=>Ue s w n (rung s w i σ)
end
def BeS (s:Zb) (x:Zd):Prop:= (∃ p:Nat,x.kV= (p:Int)∧p < nn s)∧(∃ q:Nat,x.kX= (q:Int)∧q < nn s)∧x.qX.length=mm s * mm s
section
variable {s:Zb} {σ:TS} {F B a b p q w:Nat} {x:Zd} {l:List Zd}
theorem ZzD (hS:Xk s) (hq:q < nn s):dep s q <=nn s∧up s (dep s q + 1) (q:Int) < 0∧∀ k,k < dep s q ->¬ up s (k + 1) (q:Int) < 0:=by
 have h:∃ m,m <=nn s∧up s (m + 1) (q:Int) < 0∧∀ k,k < m ->¬ up s (k + 1) (q:Int) < 0:=
  ZaU (c:=fun k=>up s (k + 1) (q:Int) < 0) (n:=nn s) (UL (hS.inn.acy q hq) (by unfold nn;omega))
 unfold dep;rw [dif_pos h];exact Classical.choose_spec h
theorem Zjs {β:Type} (hF:1000 <=F) (hS:Xk s) (hq:q < nn s) {r:Int ->Option β} {body:Int×Int ->(Int×Int ->Option β) ->Option β}
 (hb:∀ v n next,body (v,n) next=bif decide (v >=0) then(ZR s.Zf v).bind fun x=>next (x.U2,YA (n + 1)) else r n):loop F body (inn s (q:Int),0)=r (dep s q:Int):=by
 obtain⟨h1,h2,h3⟩:=ZzD hS hq;have h8:nn s <=8:=hS.p2;refine XO (fun k=>(up s (k + 1) (q:Int),(k:Int))) (by show(up s (0 + 1) (q:Int),((0:Nat):Int))=_;rw [up1];rfl) (n:=dep s q) (by omega) (fun k hk next=>?_) (fun next=>?_)
 ·have h:=h3 k hk;obtain⟨j,e,hj⟩:=Zdb (hS.inn.up (q:= (q:Int)) ⟨by omega,by unfold nn at hq;omega⟩ (k + 1)) h;rw [hb,Ui s (k + 1),if_neg h,e,Ze4,Cq1,QC hj];simp only [Bq0];rw [J5,QI (by omega)]
 ·rw [hb,decide_eq_false (by omega),Cq0]
theorem Zqc (hF:1000 <=F) (hS:Xk s) (hw:w < mm s) (hx:x.qX.length=mm s * mm s):ZoU F (hal s σ) (w:Int) x=ifc (rdy s σ.ld w x) (some true) (some false):=by
 have h4:=hS.mm.2.2;unfold ZoU
 exact Zai (body:=Ze8 (hal s σ) (w:Int) x) (r1:=some false) (r2:=some true) (s0:= (0:Int)) (fun k=>(k:Int)) rfl (fun k:Nat=>k ≠ w ->x.qX.getD (li s k w) 0 <= (σ.ld (li s k w):Int)) (n:=mm s) (F:=F) (by omega) (fun k hk next=>by
  unfold Ze8;rw [show(hal s σ).qK.qG=s.qG from rfl,Zf0 hS hk,Cq1];by_cases e:k=w
  ·subst e;rw [show(((k:Int)) != ((k:Int)))=false by simp,Cq0,ZL (fun z=>absurd rfl z),QI (by omega)]
  ·have e1:(((k:Int)) != ((w:Int)))=true:=by rw [ZbD];exact decide_eq_true (by omega)
   have hi:=J3 hk hw;rw [e1,Cq1,ZcB hS hk hw,show(hal s σ).Za.kQ=tab (mm s * mm s) (lnk σ) from rfl,Yx hi];simp only [Bq0];rw [QD 0 (by rw [hx];exact hi)];simp only [Bq0];rw [show(lnk σ (li s k w)).ZU= (σ.ld (li s k w):Int) from rfl];by_cases c:x.qX.getD (li s k w) 0 <= (σ.ld (li s k w):Int)
   ·rw [decide_eq_false (by omega),Cq0,ZL (fun _=>c),QI (by omega)]
   ·rw [decide_eq_true (by omega),Cq1,ZF (fun z=>c (z e))]) (fun next=>by
  unfold Ze8;rw [show(hal s σ).qK.qG=s.qG from rfl,ZlU hS,Cq0])
theorem Zbl {ld:Nat ->Nat}:∀ k j,Jg s ld w l k=some j ->j < k:=by
 intro k
 induction k with
 | zero=>intro j h;cases h
 | succ k ih=>
   intro j h;rw [Jg] at h;by_cases c:rdy s ld w (l.getD k default)∧∀ j,Jg s ld w l k=some j ->Zcx s (l.getD j default) < Zcx s (l.getD k default)
   ·rw [ZL c] at h;cases h;omega
   ·rw [ZF c] at h;have:=ih j h;omega
def pI (o:Option Nat):Int:=match o with | none=>-1 | some j=>(j:Int)
noncomputable def pD (s:Zb) (l:List Zd) (o:Option Nat):Int:=match o with | none=>0 | some j=>(Zcx s (l.getD j default):Int)
theorem ZkK (hF:1000000 <=F) (hS:Xk s) (hw:w < mm s) (hl:l.length <=700000) (hx:∀ x ∈ l,BeS s x):
 Zjb F (w:Int) (tab (nn s) σ.st) (tab (nn s) fun p=>tab (mm s * mm s) (σ.ma p)) (tab (nn s) σ.kn) (tab (nn s) σ.wa) (tab (mm s) σ.be) (tab (mm s * mm s) (lnk σ)) σ.sd s.qG s.Zf σ.ev l=some (pI (Jg s σ.ld w l l.length)):=by
 unfold Zjb;refine XO (fun k=>(pI (Jg s σ.ld w l k),pD s l (Jg s σ.ld w l k),(k:Int))) rfl (n:=l.length) (by omega) (fun k hk next=>?_) (fun next=>?_)
 ·unfold Zmy;dsimp only;rw [YU hk,Cq1,QD default hk];simp only [Bq0];obtain⟨x,ex⟩:∃ x,x=l.getD k default:= ⟨_,rfl⟩
  obtain⟨_,⟨q,hq,UI⟩,hm⟩:=hx _ (XK (d:=default) hk);rw [← ex] at hq hm ⊢;rw [Zl6,Zqc (by omega) hS hw hm,hq];have ed:Zcx s x=dep s q:=by unfold Zcx;rw [hq,Int.toNat_natCast]
  rw [Jg,← ex];have j0:∀ (a b:Int),ZcK (k:Int) next (a,b)=next (a,b,((k + 1:Nat):Int)):=fun a b=>by unfold ZcK;dsimp only;rw [QI (by omega)]
  by_cases r:rdy s σ.ld w x
  ·rw [ZL r];simp only [Bq0,Bool.true_and];cases hpk:Jg s σ.ld w l k with
   | none=>
     rw [show decide (pI none < 0)=true from rfl,Bool.not_true,Cq0,Cq1];unfold Zmv;simp only [Bq0];rw [QC UI];simp only [Bq0];rw [J5,Zjs (r:=fun n=>Zgd (k:Int) next n) (by omega) hS UI (fun v n nx=>by unfold Zq6;dsimp only;rw [Bool.not_true,Cq0]),ZL ⟨r,fun j z=>by cases z⟩];unfold Zgd;rw [j0];show _=next ((k:Int),(Zcx s (l.getD k default):Int),_);rw [← ex,ed]
   | some j=>
     rw [show decide (pI (some j) < 0)=false from decide_eq_false (by simp [pI]),Bool.not_false,Cq1];unfold Zmx;simp only [Bq0];rw [QC UI];simp only [Bq0];rw [J5,Zjs (r:=fun n=>Zgf F s.Zf (pI (some j)) (pD s l (some j)) (k:Int) next x true n) (by omega) hS UI (fun v n nx=>by unfold Zq7;dsimp only;rw [Bool.not_true,Cq0])];unfold Zgf;rw [Bool.true_and];by_cases c:Zcx s (l.getD j default) < Zcx s x
     ·rw [decide_eq_true (show(dep s q:Int) > pD s l (some j) by show(dep s q:Int) > (Zcx s (l.getD j default):Int);omega),Cq1];unfold Zmw;simp only [Bq0];rw [hq,QC UI];simp only [Bq0];rw [J5,Zjs (r:=fun n=>Zge (k:Int) next n) (by omega) hS UI (fun v n nx=>by unfold Zq8;dsimp only;rw [Bool.not_true,Cq0]),ZL ⟨r,fun j' z=>by cases z;exact c⟩];unfold Zge;rw [j0];show _=next ((k:Int),(Zcx s (l.getD k default):Int),_);rw [← ex,ed]
     ·rw [decide_eq_false (show ¬ (dep s q:Int) > pD s l (some j) by show ¬ (dep s q:Int) > (Zcx s (l.getD j default):Int);omega),Cq0,ZF (fun z=>c (z.2 j rfl)),j0]
  ·rw [ZF r,ZF (fun z=>r z.1)];simp only [Bq0,Bool.false_and,Cq0];rw [j0]
 ·unfold Zmy;dsimp only;rw [Xb,Cq0]
end
end
section
noncomputable def rings (s:Zb):Nat ->TS ->TS
 | 0,σ=>σ
 | k + 1,σ=>Ue s k ((rings s k σ).be k).length (rings s k σ)
def BeA (s:Zb) (σ:TS):Prop:=∀ w,w < mm s ->∀ x ∈ σ.be w,BeS s x
section
variable {s:Zb} {σ:TS} {F B a b p q w i n:Nat} {x:Zd} {l:List Zd}
theorem Zfl {α:Type} {l:List α} {i:Nat} (h:i < l.length):(Zbz l i).length + 1=l.length:=by
 unfold Zbz;rw [List.length_append,List.length_take,List.length_drop];omega
theorem ZcP {α:Type} {l:List α} {i:Nat} {x:α} (h:x ∈ Zbz l i):x ∈ l:=by
 unfold Zbz at h;rcases List.mem_append.1 h with h | h
 ·exact List.mem_of_mem_take h
 ·exact List.mem_of_mem_drop h
theorem Qi (s:Zb) (w i:Nat) (σ:TS):(rung s w i σ).be=Z0 σ.be w (Zbz (σ.be w) i)∧(rung s w i σ).ld=σ.ld∧(rung s w i σ).st=σ.st∧(rung s w i σ).kn=σ.kn∧(rung s w i σ).ma=σ.ma∧(rung s w i σ).sn=σ.sn∧(rung s w i σ).wa=σ.wa∧(rung s w i σ).sd=σ.sd:=by
 unfold rung;split <;> exact⟨rfl,rfl,rfl,rfl,rfl,rfl,rfl,rfl⟩
theorem Zsh (h:Gd s B σ) (hw:w < mm s) (hi:i < (σ.be w).length):Gd s B (rung s w i σ):=by
 have hb:=h.wf.pot;have h1:(σ.be w).length <=Pot s σ:=by have:=UO (f:=fun m=>(σ.be m).length) hw;unfold Pot;omega
 have hp:=Zqo (s:=s) (σ:=σ) hw (Zbz (σ.be w) i);have hc:=Zfl hi;have w1:Wf s (B - 1) {σ with be:=Z0 σ.be w (Zbz (σ.be w) i)}:= ⟨by omega,h.wf.ld,h.wf.ws⟩
 unfold rung;split
 ·exact⟨(w1.tell _ _ _ _).up (by omega),⟨h.kn.srt,h.kn.rng⟩⟩
 ·exact⟨w1.up (by omega),⟨h.kn.srt,h.kn.rng⟩⟩
theorem ZnU (h:BeA s σ):BeA s (rung s w i σ):=fun v hv x hx=>by
 rw [(Qi s w i σ).1] at hx;by_cases e:v=w
 ·subst e;rw [Zq] at hx;exact h v hv x (ZcP hx)
 ·rw [Zz e] at hx;exact h v hv x hx
theorem ZBh (hw:w < mm s):∀ (n:Nat) (σ:TS),Gd s B σ ->BeA s σ ->Gd s B (Ue s w n σ)∧BeA s (Ue s w n σ):=by
 intro n
 induction n with
 | zero=>intro σ h hb;exact⟨h,hb⟩
 | succ n ih=>
   intro σ h hb;rw [Ue];cases hpk:Jg s σ.ld w (σ.be w) (σ.be w).length with
   | none=>exact⟨h,hb⟩
   | some i=>exact ih _ (Zsh h hw (Zbl _ _ hpk)) (ZnU hb)
theorem Zh8 (h:Gd s B σ) (hb:BeA s σ):∀ k,k <=mm s ->Gd s B (rings s k σ)∧BeA s (rings s k σ):=by
 intro k
 induction k with
 | zero=>intro _;exact⟨h,hb⟩
 | succ k ih=>
   intro hk;obtain⟨h1,h2⟩:=ih (by omega);exact ZBh (by omega) _ _ h1 h2
theorem del_eq (hi:i < l.length) (hl:l.length <=700000):ZoT l (i:Int) (YA ((i:Int) + 1))=some (Zbz l i):=by
 unfold ZoT;rw [QI (by omega)]
 have e1:slL l (i:Int) ((i + 1:Nat):Int)=some ((l.take (i + 1)).drop i):=by
  unfold slL;rw [decide_eq_true (show(0:Int) <= (i:Int) by omega),decide_eq_true (show(i:Int) <= ((i + 1:Nat):Int) by omega),decide_eq_true (show((i + 1:Nat):Int) <= (l.length:Int) by omega)]
  rfl
 rw [e1];simp only [Bq0];rw [Xi,decide_eq_false (by omega),Cq0,ZBd (by omega)];simp only [Bq0];rw [Zsb (by omega)];simp only [Bq0];rw [ZFc (by rw [List.length_take,List.length_drop];omega)];rfl
theorem ZtW (hF:1000000 <=F) (hS:Xk s) (hB:B <=600000) (hw:w < mm s):∀ (n F':Nat) (σ:TS),n < F' ->(σ.be w).length <=n ->Gd s B σ ->BeA s σ ->loop F' (Zei F (w:Int)) (WG s σ)=some (hal s (Ue s w n σ)):=by
 intro n
 induction n with
 | zero=>
   intro F' σ hn hl h hb;cases F' with
   | zero=>omega
   | succ F'=>
     rw [UC];unfold Zei WG;dsimp only;rw [Yx hw];simp only [Bq0];rw [ZkK hF hS hw (by omega) (hb w hw)];have:(σ.be w).length=0:=by omega
     simp only [Bq0];rw [this,show decide (pI (Jg s σ.ld w (σ.be w) 0) < 0)=true from rfl,Cq1];rfl
 | succ n ih=>
   intro F' σ hn hl h hb;cases F' with
   | zero=>omega
   | succ F'=>
     rw [UC];generalize hnx:loop F' (Zei F (w:Int))=nx;have hlen:= (h.wf.few (by omega)).be w hw;unfold Zei;rw [show WG s σ= (tab (nn s) σ.st,(tab (nn s) fun j=>tab (mm s * mm s) (σ.ma j)),tab (nn s) σ.kn,tab (nn s) σ.wa,tab (mm s) σ.be,tab (mm s * mm s) (lnk σ),σ.sd,s.qG,s.Zf,σ.ev) from rfl];dsimp only;have hl7:(σ.be w).length <=600000:=by have:=h.wf.pot;have:=UO (f:=fun m=>(σ.be m).length) hw;unfold Pot at *;omega
     rw [Yx hw];simp only [Bq0];rw [ZkK hF hS hw (by omega) (hb w hw),Ue];simp only [Bq0];cases hpk:Jg s σ.ld w (σ.be w) (σ.be w).length with
     | none=>rw [show decide (pI none < 0)=true from rfl,Cq1];rfl
     | some i=>
       have hi:=Zbl _ _ hpk;rw [decide_eq_false (show ¬ pI (some i) < 0 by simp [pI]),Cq0,show pI (some i)= (i:Int) from rfl,QD default hi];simp only [Bq0];rw [del_eq hi (by omega)];simp only [Bq0];obtain⟨⟨p,hp,hpn⟩,_,_⟩:=hb w hw _ (XK (d:=default) hi);rw [hp,Yx hpn];simp only [Bq0];have gr:=Zsh h hw hi;have br:=ZnU (w:=w) (i:=i) hb;have lr:((rung s w i σ).be w).length <=n:=by rw [(Qi s w i σ).1,Zq];have:=Zfl hi;omega
       have hih:=ih F' (rung s w i σ) (by omega) lr gr br;rw [hnx] at hih;refine Eq.trans ?_ hih;unfold rung;rw [hp,Int.toNat_natCast,Xi,QS];by_cases e:σ.st p=1
       ·rw [decide_eq_true e,Cq1,if_pos e,show ZC.mk (Zh.mk (tab (nn s) σ.st) (tab (nn s) fun j=>tab (mm s * mm s) (σ.ma j)) (tab (nn s) σ.kn) (tab (nn s) σ.wa) (tab (mm s) (Z0 σ.be w (Zbz (σ.be w) i))) (tab (mm s * mm s) (lnk σ)) σ.sd) (Zb.mk s.qG s.Zf) σ.ev=hal s {σ with be:=Z0 σ.be w (Zbz (σ.be w) i)} from rfl];have hpb:=Zqo (s:=s) (σ:=σ) hw (Zbz (σ.be w) i);have:=Zfl hi;have:=h.wf.pot;have w1:Wf s B {σ with be:=Z0 σ.be w (Zbz (σ.be w) i)}:= ⟨by omega,h.wf.ld,h.wf.ws⟩
        rw [Ky (w1.few (by omega))]
        rfl
       ·rw [decide_eq_false e,Cq0,if_neg e];rfl
end
end
section
noncomputable section
variable (s:Zb)
def JU (p:Nat) (σ:TS):TS:=
 if inn s (p:Int) < 0 then ZM s p σ
 else if pl s (inn s (p:Int)).toNat=pl s p then Yb s p (UH s (ZM s p σ) p) (ZM s p σ)
 else send s (pl s p) (pl s (inn s (p:Int)).toNat) ⟨4,(p:Int),0,0,UH s (ZM s p σ) p⟩ (ZM s p σ)
def kK (p q:Nat) (σ:TS):TS:=tell 1 p q σ.sd {σ with sd:=σ.sd + 1}
inductive Act:TS ->TS ->Prop
 | fall {σ:TS} {p:Nat} (hp:p < nn s) (h:σ.st p=1):Act σ (Xc p σ)
 | Ux {σ:TS} {p k:Nat} (hp:p < nn s) (hk:k < nn s) (hi:inn s (k:Int)= (p:Int)) (h:σ.st p ≠ 1) (hr:pl s k ≠ pl s p) (hn:(k:Int) ∉ σ.kn p):Act σ (send s (pl s p) (pl s k) ⟨3,(k:Int),0,0,[]⟩ σ)
 | die {σ:TS} {p:Nat} (hp:p < nn s) (h:σ.st p=2) (ha:Alo s σ p):Act σ (JU s p σ)
 | Zbe {σ:TS} {p q:Nat} (hp:p < nn s) (hq:q < nn s) (h:σ.st p=1) (e:pl s p=pl s q):Act σ (see q p σ.sd (kK p q σ))
 | Zbd {σ:TS} {p q:Nat} (hp:p < nn s) (hq:q < nn s) (h:σ.st p=1) (e:pl s p ≠ pl s q):Act σ (send s (pl s p) (pl s q) ⟨1,(p:Int),(q:Int),σ.sd,[]⟩ (kK p q σ))
 | Za9 {σ:TS} {p q:Nat} (hp:p < nn s) (hq:q < nn s) (h:σ.st p=1) (e:pl s p=pl s q):Act σ (note s p q (tell 3 p q 0 σ))
 | Za8 {σ:TS} {p q:Nat} (hp:p < nn s) (hq:q < nn s) (h:σ.st p=1) (e:pl s p ≠ pl s q):Act σ (send s (pl s p) (pl s q) ⟨2,(p:Int),(q:Int),0,[]⟩ (tell 3 p q 0 σ))
 | Zbs {σ:TS} {a b p q:Nat} (ha:a < mm s) (hb:b < mm s) (hl:σ.ld (li s a b) < (σ.sn (li s a b)).length) (hk:(hd σ (li s a b)).kW=1) (hp:(hd σ (li s a b)).kV= (p:Int)) (hq:(hd σ (li s a b)).kX= (q:Int)) (hpn:p < nn s) (UI:q < nn s):Act σ (see q p (hd σ (li s a b)).n (drop1 (li s a b) σ))
 | Zbu {σ:TS} {a b p q:Nat} (ha:a < mm s) (hb:b < mm s) (hl:σ.ld (li s a b) < (σ.sn (li s a b)).length) (hk:(hd σ (li s a b)).kW=2) (hp:(hd σ (li s a b)).kV= (p:Int)) (hq:(hd σ (li s a b)).kX= (q:Int)) (hpn:p < nn s) (UI:q < nn s):Act σ (note s p q (drop1 (li s a b) σ))
 | ZaM {σ:TS} {a b p:Nat} (ha:a < mm s) (hb:b < mm s) (hl:σ.ld (li s a b) < (σ.sn (li s a b)).length) (hk:(hd σ (li s a b)).kW=3) (hp:(hd σ (li s a b)).kV= (p:Int)) (hpn:p < nn s):Act σ (drop1 (li s a b) σ)
 | Zau {σ:TS} {a b p:Nat} (ha:a < mm s) (hb:b < mm s) (hl:σ.ld (li s a b) < (σ.sn (li s a b)).length) (hk:(hd σ (li s a b)).kW=4) (hp:(hd σ (li s a b)).kV= (p:Int)) (hpn:p < nn s) (h0:0 <=inn s (p:Int)) (hm:(hd σ (li s a b)).qX.length=mm s * mm s) (h3:σ.st p=3) (hn:(p:Int) ∉ σ.kn (inn s (p:Int)).toNat):Act σ (Yb s p (hd σ (li s a b)).qX (drop1 (li s a b) σ))
 | Zbt {σ:TS} {a b:Nat} (ha:a < mm s) (hb:b < mm s) (hl:σ.ld (li s a b) < (σ.sn (li s a b)).length) (hk:(hd σ (li s a b)).kW=5):Act σ (wait b (hd σ (li s a b)) (drop1 (li s a b) σ))
 | ring {σ:TS} {w i:Nat} (hw:w < mm s) (h:Jg s σ.ld w (σ.be w) (σ.be w).length=some i):Act σ (rung s w i σ)
inductive Qq:TS ->TS ->Prop
 | refl {σ:TS}:Qq σ σ
 | tail {σ τ υ:TS}:Qq σ τ ->Act s τ υ ->Qq σ υ
def Zc2 (x:ZE) (σ:TS):Prop:=
 (x.act=1∧∃ p q:Nat,x.a= (p:Int)∧x.b= (q:Int)∧p < nn s∧q < nn s∧σ.st p=1)∨
 (x.act=2∧∃ p q:Nat,x.a= (p:Int)∧x.b= (q:Int)∧p < nn s∧q < nn s∧σ.st p=1)∨
 (x.act=3∧∃ p:Nat,x.a= (p:Int)∧p < nn s∧σ.st p=1)∨
 (x.act=4∧∃ a b:Nat,x.a= (a:Int)∧x.b= (b:Int)∧a < mm s∧b < mm s∧σ.ld (li s a b) < (σ.sn (li s a b)).length)
def WZ (x:ZE) (σ:TS):TS:=
 if x.act=1 then(if pl s x.a.toNat=pl s x.b.toNat then see x.b.toNat x.a.toNat σ.sd (kK x.a.toNat x.b.toNat σ) else send s (pl s x.a.toNat) (pl s x.b.toNat) ⟨1,x.a,x.b,σ.sd,[]⟩ (kK x.a.toNat x.b.toNat σ))
 else if x.act=2 then(if pl s x.a.toNat=pl s x.b.toNat then note s x.a.toNat x.b.toNat (tell 3 x.a x.b 0 σ) else send s (pl s x.a.toNat) (pl s x.b.toNat) ⟨2,x.a,x.b,0,[]⟩ (tell 3 x.a x.b 0 σ))
 else if x.act=3 then Y7 s (nn s) x.a.toNat σ
 else ZbN s x.a.toNat x.b.toNat σ
def stepW (x:ZE) (σ:TS):TS:=rings s (mm s) (WZ s x σ)
end
section
variable {s:Zb} {σ τ υ:TS} {F B a b p q w i n d:Nat} {x:Zd}
theorem Qq.trans (h:Qq s σ τ) (h':Qq s τ υ):Qq s σ υ:=by
 induction h' with
 | refl=>exact h
 | tail _ a ih=>exact .tail ih a
theorem Qq.one (h:Act s σ τ):Qq s σ τ:= .tail .refl h
theorem Qq.keep {P:TS ->Prop} (hP:∀ σ τ,P σ ->Act s σ τ ->P τ) (h:Qq s σ τ) (h0:P σ):P τ:=by
 induction h with
 | refl=>exact h0
 | tail _ a ih=>exact hP _ _ ih a
theorem QW {α:Type} (f:TS ->α ->TS) (Q:TS ->Prop):∀ (l:List α) (σ:TS),Q σ ->(∀ σ x,x ∈ l ->Q σ ->Q (f σ x)) ->Q (l.foldl f σ):=by
 intro l
 induction l with
 | nil=>intro σ h _;exact h
 | cons x l ih=>intro σ h hf;exact ih _ (hf σ x (by simp) h) fun σ y hy=>hf σ y (by simp [hy])
theorem XT (p q:Nat) (n:Int) (σ:TS):(see p q n σ).st=σ.st∧(see p q n σ).kn=σ.kn∧(see p q n σ).ma=σ.ma∧(see p q n σ).ld=σ.ld∧(see p q n σ).sn=σ.sn∧(see p q n σ).be=σ.be∧(see p q n σ).wa=σ.wa∧(see p q n σ).sd=σ.sd:=by
 unfold see;split <;> exact⟨rfl,rfl,rfl,rfl,rfl,rfl,rfl,rfl⟩
theorem Xf (p q:Nat) (σ:TS):(note s p q σ).st=σ.st∧(note s p q σ).kn=σ.kn∧(note s p q σ).ma=σ.ma∧(note s p q σ).ld=σ.ld∧(note s p q σ).sd=σ.sd∧(note s p q σ).ev=σ.ev:=by
 unfold note;split
 ·have:=Zdw (s:=s) p q σ;exact⟨this.1,this.2.1,this.2.2.1,this.2.2.2.1,this.2.2.2.2.1,this.2.2.2.2.2.1⟩
 ·exact⟨rfl,rfl,rfl,rfl,rfl,rfl⟩
theorem Zts (p:Nat) (σ:TS):(JU s p σ).st=Z0 σ.st p 3:=by
 have e:= (Qj (s:=s) p σ).1;unfold JU;split
 ·exact e
 ·split
  ·exact e
  ·exact e
theorem ZoD {f:Nat ->Int} {k j:Nat} {v:Int} (hv:v ≠ 1) (h:f j ≠ 1):Z0 f k v j ≠ 1:=by
 unfold Z0;by_cases e:j=k
 ·rw [if_pos e];exact hv
 ·rw [if_neg e];exact h
theorem ZJ3 (h:Act s σ τ) (hp:σ.st p ≠ 1):τ.st p ≠ 1:=by
 cases h with
 | fall hq h=>exact ZoD (by decide) hp
 | Ux=>exact hp
 | die hq h ha=>rw [Zts];exact ZoD (by decide) hp
 | Zbe=>rw [(XT _ _ _ _).1];exact hp
 | Zbd=>exact hp
 | Za9=>rw [(Xf _ _ _).1];exact hp
 | Za8=>exact hp
 | Zbs=>rw [(XT _ _ _ _).1];exact hp
 | Zbu=>rw [(Xf _ _ _).1];exact hp
 | ZaM=>exact hp
 | Zau=>exact hp
 | Zbt=>exact hp
 | ring=>rw [(Qi _ _ _ _).2.2.1];exact hp
theorem ZdA (h:Qq s σ τ) (hp:σ.st p ≠ 1):τ.st p ≠ 1:=h.keep (P:=fun σ=>σ.st p ≠ 1) (fun _ _ h a=>ZJ3 a h) hp
theorem Zfj (hS:Xk s):∀ (d p:Nat) (σ:TS),p < nn s ->up s d (p:Int) < 0 ->σ.st p=2 ->Alo s σ p ->Qq s σ (Zby s d p σ):=by
 intro d
 induction d with
 | zero=>intro p σ hp hu _ _;exact absurd hu (by show ¬ ((p:Int)) < 0;omega)
 | succ d ih=>
   intro p σ hp hu h2 hA;have h1:Qq s σ (JU s p σ):= .one (.die hp h2 hA);show Qq s σ (ZcO s (Zby s d) p (ZM s p σ));unfold ZcO;unfold JU at h1;by_cases h0:inn s (p:Int) < 0
   ·rw [if_pos h0] at h1 ⊢;exact h1
   ·rw [if_neg h0] at h1 ⊢;obtain⟨eq,hq⟩:=X6 hS hp h0;by_cases e:pl s (inn s (p:Int)).toNat=pl s p
    ·rw [if_pos e] at h1 ⊢;unfold J6;by_cases c:(Yb s p (UH s (ZM s p σ) p) (ZM s p σ)).st (inn s (p:Int)).toNat=2∧Alo s (Yb s p (UH s (ZM s p σ) p) (ZM s p σ)) (inn s (p:Int)).toNat
     ·rw [ZL c];exact h1.trans (ih _ _ hq (by rw [← eq];exact Zp4 hp hu) c.1 c.2)
     ·rw [ZF c];exact h1
    ·rw [if_neg e] at h1 ⊢;exact h1
theorem Zgc (hS:Xk s):∀ (d p:Nat) (σ:TS),p < nn s ->Kv s d p ->σ.st p=1 ->Qq s σ (Y7 s d p σ):=by
 intro d
 induction d with
 | zero=>intro p σ hp hs _;exact absurd rfl (hs p hp 0 (Nat.le_refl _))
 | succ d ih=>
   intro p σ hp hs h1;have h0:Qq s σ (Xc p σ):= .one (.fall hp h1);have hne:(Xc p σ).st p ≠ 1:=by show Z0 σ.st p 2 p ≠ 1;rw [Zq];decide
   have hk:Qq s σ (fk s (Y7 s d) p (nn s) (Xc p σ))∧(fk s (Y7 s d) p (nn s) (Xc p σ)).st p ≠ 1:=by
    refine QW _ (fun τ=>Qq s σ τ∧τ.st p ≠ 1) _ _ ⟨h0,hne⟩ (fun τ k hk ⟨ha,hτ⟩=>?_);obtain⟨hkn,hki⟩:=ZiL.1 (show k ∈ ZxI s p from hk)
    have:Qq s τ (ZaS s (Y7 s d) p τ k):=by
     unfold ZaS;by_cases e:pl s k=pl s p
     ·rw [if_pos e];by_cases e1:τ.st k=1
      ·rw [if_pos e1];exact ih k τ hkn (hs.kid hki) e1
      ·rw [if_neg e1];exact .refl
     ·rw [if_neg e];by_cases e1:(k:Int) ∈ τ.kn p
      ·rw [if_pos e1];exact .refl
      ·rw [if_neg e1];exact .one (.Ux hp hkn hki hτ e e1)
    exact⟨ha.trans this,ZdA this hτ⟩
   show Qq s σ (Zb7 s p (fk s (Y7 s d) p (nn s) (Xc p σ)));unfold Zb7;by_cases c:(fk s (Y7 s d) p (nn s) (Xc p σ)).st p=2∧Alo s (fk s (Y7 s d) p (nn s) (Xc p σ)) p
   ·rw [ZL c];exact hk.1.trans (Zfj hS _ _ _ hp (WW hS hp) c.1 c.2)
   ·rw [ZF c];exact hk.1
theorem ZtX (hw:w < mm s):∀ (n:Nat) (σ:TS),Qq s σ (Ue s w n σ):=by
 intro n
 induction n with
 | zero=>intro σ;exact .refl
 | succ n ih=>
   intro σ;rw [Ue];cases hpk:Jg s σ.ld w (σ.be w) (σ.be w).length with
   | none=>exact .refl
   | some i=>exact(Qq.one (.ring hw hpk)).trans (ih _)
theorem Zbh:∀ k,k <=mm s ->Qq s σ (rings s k σ):=by
 intro k
 induction k with
 | zero=>intro _;exact .refl
 | succ k ih=>intro hk;exact(ih (by omega)).trans (ZtX (by omega) _ _)
theorem ZkU (hS:Xk s) (ha:a < mm s) (hb:b < mm s) (hl:σ.ld (li s a b) < (σ.sn (li s a b)).length) (hx:Zvr s b (hd σ (li s a b))) (hD:Zr3 s (hd σ (li s a b)) σ):Qq s σ (ZbN s a b σ):=by
 obtain⟨p,hp,hpn,c⟩:=hx;unfold ZbN ZeW;rcases c with⟨k,q,hq,UI⟩ | ⟨k,q,hq,UI⟩ | k | ⟨k,h0,hm⟩ | ⟨k,e,hm,q,hq,UI⟩
 ·rw [if_pos k,hp,hq,Int.toNat_natCast,Int.toNat_natCast];exact .one (.Zbs ha hb hl k hp hq hpn UI)
 ·rw [if_neg (by omega),if_pos k,hp,hq,Int.toNat_natCast,Int.toNat_natCast];exact .one (.Zbu ha hb hl k hp hq hpn UI)
 ·rw [if_neg (by omega),if_neg (by omega),if_pos k,hp,Int.toNat_natCast];have h1:Qq s σ (drop1 (li s a b) σ):= .one (.ZaM ha hb hl k hp hpn);by_cases e:(drop1 (li s a b) σ).st p=1
  ·rw [if_pos e];exact h1.trans (Zgc hS _ _ _ hpn (Kv.all hS.inn) e)
  ·rw [if_neg e];exact h1
 ·rw [if_neg (by omega),if_neg (by omega),if_neg (by omega),if_pos k,hp,Int.toNat_natCast];obtain⟨h3,hn⟩:=ZiK hp hD k;obtain⟨eq,hq⟩:=X6 hS hpn (by omega);have h1:Qq s σ (Yb s p (hd σ (li s a b)).qX (drop1 (li s a b) σ)):= .one (.Zau ha hb hl k hp hpn h0 hm h3 hn);unfold Zbr J6;by_cases c:(Yb s p (hd σ (li s a b)).qX (drop1 (li s a b) σ)).st (inn s (p:Int)).toNat=2∧Alo s (Yb s p (hd σ (li s a b)).qX (drop1 (li s a b) σ)) (inn s (p:Int)).toNat
  ·rw [ZL c];exact h1.trans (Zfj hS _ _ _ hq (WW hS hq) c.1 c.2)
  ·rw [ZF c];exact h1
 ·rw [if_neg (by omega),if_neg (by omega),if_neg (by omega),if_neg (by omega)];exact .one (.Zbt ha hb hl k)
end
end
section
def ZAp (s:Zb) (a b:Nat) (x:Zd):Prop:=∃ p:Nat,x.kV= (p:Int)∧p < nn s∧x.qX.length <=16∧
 ((x.kW=1∧pl s p=a∧∃ q:Nat,x.kX= (q:Int)∧q < nn s∧pl s q=b)∨(x.kW=2∧pl s p=a∧∃ q:Nat,x.kX= (q:Int)∧q < nn s∧pl s q=b)∨(x.kW=3∧pl s p=b∧0 <=inn s (p:Int)∧pl s (inn s (p:Int)).toNat=a)∨(x.kW=4∧0 <=inn s (p:Int)∧x.qX.length=mm s * mm s∧pl s p=a∧pl s (inn s (p:Int)).toNat=b)∨(x.kW=5∧pl s p=b∧x.qX.length=mm s * mm s∧∃ q:Nat,x.kX= (q:Int)∧q < nn s∧pl s q=a))
theorem ZAp.s {s:Zb} {a b:Nat} {x:Zd} (h:ZAp s a b x):Zvr s b x:=by
 obtain⟨p,hp,hpn,_,c⟩:=h;refine⟨p,hp,hpn,?_⟩;rcases c with⟨k,_,q,hq,UI,_⟩ | ⟨k,_,q,hq,UI,_⟩ | ⟨k,_⟩ | ⟨k,h0,hm,_⟩ | ⟨k,e,hm,q,hq,UI,_⟩
 ·exact .inl ⟨k,q,hq,UI⟩
 ·exact .inr (.inl ⟨k,q,hq,UI⟩)
 ·exact .inr (.inr (.inl k))
 ·exact .inr (.inr (.inr (.inl ⟨k,h0,hm⟩)))
 ·exact .inr (.inr (.inr (.inr ⟨k,e,hm,q,hq,UI⟩)))
structure P1 (s:Zb) (σ:TS):Prop where
 lets:∀ a b,a < mm s ->b < mm s ->∀ x ∈ σ.sn (li s a b),ZAp s a b x
 self:∀ a,a < mm s ->σ.sn (li s a a)= []
 bea:∀ w,w < mm s ->∀ x ∈ σ.be w,BeS s x∧x.kW=5
 ws:∀ q,q < nn s ->∀ x ∈ σ.wa q,∃ k:Nat,x= (k:Int)∧k < nn s
section
variable {s:Zb} {σ τ υ:TS} {F B a b p q w i n d:Nat} {x:Zd}
theorem ZlW {a b a' b':Nat} (hb:b < mm s) (hb':b' < mm s) (h:li s a b=li s a' b'):a=a'∧b=b':=by
 obtain⟨e1,e2⟩:= (WB hb).1 (show li s a b=a * mm s + b from rfl);obtain⟨e3,e4⟩:= (WB hb').1 (show li s a' b'=a' * mm s + b' from rfl);rw [h] at e1 e2;exact⟨by omega,by omega⟩
theorem P1.congr (h:P1 s σ) (h1:τ.sn=σ.sn) (h2:τ.be=σ.be) (h3:τ.wa=σ.wa):P1 s τ:= ⟨by rw [h1];exact h.lets,by rw [h1];exact h.self,by rw [h2];exact h.bea,by rw [h3];exact h.ws⟩
theorem P1.send (h:P1 s σ) (ha:a < mm s) (hb:b < mm s) (hne:a ≠ b) (hx:ZAp s a b x):P1 s (Proofs.YtcnahmgekicbdaaGreat.send s a b x σ):=by
 refine⟨fun a' b' ha' hb' y hy=>?_,fun a' ha'=>?_,h.bea,h.ws⟩
 ·by_cases e:li s a' b'=li s a b
  ·obtain⟨rfl,rfl⟩:=ZlW hb' hb e;rw [Zc5] at hy;rcases List.mem_append.1 hy with hy | hy
   ·exact h.lets _ _ ha' hb' y hy
   ·rw [List.mem_singleton.1 hy];exact hx
  ·rw [JI e] at hy;exact h.lets _ _ ha' hb' y hy
 ·rw [JI (fun e=>hne (by obtain⟨e1,e2⟩:=ZlW ha' hb e;omega))];exact h.self a' ha'
theorem P1.wait (h:P1 s σ) (hx:BeS s x∧x.kW=5):P1 s (Proofs.YtcnahmgekicbdaaGreat.wait a x σ):=by
 refine⟨h.lets,h.self,fun w hw y hy=>?_,h.ws⟩;have hy:y ∈ Z0 σ.be a (σ.be a ++ [x]) w:=hy;by_cases e:w=a
 ·subst e;rw [Zq] at hy;rcases List.mem_append.1 hy with hy | hy
  ·exact h.bea w hw y hy
  ·rw [List.mem_singleton.1 hy];exact hx
 ·rw [Zz e] at hy;exact h.bea w hw y hy
theorem P1.YP (hS:Xk s) (h:P1 s σ) (hp:p < nn s) (hq:q < nn s):P1 s (Proofs.YtcnahmgekicbdaaGreat.YP s p q σ):=by
 unfold Proofs.YtcnahmgekicbdaaGreat.YP;by_cases e:pl s p=pl s q
 ·rw [if_pos e];exact h.wait ⟨⟨⟨p,rfl,hp⟩,⟨q,rfl,hq⟩,Qh⟩,rfl⟩
 ·rw [if_neg e];exact h.send (hS.pl hq).2 (hS.pl hp).2 (fun z=>e z.symm) ⟨p,rfl,hp,(by show(tab _ _).length <=16;rw [Qh];exact ZiA hS),.inr (.inr (.inr (.inr ⟨rfl,rfl,Qh,q,rfl,hq,rfl⟩)))⟩
theorem P1.see (h:P1 s σ) (p q:Nat) (n:Int):P1 s (Proofs.YtcnahmgekicbdaaGreat.see p q n σ):=by
 have e:=XT p q n σ;exact h.congr e.2.2.2.2.1 e.2.2.2.2.2.1 e.2.2.2.2.2.2.1
theorem P1.note (hS:Xk s) (h:P1 s σ) (hp:p < nn s) (hq:q < nn s):P1 s (Proofs.YtcnahmgekicbdaaGreat.note s p q σ):=by
 unfold Proofs.YtcnahmgekicbdaaGreat.note;by_cases e:σ.st q=3
 ·rw [if_pos e];exact h.YP hS hp hq
 ·rw [if_neg e];refine⟨h.lets,h.self,h.bea,fun j hj y hy=>?_⟩;have hy:y ∈ Z0 σ.wa q (σ.wa q ++ [(p:Int)]) j:=hy;by_cases e1:j=q
  ·subst e1;rw [Zq] at hy;rcases List.mem_append.1 hy with hy | hy
   ·exact h.ws j hj y hy
   ·rw [List.mem_singleton.1 hy];exact⟨p,rfl,hp⟩
  ·rw [Zz e1] at hy;exact h.ws j hj y hy
theorem P1.Jd (h:P1 s σ) (p:Nat):P1 s (Proofs.YtcnahmgekicbdaaGreat.Jd p σ):=by
 refine⟨h.lets,h.self,h.bea,fun j hj y hy=>?_⟩;have hy:y ∈ Z0 σ.wa p [] j:=hy;by_cases e1:j=p
 ·subst e1;rw [Zq] at hy;cases hy
 ·rw [Zz e1] at hy;exact h.ws j hj y hy
theorem P1.Zr (hS:Xk s) (h:P1 s σ) (hp:p < nn s) (l:List Int) (hl:∀ x ∈ l,∃ k:Nat,x= (k:Int)∧k < nn s):P1 s (Proofs.YtcnahmgekicbdaaGreat.Zr s p l σ):=
 QW _ (P1 s) l σ h fun τ x hx hτ=>by
  obtain⟨k,e,hk⟩:=hl x hx;rw [e,Int.toNat_natCast];exact hτ.YP hS hk hp
theorem P1.ZM (hS:Xk s) (h:P1 s σ) (hp:p < nn s):P1 s (Proofs.YtcnahmgekicbdaaGreat.ZM s p σ):= ((h.Jd p).Zr hS hp _ (h.ws p hp)).congr rfl rfl rfl
theorem P1.JU (hS:Xk s) (h:P1 s σ) (hp:p < nn s):P1 s (Proofs.YtcnahmgekicbdaaGreat.JU s p σ):=by
 have hA:=h.ZM hS hp;unfold Proofs.YtcnahmgekicbdaaGreat.JU;by_cases h0:inn s (p:Int) < 0
 ·rw [if_pos h0];exact hA
 ·rw [if_neg h0];obtain⟨eq,hq⟩:=X6 hS hp h0;by_cases e:pl s (inn s (p:Int)).toNat=pl s p
  ·rw [if_pos e];exact hA.congr rfl rfl rfl
  ·rw [if_neg e];exact hA.send (hS.pl hp).2 (hS.pl hq).2 (fun z=>e z.symm) ⟨p,rfl,hp,(by show(tab _ _).length <=16;rw [Qh];exact ZiA hS),.inr (.inr (.inr (.inl ⟨rfl,by omega,Qh,rfl,rfl⟩)))⟩
theorem ZcF (h:σ.ld i < (σ.sn i).length):hd σ i ∈ σ.sn i:=XK h
theorem P1.act (hS:Xk s) (h:P1 s σ) (ac:Act s σ τ):P1 s τ:=by
 cases ac with
 | fall=>exact h.congr rfl rfl rfl
 | @Ux p k hp hk hi h1 hr hn=>
   exact h.send (hS.pl hp).2 (hS.pl hk).2 (fun z=>hr z.symm) ⟨k,rfl,hk,(by show 0 <=16;omega),.inr (.inr (.inl ⟨rfl,rfl,by omega,by rw [hi,Int.toNat_natCast]⟩))⟩
 | die hp=>exact h.JU hS hp
 | Zbe hp hq h1 e=>exact(h.congr (τ:=kK _ _ σ) rfl rfl rfl).see _ _ _
 | @Zbd p q hp hq h1 e=>exact(h.congr (τ:=kK _ _ σ) rfl rfl rfl).send (hS.pl hp).2 (hS.pl hq).2 e ⟨p,rfl,hp,(by show 0 <=16;omega),.inl ⟨rfl,rfl,q,rfl,hq,rfl⟩⟩
 | Za9 hp hq h1 e=>exact(h.congr (τ:=tell _ _ _ _ σ) rfl rfl rfl).note hS hp hq
 | @Za8 p q hp hq h1 e=>exact(h.congr (τ:=tell _ _ _ _ σ) rfl rfl rfl).send (hS.pl hp).2 (hS.pl hq).2 e ⟨p,rfl,hp,(by show 0 <=16;omega),.inr (.inl ⟨rfl,rfl,q,rfl,hq,rfl⟩)⟩
 | Zbs=>exact(h.congr (τ:=drop1 _ σ) rfl rfl rfl).see _ _ _
 | Zbu ha hb hl hk hp hq hpn UI=>exact(h.congr (τ:=drop1 _ σ) rfl rfl rfl).note hS hpn UI
 | ZaM=>exact h.congr rfl rfl rfl
 | Zau=>exact h.congr rfl rfl rfl
 | @Zbt a b ha hb hl hk=>
   have hm:=ZcF hl;obtain⟨p,hp,hpn,_,c⟩:=h.lets a b ha hb _ hm;refine(h.congr (τ:=drop1 _ σ) rfl rfl rfl).wait ⟨?_,hk⟩;rcases c with⟨k,_⟩ | ⟨k,_⟩ | ⟨k,_⟩ | ⟨k,_⟩ | ⟨k,e,hm,q,hq,UI,_⟩
   ·omega
   ·omega
   ·omega
   ·omega
   ·exact⟨⟨p,hp,hpn⟩,⟨q,hq,UI⟩,hm⟩
 | @ring w i hw hpk=>
   have e:=Qi s w i σ;refine⟨by rw [e.2.2.2.2.2.1];exact h.lets,by rw [e.2.2.2.2.2.1];exact h.self,fun v hv y hy=>?_,by rw [e.2.2.2.2.2.2.1];exact h.ws⟩;rw [e.1] at hy;by_cases z:v=w
   ·subst z;rw [Zq] at hy;exact h.bea v hv y (ZcP hy)
   ·rw [Zz z] at hy;exact h.bea v hv y hy
def SnM (σ τ:TS):Prop:=∀ i,(σ.sn i).length <= (τ.sn i).length
theorem SnM.refl' (h:τ.sn=σ.sn):SnM σ τ:=fun i=>by rw [h];exact Nat.le_refl _
theorem SnM.trans (h:SnM σ τ) (h':SnM τ υ):SnM σ υ:=fun i=>Nat.le_trans (h i) (h' i)
theorem SnM.send (x:Zd):SnM σ (Proofs.YtcnahmgekicbdaaGreat.send s a b x σ):=fun i=>by
 by_cases e:i=li s a b
 ·subst e;rw [Zc5,List.length_append];omega
 ·rw [JI e];exact Nat.le_refl _
theorem SnM.YP (p q:Nat):SnM σ (Proofs.YtcnahmgekicbdaaGreat.YP s p q σ):=by
 unfold Proofs.YtcnahmgekicbdaaGreat.YP;split
 ·exact .refl' rfl
 ·exact .send _
theorem SnM.Zr (p:Nat) (l:List Int):SnM σ (Proofs.YtcnahmgekicbdaaGreat.Zr s p l σ):=QW _ (SnM σ) l σ (.refl' rfl) fun τ x _ h=>h.trans (.YP _ _)
theorem SnM.note (p q:Nat):SnM σ (Proofs.YtcnahmgekicbdaaGreat.note s p q σ):=by
 unfold Proofs.YtcnahmgekicbdaaGreat.note;split
 ·exact .YP _ _
 ·exact .refl' rfl
theorem SnM.ZM (p:Nat):SnM σ (Proofs.YtcnahmgekicbdaaGreat.ZM s p σ):= (SnM.Zr (σ:=Proofs.YtcnahmgekicbdaaGreat.Jd p σ) p (σ.wa p)).trans (.refl' rfl)
structure P2 (s:Zb) (σ:TS):Prop where
 ld:∀ i,σ.ld i <= (σ.sn i).length
 kn:Kn s σ
theorem P2.of (h:P2 s σ) (h1:τ.ld=σ.ld) (h2:SnM σ τ) (h3:τ.kn=σ.kn) (h4:∀ k,σ.st k=3 ->τ.st k=3):P2 s τ:=
 ⟨fun i=>by rw [h1];exact Nat.le_trans (h.ld i) (h2 i),fun q hq=>by rw [h3];exact h.kn.srt q hq,fun q hq x hx=>by
   rw [h3] at hx;obtain⟨k,a,b,c,d⟩:=h.kn.rng q hq x hx;exact⟨k,a,b,c,h4 k d⟩⟩
theorem P2.drop (h:P2 s σ) (hl:σ.ld i < (σ.sn i).length):P2 s (drop1 i σ):= ⟨fun j=>by
 show Z0 σ.ld i (σ.ld i + 1) j <= (σ.sn j).length;by_cases e:j=i
 ·subst e;rw [Zq];exact hl
 ·rw [Zz e];exact h.ld j,⟨h.kn.srt,h.kn.rng⟩⟩
theorem ZIR {f:Nat ->Int} {k j:Nat} (h:f j=3):Z0 f k 3 j=3:=by
 unfold Z0;by_cases e:j=k
 ·rw [if_pos e]
 ·rw [if_neg e];exact h
theorem P2.ZM (h:P2 s σ) (p:Nat):P2 s (Proofs.YtcnahmgekicbdaaGreat.ZM s p σ):=by
 have sA:=Qj (s:=s) p σ;exact h.of sA.2.2.1 (.ZM p) sA.2.1 fun k hk=>by rw [sA.1];exact ZIR hk
theorem P2.not_mem (h:P2 s σ) {q:Nat} (hq:q < nn s) (h2:σ.st p ≠ 3):(p:Int) ∉ σ.kn q:=fun hm=>by
 obtain⟨k,e1,_,_,e4⟩:=h.kn.rng q hq _ hm;have:k=p:=by omega
 subst this;exact h2 e4
theorem P2.act (hS:Xk s) (h:P2 s σ) (ac:Act s σ τ):P2 s τ:=by
 cases ac with
 | @fall p hp h1=>
   refine h.of rfl (.refl' rfl) rfl fun k hk=>?_
   show Z0 σ.st p 2 k=3;rw [Zz (fun z=>by subst z;rw [h1] at hk;cases hk)];exact hk
 | Ux=>exact h.of rfl (.send _) rfl fun _ z=>z
 | @die p hp h2 hA=>
   have hD:=h.ZM p;have sA:=Qj (s:=s) p σ;unfold JU;by_cases h0:inn s (p:Int) < 0
   ·rw [if_pos h0];exact hD
   ·rw [if_neg h0];obtain⟨eq,hq⟩:=X6 hS hp h0;by_cases e:pl s (inn s (p:Int)).toNat=pl s p
    ·rw [if_pos e];exact⟨hD.ld,Wl hS hD.kn hp h0 (by rw [sA.1,Zq]) (by rw [sA.2.1];exact h.not_mem hq (by rw [h2];decide)) _⟩
    ·rw [if_neg e];exact hD.of rfl (.send _) rfl fun _ z=>z
 | @Zbe p q=>have e:=XT q p σ.sd (kK p q σ);exact h.of e.2.2.2.1 (.refl' e.2.2.2.2.1) e.2.1 fun k z=>by rw [e.1];exact z
 | @Zbd p q=>exact h.of rfl (SnM.trans (.refl' (τ:=kK p q σ) rfl) (.send _)) rfl fun _ z=>z
 | @Za9 p q=>have e:=Xf (s:=s) p q (tell 3 p q 0 σ);exact h.of e.2.2.2.1 (SnM.trans (.refl' (τ:=tell 3 p q 0 σ) rfl) (.note _ _)) e.2.1 fun k z=>by rw [e.1];exact z
 | @Za8 p q=>exact h.of rfl (SnM.trans (.refl' (τ:=tell 3 p q 0 σ) rfl) (.send _)) rfl fun _ z=>z
 | @Zbs a b p q ha hb hl=>have e:=XT q p (hd σ (li s a b)).n (drop1 (li s a b) σ);exact(h.drop hl).of e.2.2.2.1 (.refl' e.2.2.2.2.1) e.2.1 fun k z=>by rw [e.1];exact z
 | @Zbu a b p q ha hb hl=>have e:=Xf (s:=s) p q (drop1 (li s a b) σ);exact(h.drop hl).of e.2.2.2.1 (.note _ _) e.2.1 fun k z=>by rw [e.1];exact z
 | ZaM ha hb hl=>exact h.drop hl
 | Zau ha hb hl hk hp hpn h0 hm h3 hn=>exact⟨(h.drop hl).ld,Wl hS (h.drop hl).kn hpn (by omega) h3 hn _⟩
 | Zbt ha hb hl=>exact(h.drop hl).of rfl (.refl' rfl) rfl fun _ z=>z
 | @ring w i=>have e:=Qi s w i σ;exact h.of e.2.1 (.refl' e.2.2.2.2.2.1) e.2.2.2.1 fun k z=>by rw [e.2.2.1];exact z
structure KI (s:Zb) (σ:TS):Prop where
 k1:∀ (i j:Nat) (x:Zd),(σ.sn i)[j]? =some x ->x.kW=4 ->∃ k:Nat,x.kV= (k:Int)∧k < nn s∧σ.st k=3∧((k:Int) ∈ σ.kn (inn s (k:Int)).toNat↔j < σ.ld i)
 k2:∀ (i i' j j':Nat) (x x':Zd),(σ.sn i)[j]? =some x ->(σ.sn i')[j']? =some x' ->x.kW=4 ->x'.kW=4 ->x.kV=x'.kV ->i=i'∧j=j'
 k3:∀ p,p < nn s ->σ.st p=3 ->0 <=inn s (p:Int) ->(p:Int) ∈ σ.kn (inn s (p:Int)).toNat∨∃ (i j:Nat) (x:Zd),(σ.sn i)[j]? =some x∧x.kW=4∧x.kV= (p:Int)
 k4:∀ p,p < nn s ->σ.st p=3 ->Alo s σ p
def S4 (σ τ:TS):Prop:=∀ (i j:Nat) (x:Zd),x.kW=4 ->((τ.sn i)[j]? =some x↔(σ.sn i)[j]? =some x)
theorem S4.refl' (h:τ.sn=σ.sn):S4 σ τ:=fun i j x _=>by rw [h]
theorem S4.trans (h:S4 σ τ) (h':S4 τ υ):S4 σ υ:=fun i j x hx=>(h' i j x hx).trans (h i j x hx)
theorem Xl {x y:Zd} {j:Nat}:((send s a b x σ).sn i)[j]? =some y↔(σ.sn i)[j]? =some y∨(i=li s a b∧j= (σ.sn i).length∧y=x):=by
 by_cases e:i=li s a b
 ·subst e;rw [Zc5];rcases Nat.lt_trichotomy j (σ.sn (li s a b)).length with h | h | h
  ·rw [List.getElem?_append_left h];exact⟨.inl,fun z=>z.elim id fun w=>absurd w.2.1 (by omega)⟩
  ·subst h;rw [List.getElem?_append_right (Nat.le_refl _),Nat.sub_self]
   constructor
   ·intro z;simp at z;exact .inr ⟨rfl,rfl,z.symm⟩
   ·rintro(z | ⟨_,_,z⟩)
    ·rw [List.getElem?_eq_none (Nat.le_refl _)] at z;cases z
    ·simp [z]
  ·constructor
   ·intro z;have:= (Li0 z).1;rw [List.length_append,List.length_singleton] at this;omega
   ·rintro(z | ⟨_,z,_⟩)
    ·have:= (Li0 z).1;omega
    ·omega
 ·rw [JI e];exact⟨.inl,fun z=>z.elim id fun w=>absurd w.1 e⟩
theorem S4.send (hx:x.kW ≠ 4):S4 σ (Proofs.YtcnahmgekicbdaaGreat.send s a b x σ):=fun i j y hy=>by
 rw [Xl];exact⟨fun z=>z.elim id fun w=>absurd (w.2.2 ▸ hy) hx,.inl⟩
theorem S4.YP (p q:Nat):S4 σ (Proofs.YtcnahmgekicbdaaGreat.YP s p q σ):=by
 unfold Proofs.YtcnahmgekicbdaaGreat.YP;split
 ·exact .refl' rfl
 ·exact .send (by show(5:Int) ≠ 4;decide)
theorem S4.Zr (p:Nat) (l:List Int):S4 σ (Proofs.YtcnahmgekicbdaaGreat.Zr s p l σ):=QW _ (S4 σ) l σ (.refl' rfl) fun τ x _ h=>h.trans (.YP _ _)
theorem S4.note (p q:Nat):S4 σ (Proofs.YtcnahmgekicbdaaGreat.note s p q σ):=by
 unfold Proofs.YtcnahmgekicbdaaGreat.note;split
 ·exact .YP _ _
 ·exact .refl' rfl
theorem S4.ZM (p:Nat):S4 σ (Proofs.YtcnahmgekicbdaaGreat.ZM s p σ):= (S4.Zr (σ:=Proofs.YtcnahmgekicbdaaGreat.Jd p σ) p (σ.wa p)).trans (.refl' rfl)
theorem KI.same (h:KI s σ) (h1:∀ p,τ.st p=3↔σ.st p=3) (h2:τ.kn=σ.kn) (h3:τ.ld=σ.ld) (h4:S4 σ τ):KI s τ:=by
 refine⟨fun i j x hx hk=>?_,fun i i' j j' x x' hx hx' hk hk' e=>h.k2 i i' j j' x x' ((h4 i j x hk).1 hx) ((h4 i' j' x' hk').1 hx') hk hk' e,fun p hp h3' h0=>?_,fun p hp h3'=>?_⟩
 ·obtain⟨k,e1,e2,e3,e4⟩:=h.k1 i j x ((h4 i j x hk).1 hx) hk;exact⟨k,e1,e2,(h1 k).2 e3,by rw [h2,h3];exact e4⟩
 ·rw [h2];exact(h.k3 p hp ((h1 p).1 h3') h0).imp id fun⟨i,j,x,a,b,c⟩=>⟨i,j,x,(h4 i j x b).2 a,b,c⟩
 ·intro k hk e;rw [h2];exact h.k4 p hp ((h1 p).1 h3') k hk e
theorem KI.drop (h:KI s σ) (hl:σ.ld i < (σ.sn i).length) (hk:(hd σ i).kW ≠ 4):KI s (drop1 i σ):=by
 refine⟨fun i' j x hx hk'=>?_,h.k2,h.k3,h.k4⟩;obtain⟨k,e1,e2,e3,e4⟩:=h.k1 i' j x hx hk';refine⟨k,e1,e2,e3,e4.trans ?_⟩;show j < σ.ld i'↔j < Z0 σ.ld i (σ.ld i + 1) i';by_cases e:i'=i
 ·subst e;rw [Zq]
  have:j ≠ σ.ld i':=fun z=>hk (by
   subst z;have hx:(σ.sn i')[σ.ld i']? =some x:=hx;unfold hd;rw [List.getD_eq_getElem?_getD,hx];exact hk')
  omega
 ·rw [Zz e]
theorem ZPf {f:Nat ->Int} {k j:Nat} {v:Int} (hv:v ≠ 3) (h:f k ≠ 3):Z0 f k v j=3↔f j=3:=by
 unfold Z0;by_cases e:j=k
 ·subst e;rw [if_pos rfl];exact⟨fun z=>absurd z hv,fun z=>absurd z h⟩
 ·rw [if_neg e]
theorem KI.die (hS:Xk s) (hP:P2 s σ) (h:KI s σ) (hp:p < nn s) (h2:σ.st p=2) (hA:Alo s σ p):KI s (JU s p σ):=by
 have sA:=Qj (s:=s) p σ;have h4:=S4.ZM (s:=s) (σ:=σ) p
 have no4:∀ (i j:Nat) (x:Zd),(σ.sn i)[j]? =some x ->x.kW=4 ->x.kV ≠ (p:Int):=fun i j x hx hk e=>by
  obtain⟨k,e1,_,e3,_⟩:=h.k1 i j x hx hk;have:k=p:=by omega
  subst this;rw [h2] at e3;cases e3
 have st3:∀ k,σ.st k=3 ->Z0 σ.st p 3 k=3:=fun k hk=>by
  unfold Z0;by_cases e:k=p
  ·rw [if_pos e]
  ·rw [if_neg e];exact hk
 have ZtS:∀ k,Z0 σ.st p 3 k=3 ->k=p∨σ.st k=3:=fun k hk=>by
  by_cases e:k=p
  ·exact .inl e
  ·rw [Zz e] at hk;exact .inr hk
 unfold JU;by_cases h0:inn s (p:Int) < 0
 ·rw [if_pos h0];refine⟨fun i j x hx hk=>?_,fun i i' j j' x x' hx hx' hk hk' e=>h.k2 i i' j j' x x' ((h4 i j x hk).1 hx) ((h4 i' j' x' hk').1 hx') hk hk' e,fun k hk h3' h0'=>?_,fun k hk h3'=>?_⟩
  ·obtain⟨k,e1,e2,e3,e4⟩:=h.k1 i j x ((h4 i j x hk).1 hx) hk;exact⟨k,e1,e2,by rw [sA.1];exact st3 k e3,by rw [sA.2.1,sA.2.2.1];exact e4⟩
  ·rw [sA.1] at h3';rcases ZtS k h3' with e | e
   ·subst e;omega
   ·rw [sA.2.1];exact(h.k3 k hk e h0').imp id fun⟨i,j,x,a,b,c⟩=>⟨i,j,x,(h4 i j x b).2 a,b,c⟩
  ·rw [sA.1] at h3';intro j hj e;rw [sA.2.1];rcases ZtS k h3' with z | z
   ·subst z;exact hA j hj e
   ·exact h.k4 k hk z j hj e
 ·rw [if_neg h0];obtain⟨eq,hq⟩:=X6 hS hp h0;by_cases e:pl s (inn s (p:Int)).toNat=pl s p
  ·rw [if_pos e]
   have kne:∀ (k q':Nat),k ≠ p ->(((k:Int)) ∈ Z0 (ZM s p σ).kn (inn s (p:Int)).toNat (ins (p:Int) ((ZM s p σ).kn (inn s (p:Int)).toNat)) q'↔(k:Int) ∈ σ.kn q'):=fun k q' hne=>by
    rw [sA.2.1];by_cases z:q'= (inn s (p:Int)).toNat
    ·subst z;rw [Zq,Ws];exact⟨fun w=>w.elim (fun w=>absurd (by omega) hne) id,.inr⟩
    ·rw [Zz z]
   refine⟨fun i j x hx hk=>?_,fun i i' j j' x x' hx hx' hk hk' e=>h.k2 i i' j j' x x' ((h4 i j x hk).1 hx) ((h4 i' j' x' hk').1 hx') hk hk' e,fun k hk h3' h0'=>?_,fun k hk h3'=>?_⟩
   ·have hx':= (h4 i j x hk).1 hx;obtain⟨k,e1,e2,e3,e4⟩:=h.k1 i j x hx' hk;have hne:k ≠ p:=fun z=>no4 i j x hx' hk (by rw [e1,z])
    refine⟨k,e1,e2,by show(ZM s p σ).st k=3;rw [sA.1];exact st3 k e3,?_⟩;refine(kne k _ hne).trans ?_;show _↔j < (ZM s p σ).ld i;rw [sA.2.2.1];exact e4
   ·have h3':(ZM s p σ).st k=3:=h3';rw [sA.1] at h3';rcases ZtS k h3' with z | z
    ·subst z;left;show _ ∈ Z0 _ _ _ _;rw [Zq];exact Ws.2 (.inl rfl)
    ·have hne:k ≠ p:=fun w=>by subst w;rw [h2] at z;cases z
     refine(h.k3 k hk z h0').imp (fun w=>(kne k _ hne).2 w) fun⟨i,j,x,a,b,c⟩=>⟨i,j,x,(h4 i j x b).2 a,b,c⟩
   ·have h3':(ZM s p σ).st k=3:=h3';rw [sA.1] at h3';intro j hj ej
    have hold:(j:Int) ∈ σ.kn k:=by
     rcases ZtS k h3' with z | z
     ·subst z;exact hA j hj ej
     ·exact h.k4 k hk z j hj ej
    show _ ∈ Z0 _ _ _ _;rw [sA.2.1];by_cases z:k= (inn s (p:Int)).toNat
    ·subst z;rw [Zq];exact Ws.2 (.inr hold)
    ·rw [Zz z];exact hold
  ·rw [if_neg e];obtain⟨y,hy⟩:∃ y:Zd,y= ⟨4,(p:Int),0,0,UH s (ZM s p σ) p⟩:= ⟨_,rfl⟩
   rw [← hy];have yk:y.kW=4:=by rw [hy]
   have yp:y.kV= (p:Int):=by rw [hy]
   refine⟨fun i j x hx hk=>?_,fun i i' j j' x x' hx hx' hk hk' e=>?_,fun k hk h3' h0'=>?_,fun k hk h3'=>?_⟩
   ·rcases Xl.1 hx with hx | ⟨e1,e2,e3⟩
    ·obtain⟨k,e1,e2,e3,e4⟩:=h.k1 i j x ((h4 i j x hk).1 hx) hk
     exact⟨k,e1,e2,by show(ZM s p σ).st k=3;rw [sA.1];exact st3 k e3,by
      show _ ∈ (ZM s p σ).kn _↔_ < (ZM s p σ).ld i;rw [sA.2.1,sA.2.2.1];exact e4⟩
    ·refine⟨p,by rw [e3];exact yp,hp,by show(ZM s p σ).st p=3;rw [sA.1,Zq],?_⟩;show _ ∈ (ZM s p σ).kn _↔_ < (ZM s p σ).ld i;rw [sA.2.1,e2,e1];have:= (hP.ZM p).ld (li s (pl s p) (pl s (inn s (p:Int)).toNat));exact⟨fun w=>absurd w (hP.not_mem hq (by rw [h2];decide)),fun w=>by omega⟩
   ·rcases Xl.1 hx with hx | ⟨a1,a2,a3⟩ <;> rcases Xl.1 hx' with hx' | ⟨b1,b2,b3⟩
    ·exact h.k2 i i' j j' x x' ((h4 i j x hk).1 hx) ((h4 i' j' x' hk').1 hx') hk hk' e
    ·exact absurd (by rw [e,b3,yp]) (no4 i j x ((h4 i j x hk).1 hx) hk)
    ·exact absurd (by rw [← e,a3,yp]) (no4 i' j' x' ((h4 i' j' x' hk').1 hx') hk')
    ·have:i=i':=by rw [a1,b1]
     subst this;exact⟨rfl,by rw [a2,b2]⟩
   ·have h3':(ZM s p σ).st k=3:=h3';rw [sA.1] at h3';rcases ZtS k h3' with z | z
    ·subst z;exact .inr ⟨_,_,y,Xl.2 (.inr ⟨rfl,rfl,rfl⟩),yk,yp⟩
    ·refine(h.k3 k hk z h0').imp (fun w=>by show _ ∈ (ZM s p σ).kn _;rw [sA.2.1];exact w) fun⟨i,j,x,a,b,c⟩=>⟨i,j,x,Xl.2 (.inl ((h4 i j x b).2 a)),b,c⟩
   ·have h3':(ZM s p σ).st k=3:=h3';rw [sA.1] at h3';intro j hj ej;show _ ∈ (ZM s p σ).kn k;rw [sA.2.1];rcases ZtS k h3' with z | z
    ·subst z;exact hA j hj ej
    ·exact h.k4 k hk z j hj ej
theorem KI.Zau (hS:Xk s) (h:KI s σ) (hl:σ.ld i < (σ.sn i).length) (hk:(hd σ i).kW=4) (hp:(hd σ i).kV= (p:Int)) (hpn:p < nn s) (l:List Int):KI s (Yb s p l (drop1 i σ)):=by
 have hh:(σ.sn i)[σ.ld i]? =some (hd σ i):=by
  unfold hd;rw [List.getD_eq_getElem?_getD,List.getElem?_eq_getElem hl];rfl
 have kne:∀ (k q':Nat),k ≠ p ->(((k:Int)) ∈ Z0 σ.kn (inn s (p:Int)).toNat (ins (p:Int) (σ.kn (inn s (p:Int)).toNat)) q'↔(k:Int) ∈ σ.kn q'):=fun k q' hne=>by
  by_cases z:q'= (inn s (p:Int)).toNat
  ·subst z;rw [Zq,Ws];exact⟨fun w=>w.elim (fun w=>absurd (by omega) hne) id,.inr⟩
  ·rw [Zz z]
 have kup:∀ (k q':Nat),(k:Int) ∈ σ.kn q' ->((k:Int)) ∈ Z0 σ.kn (inn s (p:Int)).toNat (ins (p:Int) (σ.kn (inn s (p:Int)).toNat)) q':=fun k q' hm=>by
  by_cases e:k=p
  ·by_cases z:q'= (inn s (p:Int)).toNat
   ·subst z;rw [Zq];exact Ws.2 (.inr hm)
   ·rw [Zz z];exact hm
  ·exact(kne k q' e).2 hm
 refine⟨fun i' j x hx hk'=>?_,h.k2,fun k hk' h3 h0=>(h.k3 k hk' h3 h0).imp (fun w=>kup k _ w) id,fun k hk' h3 j hj e=>kup j k (h.k4 k hk' h3 j hj e)⟩;obtain⟨k,e1,e2,e3,e4⟩:=h.k1 i' j x hx hk';refine⟨k,e1,e2,e3,?_⟩;show(k:Int) ∈ Z0 σ.kn (inn s (p:Int)).toNat (ins (p:Int) (σ.kn (inn s (p:Int)).toNat)) (inn s (k:Int)).toNat↔j < Z0 σ.ld i (σ.ld i + 1) i';by_cases z:k=p
 ·subst z;obtain⟨a,c⟩:=h.k2 i' i j _ x _ hx hh hk' hk (by rw [e1,hp]);subst a c;rw [Zq,Zq];exact⟨fun _=>by omega,fun _=>Ws.2 (.inl rfl)⟩
 ·rw [kne k _ z];by_cases e:i'=i
  ·subst e;rw [Zq]
   have:j ≠ σ.ld i':=fun w=>by
    subst w;have hx:(σ.sn i')[σ.ld i']? =some x:=hx;rw [hh] at hx;cases hx;rw [hp] at e1;omega
   exact e4.trans (by omega)
  ·rw [Zz e];exact e4
theorem KI.act (hS:Xk s) (hP:P2 s σ) (h:KI s σ) (ac:Act s σ τ):KI s τ:=by
 cases ac with
 | @fall p hp h1=>exact h.same (fun k=>ZPf (by decide) (by rw [h1];decide)) rfl rfl (.refl' rfl)
 | Ux=>exact h.same (fun _=>Iff.rfl) rfl rfl (.send (by show(3:Int) ≠ 4;decide))
 | die hp h2 hA=>exact h.die hS hP hp h2 hA
 | @Zbe p q=>have e:=XT q p σ.sd (kK p q σ);exact h.same (fun k=>by rw [e.1];exact Iff.rfl) e.2.1 e.2.2.2.1 (.refl' e.2.2.2.2.1)
 | @Zbd p q=>exact h.same (fun _=>Iff.rfl) rfl rfl (S4.trans (.refl' (τ:=kK p q σ) rfl) (.send (by show(1:Int) ≠ 4;decide)))
 | @Za9 p q=>have e:=Xf (s:=s) p q (tell 3 p q 0 σ);exact h.same (fun k=>by rw [e.1];exact Iff.rfl) e.2.1 e.2.2.2.1 (S4.trans (.refl' (τ:=tell 3 p q 0 σ) rfl) (.note _ _))
 | @Za8 p q=>exact h.same (fun _=>Iff.rfl) rfl rfl (S4.trans (.refl' (τ:=tell 3 p q 0 σ) rfl) (.send (by show(2:Int) ≠ 4;decide)))
 | @Zbs a b p q ha hb hl hk=>have e:=XT q p (hd σ (li s a b)).n (drop1 (li s a b) σ);exact(h.drop hl (by rw [hk];decide)).same (fun k=>by rw [e.1]) e.2.1 e.2.2.2.1 (.refl' e.2.2.2.2.1)
 | @Zbu a b p q ha hb hl hk=>have e:=Xf (s:=s) p q (drop1 (li s a b) σ);exact(h.drop hl (by rw [hk];decide)).same (fun k=>by rw [e.1]) e.2.1 e.2.2.2.1 (.note _ _)
 | ZaM ha hb hl hk=>exact h.drop hl (by rw [hk];decide)
 | Zau ha hb hl hk hp hpn=>exact h.Zau hS hl hk hp hpn _
 | Zbt ha hb hl hk=>exact(h.drop hl (by rw [hk];decide)).same (fun _=>Iff.rfl) rfl rfl (.refl' rfl)
 | @ring w i=>have e:=Qi s w i σ;exact h.same (fun k=>by rw [e.2.2.1]) e.2.2.2.1 e.2.1 (.refl' e.2.2.2.2.2.1)
end
end
section
def SD (σ:TS):Prop:=0 <=σ.sd∧σ.sd <= (σ.ev.length:Int)
structure Ok (s:Zb) (B:Nat) (σ:TS):Prop where
 gd:Gd s B σ
 p1:P1 s σ
 p2:P2 s σ
 ki:KI s σ
 sd:SD σ
section
variable {s:Zb} {σ τ υ:TS} {F B a b p q w i n d:Nat} {x:ZE}
theorem SD.of (h:SD σ) (h1:τ.sd=σ.sd) (h2:σ.ev.length <=τ.ev.length):SD τ:= ⟨by rw [h1];exact h.1,by rw [h1];have:=h.2;omega⟩
theorem Zwr (p q:Nat) (n:Int) (σ:TS):σ.ev.length <= (see p q n σ).ev.length:=by
 unfold see;split
 ·show _ <= (σ.ev ++ [_]).length;rw [List.length_append];omega
 ·exact Nat.le_refl _
theorem SD.act (h:SD σ) (ac:Act s σ τ):SD τ:=by
 cases ac with
 | fall=>exact h.of rfl (by show _ <= (σ.ev ++ [_]).length;rw [List.length_append];omega)
 | Ux=>exact h
 | @die p hp h2 hA=>
   have sA:=Qj (s:=s) p σ;have:SD (ZM s p σ):=h.of sA.2.2.2.1 (by rw [sA.2.2.2.2.1,List.length_append];omega);unfold JU;split
   ·exact this
   ·split
    ·exact this
    ·exact this
 | @Zbe p q hp hq=>
   have e:=XT q p σ.sd (kK p q σ);have e2:=Zwr q p σ.sd (kK p q σ);have e3:(kK p q σ).ev.length=σ.ev.length + 1:=by show(σ.ev ++ [_]).length=_;simp
   refine⟨?_,?_⟩
   ·rw [e.2.2.2.2.2.2.2];show 0 <=σ.sd + 1;have:=h.1;omega
   ·rw [e.2.2.2.2.2.2.2];show σ.sd + 1 <=_;have:=h.2;omega
 | @Zbd p q=>
   have e3:(kK p q σ).ev.length=σ.ev.length + 1:=by show(σ.ev ++ [_]).length=_;simp
   exact⟨by show 0 <=σ.sd + 1;have:=h.1;omega,by show σ.sd + 1 <= ((kK p q σ).ev.length:Int);have:=h.2;omega⟩
 | @Za9 p q=>
   have e:=Xf (s:=s) p q (tell 3 p q 0 σ);exact h.of e.2.2.2.2.1 (by rw [e.2.2.2.2.2];show _ <= (σ.ev ++ [_]).length;rw [List.length_append];omega)
 | Za8=>exact h.of rfl (by show _ <= (σ.ev ++ [_]).length;rw [List.length_append];omega)
 | @Zbs a b p q=>exact h.of (XT q p (hd σ (li s a b)).n (drop1 (li s a b) σ)).2.2.2.2.2.2.2 (Zwr q p (hd σ (li s a b)).n (drop1 (li s a b) σ))
 | @Zbu a b p q=>have e:=Xf (s:=s) p q (drop1 (li s a b) σ);exact h.of e.2.2.2.2.1 (by rw [e.2.2.2.2.2];exact Nat.le_refl _)
 | ZaM=>exact h
 | Zau=>exact h
 | Zbt=>exact h
 | @ring w i=>
   refine h.of (Qi s w i σ).2.2.2.2.2.2.2 ?_;unfold rung;split
   ·show _ <= (σ.ev ++ [_]).length;rw [List.length_append];omega
   ·exact Nat.le_refl _
theorem Ok.acts (hS:Xk s) (h:Ok s B σ) (ha:Qq s σ τ) {B':Nat} (g:Gd s B' τ):Ok s B' τ:=by
 have:=ha.keep (P:=fun σ=>P1 s σ∧P2 s σ∧KI s σ∧SD σ) (fun _ _ ⟨a,b,c,d⟩ ac=>⟨a.act hS ac,b.act hS ac,c.act hS b ac,d.act ac⟩) ⟨h.p1,h.p2,h.ki,h.sd⟩;exact⟨g,this.1,this.2.1,this.2.2.1,this.2.2.2⟩
theorem Ok.head (h:Ok s B σ) (ha:a < mm s) (hb:b < mm s) (hl:σ.ld (li s a b) < (σ.sn (li s a b)).length):ZAp s a b (hd σ (li s a b))∧Zr3 s (hd σ (li s a b)) σ:=by
 have hx:=h.p1.lets a b ha hb _ (ZcF hl);refine⟨hx,fun hk=>?_⟩
 have hh:(σ.sn (li s a b))[σ.ld (li s a b)]? =some (hd σ (li s a b)):=by
  unfold hd;rw [List.getD_eq_getElem?_getD,List.getElem?_eq_getElem hl];rfl
 obtain⟨k,e1,e2,e3,e4⟩:=h.ki.k1 _ _ _ hh hk;rw [e1,Int.toNat_natCast];exact⟨e3,fun m=>absurd (e4.1 m) (Nat.lt_irrefl _)⟩
theorem ZlD (h:Gd s B σ) (p q:Nat):Gd s (B + 1) (kK p q σ):=
 ⟨(Wf.tell (σ:= {σ with sd:=σ.sd + 1}) ⟨h.wf.pot,h.wf.ld,h.wf.ws⟩ 1 p q σ.sd),⟨h.kn.srt,h.kn.rng⟩⟩
theorem Zlx (h:Gd s B σ) (d p q n:Int):Gd s (B + 1) (tell d p q n σ):= ⟨h.wf.tell d p q n,⟨h.kn.srt,h.kn.rng⟩⟩
theorem Zsd (h:Gd s B σ) (ha:a < mm s) (hb:b < mm s) (x:Zd):Gd s (B + 1 + ew x) (send s a b x σ):= ⟨h.wf.send ha hb x,⟨h.kn.srt,h.kn.rng⟩⟩
theorem ZhF (hS:Xk s) (h:Ok s B σ) (hx:Zc2 s x σ):Gd s (B + 4) (WZ s x σ)∧Qq s σ (WZ s x σ):=by
 unfold WZ;rcases hx with⟨k,p,q,ep,eq,hp,hq,h1⟩ | ⟨k,p,q,ep,eq,hp,hq,h1⟩ | ⟨k,p,ep,hp,h1⟩ | ⟨k,a,b,ea,eb,ha,hb,hl⟩
 ·rw [if_pos k,ep,eq,Int.toNat_natCast,Int.toNat_natCast];by_cases e:pl s p=pl s q
  ·rw [if_pos e];exact⟨(Zwq (ZlD h.gd p q) q p σ.sd).up (by omega),.one (.Zbe hp hq h1 e)⟩
  ·rw [if_neg e];exact⟨(Zsd (ZlD h.gd p q) (hS.pl hp).2 (hS.pl hq).2 _).up (by show B + 1 + 1 + 1 <=B + 4;omega),.one (.Zbd hp hq h1 e)⟩
 ·rw [if_neg (by omega),if_pos k,ep,eq,Int.toNat_natCast,Int.toNat_natCast];by_cases e:pl s p=pl s q
  ·rw [if_pos e];exact⟨(ZsB hS (Zlx h.gd 3 p q 0) hp hq).up (by omega),.one (.Za9 hp hq h1 e)⟩
  ·rw [if_neg e];exact⟨(Zsd (Zlx h.gd 3 p q 0) (hS.pl hp).2 (hS.pl hq).2 _).up (by show B + 1 + 1 + 2 <=B + 4;omega),.one (.Za8 hp hq h1 e)⟩
 ·rw [if_neg (by omega),if_neg (by omega),if_pos k,ep,Int.toNat_natCast];exact⟨(Zmq hS _ _ _ _ hp (Kv.all hS.inn) h.gd h1).up (by omega),Zgc hS _ _ _ hp (Kv.all hS.inn) h1⟩
 ·rw [if_neg (by omega),if_neg (by omega),if_neg (by omega),ea,eb,Int.toNat_natCast,Int.toNat_natCast];obtain⟨hf,hD⟩:=h.head ha hb hl;exact⟨(Zol hS h.gd ha hb hl hf.s hD).up (by omega),ZkU hS ha hb hl hf.s hD⟩
theorem ZuL (hS:Xk s) (h:Ok s B σ) (k:x.act=4) (hx:Zc2 s x σ):Gd s B (WZ s x σ):=by
 unfold WZ;rcases hx with⟨k',_⟩ | ⟨k',_⟩ | ⟨k',_⟩ | ⟨_,a,b,ea,eb,ha,hb,hl⟩
 ·omega
 ·omega
 ·omega
 ·rw [if_neg (by omega),if_neg (by omega),if_neg (by omega),ea,eb,Int.toNat_natCast,Int.toNat_natCast];obtain⟨hf,hD⟩:=h.head ha hb hl;exact Zol hS h.gd ha hb hl hf.s hD
theorem P1.ZJR (h:P1 s σ):BeA s σ:=fun w hw x hx=>(h.bea w hw x hx).1
theorem step_ok (hS:Xk s) (h:Ok s B σ) (hx:Zc2 s x σ):Ok s (B + 4) (stepW s x σ):=by
 obtain⟨g,ac⟩:=ZhF hS h hx;have o1:=h.acts hS ac g;exact o1.acts hS (Zbh (mm s) (Nat.le_refl _)) (Zh8 g o1.p1.ZJR (mm s) (Nat.le_refl _)).1
theorem Zwd (hS:Xk s) (h:Ok s B σ) (k:x.act=4) (hx:Zc2 s x σ):Ok s B (stepW s x σ):=by
 have g:=ZuL hS h k hx;have o1:=h.acts hS (ZhF hS h hx).2 g;exact o1.acts hS (Zbh (mm s) (Nat.le_refl _)) (Zh8 g o1.p1.ZJR (mm s) (Nat.le_refl _)).1
theorem ZfN (hS:Xk s) (h:Ok s B σ) (hx:Zc2 s x σ):Qq s σ (stepW s x σ):= (ZhF hS h hx).2.trans (Zbh (mm s) (Nat.le_refl _))
theorem Zp9 (hF:1000000 <=F) (hS:Xk s) (hB:B <=600000) (h:Gd s B σ) (hb:BeA s σ):Zbx F (WG s σ)=some (hal s (rings s (mm s) σ)):=by
 have h4:=hS.mm.2.2;unfold Zbx;rw [show WG s σ= (tab (nn s) σ.st,(tab (nn s) fun j=>tab (mm s * mm s) (σ.ma j)),tab (nn s) σ.kn,tab (nn s) σ.wa,tab (mm s) σ.be,tab (mm s * mm s) (lnk σ),σ.sd,s.qG,s.Zf,σ.ev) from rfl];dsimp only;refine XO (fun k=>((k:Int),WG s (rings s k σ))) rfl (n:=mm s) (by omega) (fun k hk next=>?_) (fun next=>?_)
 ·obtain⟨g1,g2⟩:=Zh8 h hb k (by omega);have hl7:((rings s k σ).be k).length <=600000:=by have:=g1.wf.pot;have:=UO (f:=fun m=>((rings s k σ).be m).length) hk;unfold Pot at *;omega
  unfold ZmE;rw [show WG s (rings s k σ)= (tab (nn s) (rings s k σ).st,(tab (nn s) fun j=>tab (mm s * mm s) ((rings s k σ).ma j)),tab (nn s) (rings s k σ).kn,tab (nn s) (rings s k σ).wa,tab (mm s) (rings s k σ).be,tab (mm s * mm s) (lnk (rings s k σ)),(rings s k σ).sd,s.qG,s.Zf,(rings s k σ).ev) from rfl];dsimp only;rw [Zf0 hS hk,Cq1,Zl6];unfold ZCB;rw [show loop F (Zei F (k:Int)) ((hal s (rings s k σ)).Za.qV,(hal s (rings s k σ)).Za.qX,(hal s (rings s k σ)).Za.qZ,(hal s (rings s k σ)).Za.Zl,(hal s (rings s k σ)).Za.Zr,(hal s (rings s k σ)).Za.kQ,(hal s (rings s k σ)).Za.kK,(hal s (rings s k σ)).qK.qG,(hal s (rings s k σ)).qK.Zf,(hal s (rings s k σ)).kU)=some (hal s (rings s (k + 1) σ)) from ZtW hF hS hB hk _ F (rings s k σ) (by omega) (Nat.le_refl _) g1 g2];simp only [Bq0];rw [QI (by omega)];rfl
 ·unfold ZmE WG;dsimp only;rw [ZlU hS,Cq0];rfl
theorem Zkw (hF:1000000 <=F) (hS:Xk s) (hB:B <=500000) (h:Ok s B σ) (hx:Zc2 s x σ):ZuD F (hal s σ) x=some (hal s (stepW s x σ)):=by
 obtain⟨g,ac⟩:=ZhF hS h hx;have o1:=h.acts hS ac g;have fin:=Zp9 (F:=F) hF hS (by omega) g o1.p1.ZJR;unfold stepW;have fw:=h.gd.wf.few (by omega);have hsd:=h.sd;have hev:=fw.ev;unfold ZuD;simp only [Xi];unfold WZ at fin ⊢;rcases hx with⟨k,p,q,ep,eq,hp,hq,h1⟩ | ⟨k,p,q,ep,eq,hp,hq,h1⟩ | ⟨k,p,ep,hp,h1⟩ | ⟨k,a,b,ea,eb,ha,hb,hl⟩
 ·rw [if_pos k,ep,eq,Int.toNat_natCast,Int.toNat_natCast] at fin ⊢;have es:YA (σ.sd + 1)=σ.sd + 1:=WN (by have:=hsd.1;omega) (by have:=hsd.2;omega);rw [decide_eq_true k,Cq1,show(hal s σ).Za.kK=σ.sd from rfl,Ky fw];simp only [Bq0]
  have e5:ZC.mk (Zh.mk (hal s (tell 1 p q σ.sd σ)).Za.qV (hal s (tell 1 p q σ.sd σ)).Za.qX (hal s (tell 1 p q σ.sd σ)).Za.qZ (hal s (tell 1 p q σ.sd σ)).Za.Zl (hal s (tell 1 p q σ.sd σ)).Za.Zr (hal s (tell 1 p q σ.sd σ)).Za.kQ (YA ((hal s (tell 1 p q σ.sd σ)).Za.kK + 1))) (hal s (tell 1 p q σ.sd σ)).qK (hal s (tell 1 p q σ.sd σ)).kU=hal s (kK p q σ):=by
   rw [show(hal s (tell 1 p q σ.sd σ)).Za.kK=σ.sd from rfl,es];rfl
  have gs:=ZlD h.gd p q;rw [e5,U0 hS hp,U0 hS hq];simp only [Bq0];rw [show decide (((pl s p:Nat):Int)= ((pl s q:Nat):Int))=decide (pl s p=pl s q) by rw [← Xi];exact Zfg _ _];by_cases e:pl s p=pl s q
  ·rw [if_pos e] at fin ⊢;rw [decide_eq_true e,Cq1,ZnR (gs.wf.few (by omega)) rfl hq];exact fin
  ·rw [if_neg e] at fin ⊢;rw [decide_eq_false e,Cq0,ZaE hS (gs.wf.few (by omega)) (hS.pl hp).2 (hS.pl hq).2];exact fin
 ·rw [if_neg (by omega),if_pos k,ep,eq,Int.toNat_natCast,Int.toNat_natCast] at fin ⊢;rw [decide_eq_false (by omega),Cq0,decide_eq_true k,Cq1,Ky fw];simp only [Bq0];have gs:=Zlx h.gd 3 p q 0;rw [U0 hS hp,U0 hS hq];simp only [Bq0];rw [show decide (((pl s p:Nat):Int)= ((pl s q:Nat):Int))=decide (pl s p=pl s q) by rw [← Xi];exact Zfg _ _];by_cases e:pl s p=pl s q
  ·rw [if_pos e] at fin ⊢;rw [decide_eq_true e,Cq1,ZkM hS (gs.wf.few (by omega)) rfl rfl hp hq];exact fin
  ·rw [if_neg e] at fin ⊢;rw [decide_eq_false e,Cq0,ZaE hS (gs.wf.few (by omega)) (hS.pl hp).2 (hS.pl hq).2];exact fin
 ·rw [if_neg (by omega),if_neg (by omega),if_pos k,ep,Int.toNat_natCast] at fin ⊢;rw [decide_eq_false (by omega),Cq0,decide_eq_false (by omega),Cq0,decide_eq_true k,Cq1];unfold Zze;have h8:nn s <=8:=hS.p2;rw [Zk1 hF hS (nn s) _ _ F _ (by omega) hp (Kv.all hS.inn) h.gd (by omega) h1];exact fin
 ·rw [if_neg (by omega),if_neg (by omega),if_neg (by omega),ea,eb,Int.toNat_natCast,Int.toNat_natCast] at fin ⊢;obtain⟨hf,hD⟩:=h.head ha hb hl;rw [decide_eq_false (by omega),Cq0,decide_eq_false (by omega),Cq0,decide_eq_false (by omega),Cq0,decide_eq_true k,Cq1,Zul hF hS h.gd (by omega) ha hb hl hf.s hD];exact fin
end
end
section
section
variable {s:Zb} {σ τ υ:TS} {F B a b p q w i n d:Nat} {x:ZE}
theorem ZlM {z:Int} (h:¬ ∃ k:Nat,z= (k:Int)∧k < nn s):(decide (z >=0) && decide (z < (s.Zf.length:Int)))=false:=Bool.eq_false_iff.2 fun e=>h ((ZkJ s z).1 e)
theorem ZRG (h:σ.ld i <= (σ.sn i).length):decide (((lnk σ i).kG.length:Int) > 0)=decide (σ.ld i < (σ.sn i).length):=by
 have e:(lnk σ i).kG.length= (σ.sn i).length - σ.ld i:=by show((σ.sn i).drop (σ.ld i)).length=_;rw [List.length_drop]
 rw [e];congr 1;rw [eq_iff_iff];omega
theorem ZeU (hS:Xk s) {z:Int}:(0 <=z∧z < s.qG)↔∃ k:Nat,z= (k:Int)∧k < mm s:=by
 rw [hS.mm.1]
 constructor
 ·rintro⟨h1,h2⟩;exact⟨z.toNat,by omega,by omega⟩
 ·rintro⟨k,rfl,h⟩;omega
theorem Znl (hS:Xk s) (h:Ok s B σ):Zzh (hal s σ) x=ifc (Zc2 s x σ) (some true) (some false):=by
 unfold Zzh ZmB;rw [show(hal s σ).qK=s from rfl];simp only [Bq0]
 obtain⟨L,v,eL,hL⟩:∃ (L:Bool) (v:Int),((gd (decide (x.a >=0) && decide (x.a < (s.Zf.length:Int))) (ZR (hal s σ).Za.qV x.a) default)=some v∧(((decide (x.a >=0) && decide (x.a < (s.Zf.length:Int))) && (v==1))=L))∧(L=true↔∃ p:Nat,x.a= (p:Int)∧p < nn s∧σ.st p=1):=by
  by_cases hp:∃ p:Nat,x.a= (p:Int)∧p < nn s
  ·obtain⟨p,ep,hp⟩:=hp;refine⟨decide (σ.st p=1),σ.st p,⟨?_,?_⟩,?_⟩
   ·rw [ep,ZlL hp,Km];exact Yx hp
   ·rw [ep,ZlL hp,Bool.true_and,Xi]
   ·rw [decide_eq_true_eq]
    constructor
    ·exact fun z=>⟨p,ep,hp,z⟩
    ·rintro⟨p',e,_,z⟩;have:p'=p:=by omega
     subst this;exact z
  ·refine⟨false,default,⟨by rw [ZlM hp];rfl,by rw [ZlM hp];rfl⟩,?_⟩
   constructor
   ·intro z;cases z
   ·rintro⟨p,e,h1,_⟩;exact absurd ⟨p,e,h1⟩ hp
 rw [eL.1];simp only [Bq0]
 have j:∀ v13:Bool,(v13=true↔x.act=1∨x.act=2) ->Zgh (hal s σ) x (decide (x.a >=0) && decide (x.a < (s.Zf.length:Int))) v v13=ifc (Zc2 s x σ) (some true) (some false):=fun v13 hv=>by
  unfold Zgh;rw [eL.2];by_cases k12:x.act=1∨x.act=2
  ·rw [hv.2 k12,Cq1];unfold ZmB;rw [show(hal s σ).qK=s from rfl];cases hLb:L with
   | false=>
     rw [ZaR];simp only [Bq0,Bool.false_and];have:¬ ∃ p:Nat,x.a= (p:Int)∧p < nn s∧σ.st p=1:=fun z=>by have:=hL.2 z;rw [hLb] at this;cases this
     rw [ZF];rintro(⟨_,p,q,e1,_,h1,_,z⟩ | ⟨_,p,q,e1,_,h1,_,z⟩ | ⟨_,p,e1,h1,z⟩ | ⟨k',_⟩)
     ·exact this ⟨p,e1,h1,z⟩
     ·exact this ⟨p,e1,h1,z⟩
     ·exact this ⟨p,e1,h1,z⟩
     ·omega
   | true=>
     rw [Km];simp only [Bq0,Bool.true_and];obtain⟨p,ep,hp,h1⟩:=hL.1 hLb;by_cases hq:∃ q:Nat,x.b= (q:Int)∧q < nn s
     ·obtain⟨q,eq,hq⟩:=hq;rw [eq,ZlL hq,ZL];rcases k12 with k | k
      ·exact .inl ⟨k,p,q,ep,eq,hp,hq,h1⟩
      ·exact .inr (.inl ⟨k,p,q,ep,eq,hp,hq,h1⟩)
     ·rw [ZlM hq,ZF];rintro(⟨_,p',q,_,e1,_,z,_⟩ | ⟨_,p',q,_,e1,_,z,_⟩ | ⟨k',_⟩ | ⟨k',_⟩)
      ·exact hq ⟨q,e1,z⟩
      ·exact hq ⟨q,e1,z⟩
      ·omega
      ·omega
  ·have:v13=false:=Bool.eq_false_iff.2 fun z=>k12 (hv.1 z)
   rw [this,Cq0,Xi,Xi];by_cases k3:x.act=3
   ·rw [decide_eq_true k3,Cq1];cases hLb:L with
    | false=>
      have:¬ ∃ p:Nat,x.a= (p:Int)∧p < nn s∧σ.st p=1:=fun z=>by have:=hL.2 z;rw [hLb] at this;cases this
      rw [ZF];rintro(⟨k',_⟩ | ⟨k',_⟩ | ⟨_,p,e1,h1,z⟩ | ⟨k',_⟩)
      ·omega
      ·omega
      ·exact this ⟨p,e1,h1,z⟩
      ·omega
    | true=>
      obtain⟨p,ep,hp,h1⟩:=hL.1 hLb;rw [ZL (.inr (.inr (.inl ⟨k3,p,ep,hp,h1⟩)))]
   ·rw [decide_eq_false k3,Cq0];by_cases k4:x.act=4
    ·rw [decide_eq_true k4,Cq1,show(hal s σ).qK.qG=s.qG from rfl];by_cases hr:((0 <=x.a∧x.a < s.qG)∧(0 <=x.b∧x.b < s.qG))∧x.a ≠ x.b
     ·have:((decide ((if x.b < x.a then x.b else x.a) >=0)) && (decide ((if x.b > x.a then x.b else x.a) < s.qG)) && (x.a !=x.b))=true:=by
       rw [ZbD,decide_eq_true hr.2,decide_eq_true (by split <;> omega),decide_eq_true (by split <;> omega)];rfl
      rw [this,Cq1];obtain⟨a,ea,ha⟩:= (ZeU hS).1 hr.1.1;obtain⟨b,eb,hb⟩:= (ZeU hS).1 hr.1.2;have hi:=J3 ha hb;rw [ea,eb,ZcB hS ha hb,show(hal s σ).Za.kQ=tab (mm s * mm s) (lnk σ) from rfl,Yx hi];simp only [Bq0];rw [ZRG (h.p2.ld _)];by_cases hl:σ.ld (li s a b) < (σ.sn (li s a b)).length
      ·rw [decide_eq_true hl,ZL (.inr (.inr (.inr ⟨k4,a,b,ea,eb,ha,hb,hl⟩)))]
      ·rw [decide_eq_false hl,ZF];rintro(⟨k',_⟩ | ⟨k',_⟩ | ⟨k',_⟩ | ⟨_,a',b',e1,e2,_,_,h'⟩)
       ·omega
       ·omega
       ·omega
       ·have:a'=a:=by omega
        have:b'=b:=by omega
        subst a' b';exact hl h'
     ·have:((decide ((if x.b < x.a then x.b else x.a) >=0)) && (decide ((if x.b > x.a then x.b else x.a) < s.qG)) && (x.a !=x.b))=false:=by
       rw [Bool.eq_false_iff];intro z;rw [Ba0,Ba0,decide_eq_true_eq,decide_eq_true_eq,ZbD,decide_eq_true_eq] at z;obtain⟨⟨z1,z2⟩,z3⟩:=z;split at z1 <;> split at z2 <;> (apply hr;omega)
      rw [this,Cq0,ZF];rintro(⟨k',_⟩ | ⟨k',_⟩ | ⟨k',_⟩ | ⟨_,a',b',e1,e2,h1,h2,h'⟩)
      ·omega
      ·omega
      ·omega
      ·refine hr ⟨⟨(ZeU hS).2 ⟨a',e1,h1⟩,(ZeU hS).2 ⟨b',e2,h2⟩⟩,fun z=>?_⟩;have:a'=b':=by omega
       subst this;rw [h.p1.self a' h1] at h';simp at h'
    ·rw [decide_eq_false k4,Cq0,ZF];rintro(⟨k',_⟩ | ⟨k',_⟩ | ⟨k',_⟩ | ⟨k',_⟩)
     ·omega
     ·omega
     ·omega
     ·omega
 rw [Xi];by_cases k1:x.act=1
 ·rw [decide_eq_true k1,Cq1];exact j true ⟨fun _=>.inl k1,fun _=>rfl⟩
 ·rw [decide_eq_false k1,Cq0,Xi];exact j _ ⟨fun z=>.inr (of_decide_eq_true z),fun z=>decide_eq_true (z.resolve_left k1)⟩
end
end
section
def ts0:TS:= ⟨fun _=>1,fun _ _=>0,fun _=>[],fun _=>[],fun _=>[],fun _=>[],fun _=>0,0,[]⟩
noncomputable def Xg (s:Zb) (l:List ZE):Nat ->TS×List Int
 | 0=>(ts0,[])
 | k + 1=>ifc (Zc2 s (l.getD k default) (Xg s l k).1) (stepW s (l.getD k default) (Xg s l k).1,(Xg s l k).2 ++ [(k:Int)]) (Xg s l k)
section
variable {s:Zb} {σ τ υ:TS} {F B a b p q w i n d k:Nat} {l:List ZE}
theorem ZEa (hS:Xk s):YA (s.qG * s.qG)= ((mm s * mm s:Nat):Int):=by
 obtain⟨e,h1,h4⟩:=hS.mm;have h16:=ZiA hS;rw [e,← Int.natCast_mul];exact WN (by omega) (by omega)
theorem Zqw {α:Type} (z:α) {Ji n:Nat} (h:Ji * n <=100000):mkL z Ji (n:Int) (n:Int)=some (tab n fun _=>z):=by
 unfold mkL;rw [decide_eq_true (show(0:Int) <= (n:Int) by omega),decide_eq_true (show(n:Int) <= (n:Int) by omega),Int.toNat_natCast,Nm0 h,ZA9];rfl
theorem ZrD (hF:1000 <=F) (hS:Xk s):Zzk F s=some (hal s ts0):=by
 have h8:nn s <=8:=hS.p2;obtain⟨em,h1,h4⟩:=hS.mm;have h16:=ZiA hS;unfold Zzk;refine XO (fun k=>((k:Int),tab k (fun _=>(1:Int)),tab k (fun _=>tab (mm s * mm s) fun _=>(0:Int)),tab k (fun _=>([]:List Int)),tab k (fun _=>([]:List Int)))) rfl (n:=nn s) (by omega) (fun k hk next=>?_) (fun next=>?_)
 ·unfold ZmG;dsimp only;rw [show((s.Zf.length:Nat):Int)= ((nn s:Nat):Int) from rfl,YU hk,Cq1,app1 (by rw [Qh];omega) (by decide)];simp only [Bq0];rw [ZEa hS,Zqw _ (by omega)];simp only [Bq0];rw [app1 (by rw [Qh];omega) (by decide)];simp only [Bq0];rw [app1 (by rw [Qh];omega) (by decide)];simp only [Bq0];rw [QI (by omega),ZhR,ZhR,ZhR]
 ·unfold ZmG;dsimp only;rw [show((s.Zf.length:Nat):Int)= ((nn s:Nat):Int) from rfl,Xb,Cq0,ZEa hS];have e1:mkL ([]:List Zd) 24 s.qG s.qG=some (tab (mm s) fun _=>[]):=by rw [em];exact Zqw _ (by omega)
  rw [e1];simp only [Bq0];rw [Zqw _ (by omega)];rfl
theorem ZfL {n:Nat} {f:Nat ->Nat} (h:∀ k,k < n ->f k=0):Qu n f=0:=by rw [Zbc (g:=fun _=>0) h,ZhS];simp
theorem ZRz (s:Zb):Pot s ts0=11 * nn s:=by
 have e1:Qu (mm s * mm s) (lw ts0)=0:=ZfL fun k _=>rfl
 have e2:Qu (mm s) (fun m=>(ts0.be m).length)=0:=ZfL fun k _=>rfl
 have e3:Qu (nn s) (fun q=>2 * (ts0.wa q).length)=0:=ZfL fun k _=>rfl
 have e4:Qu (nn s) (fun p=>sw (ts0.st p))=nn s * 11:= (Zbc (g:=fun _=>11) fun k _=>rfl).trans (ZhS _ _);unfold Pot;rw [e1,e2,e3,e4];show 0 + 0 + 0 + 0 + nn s * 11=_;omega
theorem ok0 (hS:Xk s):Ok s 88 ts0:=by
 have h8:nn s <=8:=hS.p2;have nil:∀ {α:Type} (x:α),¬ x ∈ ([]:List α):=fun x h=>by cases h
 have no3:∀ p,¬ ts0.st p=3:=fun p h=>absurd h (by show ¬ ((1:Int)=3);decide)
 have kn:Kn s ts0:= ⟨fun q _=>List.Pairwise.nil,fun q _ x hx=>absurd hx (nil x)⟩
 have k1:KI s ts0:= ⟨fun i j x hx _=>by simp [ts0] at hx,fun i i' j j' x x' hx _ _ _ _=>by simp [ts0] at hx,fun p _ h=>absurd h (no3 p),fun p _ h=>absurd h (no3 p)⟩
 have w:Wf s 88 ts0:= ⟨by rw [ZRz];omega,fun i _=>Nat.le_refl _,fun q _ x hx=>absurd hx (nil x)⟩
 exact⟨⟨w,kn⟩,⟨fun a b _ _ x hx=>absurd hx (nil x),fun a _=>rfl,fun w _ x hx=>absurd hx (nil x),fun q _ x hx=>absurd hx (nil x)⟩,⟨fun i=>Nat.le_refl _,kn⟩,k1,⟨Int.le_refl _,Int.le_refl _⟩⟩
theorem Zbk (hS:Xk s):∀ k,Ok s (88 + 4 * k) (Xg s l k).1∧(Xg s l k).2.length <=k∧Qq s ts0 (Xg s l k).1:=by
 intro k
 induction k with
 | zero=>exact⟨ok0 hS,Nat.le_refl _,.refl⟩
 | succ k ih=>
   obtain⟨h1,h2,h3⟩:=ih;rw [Xg];by_cases hA:Zc2 s (l.getD k default) (Xg s l k).1
   ·rw [ZL hA];refine⟨?_,by rw [List.length_append,List.length_singleton];omega,h3.trans (ZfN hS h1 hA)⟩;have:=step_ok hS h1 hA;exact⟨this.gd.up (by omega),this.p1,this.p2,this.ki,this.sd⟩
   ·rw [ZF hA];exact⟨⟨h1.gd.up (by omega),h1.p1,h1.p2,h1.ki,h1.sd⟩,by omega,h3⟩
theorem Zt6 (hF:1000000 <=F) (hS:Xk s) (hl:l.length <=100):Zzj F (hal s ts0) l=some (hal s (Xg s l l.length).1,(Xg s l l.length).2):=by
 unfold Zzj;refine XO (fun k=>((Xg s l k).2,(k:Int),WG s (Xg s l k).1)) rfl (n:=l.length) (by omega) (fun k hk next=>?_) (fun next=>?_)
 ·obtain⟨h1,h2,_⟩:=Zbk (l:=l) hS k;rw [Xg];obtain⟨σ,hσ⟩:∃ σ,σ= (Xg s l k).1:= ⟨_,rfl⟩
  obtain⟨dn,hd⟩:∃ dn,dn= (Xg s l k).2:= ⟨_,rfl⟩
  rw [← hd] at h2;rw [← hσ] at h1 ⊢;unfold ZmF;rw [show WG s σ= (tab (nn s) σ.st,(tab (nn s) fun j=>tab (mm s * mm s) (σ.ma j)),tab (nn s) σ.kn,tab (nn s) σ.wa,tab (mm s) σ.be,tab (mm s * mm s) (lnk σ),σ.sd,s.qG,s.Zf,σ.ev) from rfl];dsimp only;rw [YU hk,Cq1,QD default hk];simp only [Bq0];rw [Zl6,Znl hS h1];by_cases hA:Zc2 s (l.getD k default) σ
  ·rw [ZL hA,ZL hA];simp only [Bq0,Cq1];rw [Zkw hF hS (by omega) h1 hA];simp only [Bq0];rw [← hd,ZDt (by rw [List.length_singleton];omega)];simp only [Bq0];unfold Zgi;dsimp only;rw [QI (by omega)];rfl
  ·rw [ZF hA,ZF hA];simp only [Bq0,Cq0];unfold Zgi;dsimp only;rw [QI (by omega),← hσ];rfl
 ·unfold ZmF WG;dsimp only;rw [Xb,Cq0];rfl
end
end
section
section
variable {s:Zb} {σ τ υ:TS} {F B a b p q w i n d k:Nat}
end
end
section
def opn (s:Zb) (σ:TS) (k:Nat):List Nat:= (List.range k).filter fun i=>decide (σ.ld i < (σ.sn i).length)
def opens (s:Zb) (σ:TS):List Nat:=opn s σ (mm s * mm s)
def Ziu (ls:List Nat) (picks:List Int) (r:Nat):Nat:=if r < picks.length then ls.getD ((picks.getD r 0).toNat % ls.length) 0 else ls.getD 0 0
def ZeX (s:Zb) (i:Nat):ZE:= ⟨4,((i / mm s:Nat):Int),((i % mm s:Nat):Int)⟩
noncomputable def drK (s:Zb) (picks:List Int) (σ:TS):Nat ->TS
 | 0=>σ
 | r + 1=>if opens s (drK s picks σ r)= [] then drK s picks σ r else stepW s (ZeX s (Ziu (opens s (drK s picks σ r)) picks r)) (drK s picks σ r)
section
variable {s:Zb} {σ τ υ:TS} {F B a b p q w i n d k r:Nat} {l:List ZE} {picks:List Int}
theorem ZhC:∀ (d p:Nat) (σ:TS),(Zby s d p σ).ld=σ.ld:=by
 intro d
 induction d with
 | zero=>intro p σ;rfl
 | succ d ih=>
   intro p σ;have e:= (Qj (s:=s) p σ).2.2.1;show(ZcO s (Zby s d) p (ZM s p σ)).ld=_;unfold ZcO;split
   ·exact e
   ·split
    ·unfold J6;by_cases c:(Yb s p (UH s (ZM s p σ) p) (ZM s p σ)).st (inn s (p:Int)).toNat=2∧Alo s (Yb s p (UH s (ZM s p σ) p) (ZM s p σ)) (inn s (p:Int)).toNat
     ·rw [ZL c,ih];exact e
     ·rw [ZF c];exact e
    ·exact e
theorem ZoN:∀ (d p:Nat) (σ:TS),(Y7 s d p σ).ld=σ.ld:=by
 intro d
 induction d with
 | zero=>intro p σ;rfl
 | succ d ih=>
   intro p σ
   have h:(fk s (Y7 s d) p (nn s) (Xc p σ)).ld=σ.ld:=by
    refine QW _ (fun τ=>τ.ld=σ.ld) _ _ rfl fun τ x _ h=>?_
    unfold ZaS;split
    ·split
     ·rw [ih];exact h
     ·exact h
    ·split
     ·exact h
     ·exact h
   show(Zb7 s p _).ld=_;unfold Zb7;by_cases c:(fk s (Y7 s d) p (nn s) (Xc p σ)).st p=2∧Alo s (fk s (Y7 s d) p (nn s) (Xc p σ)) p
   ·rw [ZL c,ZhC];exact h
   ·rw [ZF c];exact h
theorem ZxF:(ZbN s a b σ).ld=Z0 σ.ld (li s a b) (σ.ld (li s a b) + 1):=by
 unfold ZbN ZeW;split
 ·rw [(XT _ _ _ _).2.2.2.1];rfl
 ·split
  ·rw [(Xf _ _ _).2.2.2.1];rfl
  ·split
   ·split
    ·rw [ZoN];rfl
    ·rfl
   ·split
    ·unfold Zbr J6;by_cases c:(Yb s (hd σ (li s a b)).kV.toNat (hd σ (li s a b)).qX (drop1 (li s a b) σ)).st (inn s ((hd σ (li s a b)).kV.toNat:Int)).toNat=2∧Alo s (Yb s (hd σ (li s a b)).kV.toNat (hd σ (li s a b)).qX (drop1 (li s a b) σ)) (inn s ((hd σ (li s a b)).kV.toNat:Int)).toNat
     ·rw [ZL c,ZhC];rfl
     ·rw [ZF c];rfl
    ·rfl
theorem ZnX (w:Nat):∀ (n:Nat) (σ:TS),(Ue s w n σ).ld=σ.ld:=by
 intro n
 induction n with
 | zero=>intro σ;rfl
 | succ n ih=>
   intro σ;rw [Ue];split
   ·rfl
   ·rw [ih,(Qi _ _ _ _).2.1]
theorem Zwy:∀ k,(rings s k σ).ld=σ.ld:=by
 intro k
 induction k with
 | zero=>rfl
 | succ k ih=>rw [rings,ZnX,ih]
theorem Zxj:opn s σ (k + 1)=opn s σ k ++ (if σ.ld k < (σ.sn k).length then [k] else []):=by
 unfold opn;rw [List.range_succ,List.filter_append];congr 1;by_cases h:σ.ld k < (σ.sn k).length
 ·rw [if_pos h];simp [h]
 ·rw [if_neg h];simp [h]
theorem ZBr:(opn s σ k).length <=k:=by
 have:=List.length_filter_le (fun i=>decide (σ.ld i < (σ.sn i).length)) (List.range k);rw [List.length_range] at this;exact this
theorem Zda:i ∈ opens s σ↔i < mm s * mm s∧σ.ld i < (σ.sn i).length:=by unfold opens opn;simp
theorem Zc8 {ls:List Nat} (h:ls ≠ []):Ziu ls picks r ∈ ls:=by
 have hl:0 < ls.length:=List.length_pos_iff.2 h;unfold Ziu;split
 ·exact XK (Nat.mod_lt _ hl)
 ·exact XK hl
theorem Zd9 (hS:Xk s) (h:i ∈ opens s σ):Zc2 s (ZeX s i) σ:=by
 obtain⟨h1,h2⟩:=Zda.1 h;have hm:=hS.mm.2.1;obtain⟨_,h1',_⟩:=hS.mm;refine .inr (.inr (.inr ⟨rfl,i / mm s,i % mm s,rfl,rfl,Nat.div_lt_of_lt_mul h1,Nat.mod_lt _ (by omega),?_⟩));have:li s (i / mm s) (i % mm s)=i:=by unfold li;rw [Nat.mul_comm];exact Nat.div_add_mod _ _
 rw [this];exact h2
theorem ZxH (hS:Xk s):(stepW s (ZeX s i) σ).ld=Z0 σ.ld i (σ.ld i + 1):=by
 have:li s (i / mm s) (i % mm s)=i:=by unfold li;rw [Nat.mul_comm];exact Nat.div_add_mod _ _
 unfold stepW;rw [Zwy];unfold WZ ZeX;rw [if_neg (show ¬ ((4:Int)=1) by decide),if_neg (show ¬ ((4:Int)=2) by decide),if_neg (show ¬ ((4:Int)=3) by decide),Int.toNat_natCast,Int.toNat_natCast,ZxF,this]
def lds (s:Zb) (σ:TS):Nat:=Qu (mm s * mm s) σ.ld
theorem Zgv (hS:Xk s) (h:Ok s B σ):∀ r,Ok s B (drK s picks σ r)∧Qq s σ (drK s picks σ r):=by
 intro r
 induction r with
 | zero=>exact⟨h,.refl⟩
 | succ r ih=>
   rw [drK];by_cases e:opens s (drK s picks σ r)= []
   ·rw [if_pos e];exact ih
   ·rw [if_neg e];have hA:=Zd9 (σ:=drK s picks σ r) hS (Zc8 (picks:=picks) (r:=r) e);exact⟨Zwd hS ih.1 rfl hA,ih.2.trans (ZfN hS ih.1 hA)⟩
theorem ZHv (h:Ok s B σ):lds s σ <=B:=by
 have h1:lds s σ <=Qu (mm s * mm s) (lw σ):=ZBa fun k hk=>Nat.le_trans (h.gd.wf.ld k hk) (by unfold lw;omega)
 have:=h.gd.wf.pot;unfold Pot at this;omega
theorem Ztp (hS:Xk s):∀ r,(∀ j,j < r ->opens s (drK s picks σ j) ≠ []) ->lds s (drK s picks σ r)=lds s σ + r:=by
 intro r
 induction r with
 | zero=>intro _;rfl
 | succ r ih=>
   intro hj;have e:=ih fun j hjr=>hj j (by omega)
   have hn:=hj r (by omega);rw [drK,if_neg hn];obtain⟨h1,_⟩:=Zda.1 (Zc8 (picks:=picks) (r:=r) hn);unfold lds at *;rw [ZxH hS];have:=ZnK (f:= (drK s picks σ r).ld) (v:= (drK s picks σ r).ld (Ziu (opens s (drK s picks σ r)) picks r) + 1) h1;omega
theorem ZJq (hS:Xk s) (h:Ok s B σ) (picks:List Int):∃ n,n <=B∧opens s (drK s picks σ n)= []∧∀ j,j < n ->opens s (drK s picks σ j) ≠ []:=by
 by_cases hz:∃ n,n < B + 1∧opens s (drK s picks σ n)= []
 ·obtain⟨n,hn,e⟩:=hz;obtain⟨m,hm,c,hlt⟩:=ZaU (c:=fun i=>opens s (drK s picks σ i)= []) e;exact⟨m,by omega,c,hlt⟩
 ·have hall:∀ j,j < B + 1 ->opens s (drK s picks σ j) ≠ []:=fun j hj q=>hz ⟨j,hj,q⟩
  have:=Ztp (picks:=picks) (σ:=σ) hS (B + 1) hall;have:=ZHv (Zgv (picks:=picks) hS h (B + 1)).1;omega
theorem ZBm {a b:Nat} (hb:0 < b) (ha:a <=1000000):Zt1 (a:Int) (b:Int)=some ((a / b:Nat):Int):=by
 unfold Zt1;rw [beq_eq_false_iff_ne.2 (by omega),Cq0,← Int.ofNat_tdiv];have:=Nat.div_le_self a b;generalize a / b=q at *;exact congrArg some (WN (by omega) (by omega))
theorem Zsj {a b:Nat} (hb:0 < b):Zn0 (a:Int) (b:Int)=some ((a % b:Nat):Int):=by
 unfold Zn0;rw [beq_eq_false_iff_ne.2 (by omega),Cq0];rfl
theorem ZiZ {l:List Nat} (h:k < l.length):ZR (l.map Int.ofNat) (k:Int)=some ((l.getD k 0:Nat):Int):=by
 rw [QD 0 (by rw [List.length_map];exact h)];simp [List.getD_eq_getElem?_getD,h]
theorem Zxk (hk:k < mm s * mm s) {β:Type} (next:List Int×Int ->Option β) {l1:List Int×Int ->Option β} (h16:mm s * mm s <=16) (hs:(σ.sn k).length <=800000)
 (e1:∀ v,l1 v=next v):
 ((ZR (tab (mm s * mm s) (lnk σ)) (k:Int)).bind fun x=>(bif decide ((x.kG.length:Int) > 0) then(app 8 ((opn s σ k).map Int.ofNat) [(k:Int)]).bind fun z=>l1 (z,YA ((k:Int) + 1)) else l1 ((opn s σ k).map Int.ofNat,YA ((k:Int) + 1))))=next ((opn s σ (k + 1)).map Int.ofNat,((k + 1:Nat):Int)):=by
 have hl:=ZBr (s:=s) (σ:=σ) (k:=k);rw [Yx hk];simp only [Bq0];rw [show(lnk σ k).kG= (σ.sn k).drop (σ.ld k) from rfl,List.length_drop,Zxj];by_cases c:σ.ld k < (σ.sn k).length
 ·rw [decide_eq_true (by omega),Cq1,ZDt (by rw [List.length_map,List.length_singleton];omega),if_pos c];simp only [Bq0];rw [e1,QI (by omega),List.map_append];rfl
 ·rw [decide_eq_false (by omega),Cq0,if_neg c,e1,QI (by omega),List.append_nil]
theorem Zh1 (hF:1000000 <=F) (hS:Xk s) (h:Ok s B σ) (hB:B <=500000) (hr:r <=500000) (hp:∀ x ∈ picks,0 <=x) (hpl:picks.length <=100) (next:_ ->Option (Zh×(List Zg)×Int×Int)):
 Zgm F s picks ((r:Int),WG s σ) next=if opens s σ= [] then some (vw s σ,σ.ev,(r:Int),0) else next (((r + 1:Nat):Int),WG s (stepW s (ZeX s (Ziu (opens s σ) picks r)) σ)):=by
 have h16:=ZiA hS;obtain⟨em,h1,h4⟩:=hS.mm;have fw:=h.gd.wf.few (by omega);unfold Zgm WG;dsimp only;refine XO (fun k=>((opn s σ k).map Int.ofNat,(k:Int))) rfl (n:=mm s * mm s) (by omega) (fun k hk nx=>?_) (fun nx=>?_)
 ·unfold ZmM;dsimp only;rw [Qh,YU hk,Cq1];exact Zxk hk nx h16 (fw.sn k hk) (l1:=fun v=>nx v) fun v=>rfl
 ·unfold ZmM;dsimp only;rw [Qh,Xb,Cq0,List.length_map];show(bif((((opens s σ).length:Nat):Int)==0) then _ else(ZR ((opens s σ).map Int.ofNat) 0).bind _)=_;by_cases e:opens s σ= []
  ·rw [if_pos e,e];rfl
  ·have hl:0 < (opens s σ).length:=List.length_pos_iff.2 e;rw [if_neg e,beq_eq_false_iff_ne.2 (by omega),Cq0,show(0:Int)= ((0:Nat):Int) from rfl,ZiZ hl];simp only [Bq0];have hm:=Zc8 (picks:=picks) (r:=r) e
   have go:∀ v:Nat,v ∈ opens s σ ->Zgl F s (r:Int) (tab (nn s) σ.st) (tab (nn s) fun j=>tab (mm s * mm s) (σ.ma j)) (tab (nn s) σ.kn) (tab (nn s) σ.wa) (tab (mm s) σ.be) (tab (mm s * mm s) (lnk σ)) σ.sd s.qG s.Zf σ.ev next (v:Int)=next (((r + 1:Nat):Int),WG s (stepW s (ZeX s v) σ)):=fun v hv=>by
    have hv1:= (Zda.1 hv).1;unfold Zgl;rw [em,ZBm (by omega) (by omega),Zsj (by omega)];simp only [Bq0];rw [← em,Zl6,show ZE.mk 4 ((v / mm s:Nat):Int) ((v % mm s:Nat):Int)=ZeX s v from rfl,Zkw hF hS hB h (Zd9 hS hv)];simp only [Bq0];rw [QI (by omega)];rfl
   by_cases c:r < picks.length
   ·rw [YU c,Cq1,QD 0 c];simp only [Bq0];have h0:=hp _ (XK (d:=0) c);obtain⟨y,hy⟩:∃ y:Nat,picks.getD r 0= (y:Int):= ⟨(picks.getD r 0).toNat,by omega⟩
    show(Zn0 (picks.getD r 0) (((opens s σ).length:Nat):Int)).bind _=_;unfold Ziu at hm ⊢;rw [if_pos c] at hm ⊢;rw [hy] at hm ⊢;rw [Int.toNat_natCast] at hm ⊢;rw [Zsj hl];simp only [Bq0];show(ZR ((opens s σ).map Int.ofNat) _).bind _=_;rw [ZiZ (Nat.mod_lt _ hl)];simp only [Bq0];exact go _ hm
   ·rw [show decide ((r:Int) < (picks.length:Int))=false from decide_eq_false (by omega),Cq0];unfold Ziu at hm ⊢;rw [if_neg c] at hm ⊢;exact go _ hm
end
end
section
section
variable {s:Zb} {σ τ υ:TS} {F B a b p q w i n d k r:Nat} {l:List ZE} {picks:List Int}
theorem ZQ7 {k:Nat} (h:k < 9223372036854775807):YA ((k:Int) + 1)= ((k + 1:Nat):Int):=WN (by omega) (by omega)
theorem Zt8 (hF:picks.length < F) (hl:picks.length <=9223372036854775807):Zrc F picks=ifc (∀ k,k < picks.length ->0 <=picks.getD k 0) (some (decide ((picks.length:Int) <=100))) (some false):=by
 unfold Zrc;refine Zai (fun k=>(k:Int)) rfl (fun k=>0 <=picks.getD k 0) (n:=picks.length) (by omega) (fun k hk next=>?_) (fun next=>?_)
 ·unfold ZmJ;rw [YU hk,Cq1,QD 0 hk];simp only [Bq0];by_cases c:0 <=picks.getD k 0
  ·rw [ZL c,decide_eq_false (by omega),Cq0,ZQ7 (by omega)]
  ·rw [ZF c,decide_eq_true (by omega),Cq1]
 ·unfold ZmJ;rw [Xb,Cq0]
theorem Zpw:(∀ k,k < picks.length ->0 <=picks.getD k 0)↔∀ x ∈ picks,0 <=x:=by
 constructor
 ·intro h x hx;obtain⟨k,hk,e⟩:=List.getElem_of_mem hx;have:=h k hk;rw [List.getD_eq_getElem?_getD,List.getElem?_eq_getElem hk] at this;rw [← e];exact this
 ·intro h k hk;exact h _ (XK hk)
noncomputable def Jv (s:Zb) (l:List ZE) (picks:List Int) (n:Nat):TS:=drK s picks (Xg s l l.length).1 n
theorem Zrn (hF:1000000 <=F) (hS:Xk s) (hl:l.length <=100) (hp:∀ x ∈ picks,0 <=x) (hpl:picks.length <=100) {n:Nat} (hn:n <=500000) (he:opens s (Jv s l picks n)= []) (hj:∀ j,j < n ->opens s (Jv s l picks j) ≠ []):
 Zzq F s l picks=some (vw s (Jv s l picks n),(Jv s l picks n).ev,(n:Int),0):=by
 obtain⟨ok,dl,_⟩:=Zbk (l:=l) hS l.length;unfold Zzq;rw [Zrv (by omega),ZL hS];simp only [Bq0,Zdh,Bool.false_or];rw [decide_eq_false (by omega),decide_eq_false (by omega)];simp only [Bool.or_self,Bool.not_false,Cq1];refine XO (fun k=>(k:Int)) rfl (n:=picks.length) (by omega) (fun k hk next=>?_) (fun next=>?_)
 ·unfold ZmL ZCD;rw [YU hk,Cq1,QD 0 hk];simp only [Bq0];rw [decide_eq_false (by have:=hp _ (XK (d:=0) hk);omega),Cq0,QI (by omega)]
 ·unfold ZmL;rw [Xb,Cq0];unfold Zjh;rw [show decide ((-1:Int) >=0)=false from rfl,Cq0,ZrD (by omega) hS];simp only [Bq0];rw [Zt6 hF hS hl];simp only [Bq0];refine XO (fun k=>((k:Int),WG s (Jv s l picks k))) rfl (n:=n) (by omega) (fun k hk next=>?_) (fun next=>?_)
  ·have o:= (Zgv (picks:=picks) hS ok k).1;show Zgm F s picks ((k:Int),WG s (drK s picks (Xg s l l.length).1 k)) next=_;rw [Zh1 hF hS o (by omega) (by omega) hp hpl,if_neg (show ¬ opens s (drK s picks (Xg s l l.length).1 k)= [] from hj k hk)];have:=hj k hk;unfold Jv at *;rw [drK,if_neg this]
  ·have o:= (Zgv (picks:=picks) hS ok n).1;show Zgm F s picks ((n:Int),WG s (drK s picks (Xg s l l.length).1 n)) next=_;rw [Zh1 hF hS o (by omega) (by omega) hp hpl,if_pos (show opens s (drK s picks (Xg s l l.length).1 n)= [] from he)];rfl
theorem ZCS (hS:Xk s) (hl:l.length <=100) (picks:List Int):∃ n,n <=488∧opens s (Jv s l picks n)= []∧(∀ j,j < n ->opens s (Jv s l picks j) ≠ [])∧Ok s 488 (Jv s l picks n)∧Qq s ts0 (Jv s l picks n)∧Qq s (Xg s l l.length).1 (Jv s l picks n)∧lds s (Jv s l picks n)=lds s (Xg s l l.length).1 + n:=by
 obtain⟨ok,dl,ac⟩:=Zbk (l:=l) hS l.length;have ok:Ok s 488 (Xg s l l.length).1:= ⟨ok.gd.up (by omega),ok.p1,ok.p2,ok.ki,ok.sd⟩
 obtain⟨n,h1,h2,h3⟩:=ZJq hS ok picks;obtain⟨o,a⟩:=Zgv (picks:=picks) hS ok n;exact⟨n,h1,h2,h3,o,ac.trans a,a,Ztp hS n h3⟩
end
end
section
def ZQn (s:Zb) (e:Zg):Prop:= (∃ p:Nat,e.kV= (p:Int)∧p < nn s)∧(∃ q:Nat,e.kX= (q:Int)∧q < nn s)
def EvR (s:Zb) (σ:TS):Prop:=∀ e ∈ σ.ev,ZQn s e
section
variable {s:Zb} {σ τ υ:TS} {F B a b p q w i n d k r:Nat} {l:List ZE} {picks:List Int} {x:Zd}
theorem EvR.add (h:EvR s σ) {e:Zg} (he:ZQn s e) (ht:τ.ev=σ.ev ++ [e]):EvR s τ:=fun y hy=>by
 rw [ht] at hy;rcases List.mem_append.1 hy with hy | hy
 ·exact h y hy
 ·rw [List.mem_singleton.1 hy];exact he
theorem EvR.congr (h:EvR s σ) (ht:τ.ev=σ.ev):EvR s τ:=fun y hy=>h y (by rwa [ht] at hy)
theorem EvR.see (h:EvR s σ) (hp:p < nn s) (hq:q < nn s) (n:Int):EvR s (Proofs.YtcnahmgekicbdaaGreat.see p q n σ):=by
 unfold Proofs.YtcnahmgekicbdaaGreat.see;split
 ·exact h.add ⟨⟨p,rfl,hp⟩,⟨q,rfl,hq⟩⟩ rfl
 ·exact h
theorem EvR.act (hS:Xk s) (h1:P1 s σ) (h:EvR s σ) (ac:Act s σ τ):EvR s τ:=by
 cases ac with
 | @fall p hp=>exact h.add ⟨⟨p,rfl,hp⟩,⟨0,rfl,by omega⟩⟩ rfl
 | Ux=>exact h
 | @die p hp h2 hA=>
   have:EvR s (ZM s p σ):=h.add ⟨⟨p,rfl,hp⟩,⟨0,rfl,by omega⟩⟩ (Qj (s:=s) p σ).2.2.2.2.1;unfold JU;split
   ·exact this
   ·split
    ·exact this
    ·exact this
 | @Zbe p q hp hq=>exact EvR.see (h.add (τ:=kK p q σ) (e:= ⟨1,p,q,σ.sd⟩) ⟨⟨p,rfl,hp⟩,⟨q,rfl,hq⟩⟩ rfl) hq hp _
 | @Zbd p q hp hq=>exact h.add (τ:=kK p q σ) (e:= ⟨1,p,q,σ.sd⟩) ⟨⟨p,rfl,hp⟩,⟨q,rfl,hq⟩⟩ rfl
 | @Za9 p q hp hq=>exact(h.add (τ:=tell 3 p q 0 σ) (e:= ⟨3,p,q,0⟩) ⟨⟨p,rfl,hp⟩,⟨q,rfl,hq⟩⟩ rfl).congr (Xf (s:=s) p q (tell 3 p q 0 σ)).2.2.2.2.2
 | @Za8 p q hp hq=>exact h.add (τ:=tell 3 p q 0 σ) (e:= ⟨3,p,q,0⟩) ⟨⟨p,rfl,hp⟩,⟨q,rfl,hq⟩⟩ rfl
 | Zbs ha hb hl hk hp hq hpn UI=>exact EvR.see (σ:=drop1 _ σ) h UI hpn _
 | @Zbu a b p q ha hb hl hk hp hq hpn UI=>exact h.congr (Xf (s:=s) p q (drop1 (li s a b) σ)).2.2.2.2.2
 | ZaM=>exact h
 | Zau=>exact h
 | Zbt=>exact h
 | @ring w i hw hpk=>
   have hm:=h1.bea w hw;unfold rung;split
   ·rename_i hst;have hi:i < (σ.be w).length:=Zbl _ _ hpk;obtain⟨⟨⟨p,e1,h1'⟩,⟨q,e2,h2'⟩,_⟩,_⟩:=hm _ (XK (d:=default) hi);exact h.add (τ:=tell 4 _ _ 0 _) (e:= ⟨4,((σ.be w).getD i default).kV,((σ.be w).getD i default).kX,0⟩) ⟨⟨p,e1,h1'⟩,⟨q,e2,h2'⟩⟩ rfl
   ·exact h
theorem Zjk (hS:Xk s) (h:Qq s ts0 σ):EvR s σ:=by
 have h0:=ok0 hS;exact(h.keep (P:=fun σ=>P1 s σ∧EvR s σ) (fun _ _ ⟨a,b⟩ ac=>⟨a.act hS ac,b.act hS a ac⟩) ⟨h0.p1,fun e he=>absurd he (by simp [ts0])⟩).2
def Giv (s:Zb) (l:List ZE) (picks:List Int):Prop:=Xk s∧l.length <=100∧(∀ x ∈ picks,0 <=x)∧picks.length <=100
theorem Zt9 (hF:picks.length < F) (hl:picks.length <=9223372036854775807):Zrc F picks=ifc ((∀ x ∈ picks,0 <=x)∧picks.length <=100) (some true) (some false):=by
 rw [Zt8 hF hl];by_cases c:∀ k,k < picks.length ->0 <=picks.getD k 0
 ·rw [ZL c];by_cases c2:picks.length <=100
  ·rw [ZL ⟨Zpw.1 c,c2⟩,decide_eq_true (by omega)]
  ·rw [ZF fun q=>c2 q.2,decide_eq_false (by omega)]
 ·rw [ZF c,ZF fun q=>c (Zpw.2 q.1)]
theorem ZyP (hF:1000000 <=F) {pp:List (List Int)} (hpp:pp.length <=100) (hl:∀ x ∈ pp,x.length < F∧x.length <=9223372036854775807):∃ g:Bool,Zzp F s l pp=some g∧(g=true ->∀ x ∈ pp,Giv s l x):=by
 have h:=Zai (body:=Zjg F s l pp) (r1:=some false) (r2:= (Zzs s).bind fun x18=>(gd x18 (Zrd F s) default).bind fun x19=>some ((x18 && x19) && (decide ((l.length:Int) <=100)))) (s0:= (0:Int)) (fun k=>(k:Int)) rfl (fun k=>(∀ x ∈ pp.getD k [],0 <=x)∧(pp.getD k []).length <=100) (n:=pp.length) (F:=F) (by omega) (fun k hk next=>by
  unfold Zjg;rw [YU hk,Cq1,QD [] hk];simp only [Bq0];rw [Zt9 (hl _ (XK hk)).1 (hl _ (XK hk)).2];by_cases c:(∀ x ∈ pp.getD k [],0 <=x)∧(pp.getD k []).length <=100
  ·rw [ZL c,ZL c];simp only [Bq0,Bool.not_true,Cq0];rw [QI (by omega)]
  ·rw [ZF c,ZF c];rfl) (fun next=>by
  unfold Zjg;rw [Xb,Cq0])
 unfold Zzp;rw [h];by_cases c:∀ k,k < pp.length ->(∀ x ∈ pp.getD k [],0 <=x)∧(pp.getD k []).length <=100
 ·rw [ZL c];unfold Zzs;simp only [Bq0];cases h30:decide ((s.Zf.length:Int) <=30) with
  | false=>exact⟨_,rfl,fun q=>by cases q⟩
  | true=>
    simp only [Km,Bool.true_and];rw [ZtU (by omega)];by_cases hS:Xk s
    ·rw [ZL hS];refine⟨_,rfl,fun q x hx=>?_⟩;simp only [Bool.true_and,decide_eq_true_eq] at q;obtain⟨k,hk,e⟩:=List.getElem_of_mem hx;have:=c k hk;rw [List.getD_eq_getElem?_getD,List.getElem?_eq_getElem hk] at this;have e':(some pp[k]).getD []=x:=e;rw [e'] at this;exact⟨hS,by omega,this.1,this.2⟩
    ·rw [ZF hS];exact⟨_,rfl,fun q=>by cases q⟩
 ·rw [ZF c];exact⟨_,rfl,fun q=>by cases q⟩
theorem Zoe (hp:p < nn s):Zra s (p:Int)=some true:=by
 unfold Zra;rw [decide_eq_true (by omega),show decide ((p:Int) < (s.Zf.length:Int))=true from decide_eq_true (by show(p:Int) < ((nn s:Nat):Int);omega)];rfl
theorem Zjr (hF:1000000 <=F) (hg:Giv s l picks):∃ n,n <=488∧opens s (Jv s l picks n)= []∧Ok s 488 (Jv s l picks n)∧Qq s ts0 (Jv s l picks n)∧Qq s (Xg s l l.length).1 (Jv s l picks n)∧lds s (Jv s l picks n)=lds s (Xg s l l.length).1 + n∧
 ZuE F s l picks=some (vw s (Jv s l picks n),(Jv s l picks n).ev,(n:Int),true):=by
 obtain⟨hS,hl,hp,hpl⟩:=hg;obtain⟨n,hn,he,hj,ok,ac,ac2,e2⟩:=ZCS hS hl picks;refine⟨n,hn,he,ok,ac,ac2,e2,?_⟩;have hr:=Zjk hS ac;have hev:(Jv s l picks n).ev.length <=488:=by have:=ok.gd.wf.pot;unfold Pot at this;omega
 unfold ZuE;rw [Zrn hF hS hl hp hpl (by omega) he hj];simp only [Bq0,Zdh,Bool.false_or];rw [show(vw s (Jv s l picks n)).qV=tab (nn s) (Jv s l picks n).st from rfl,Qh,show((nn s:Nat):Int)= ((s.Zf.length:Nat):Int) from rfl,Zdh,decide_eq_false (by omega)];simp only [Bool.or_self,Cq0];refine XO (fun k=>(k:Int)) rfl (n:= (Jv s l picks n).ev.length) (by omega) (fun k hk next=>?_) (fun next=>?_)
 ·unfold ZmI;dsimp only;rw [YU hk,Cq1,QD default hk];simp only [Bq0];obtain⟨⟨p,e1,h1⟩,⟨q,e2,h2⟩⟩:=hr _ (XK (d:=default) hk);rw [e1,e2,Zoe h1];simp only [Bq0,Bool.not_true,Bool.not_false,Km];rw [Zoe h2];simp only [Bq0,Bool.not_true,Bool.or_self,Cq0];rw [QI (by omega)]
 ·unfold ZmI;dsimp only;rw [Xb,Cq0]
end
end
section
def kc (k:Int) (p q:Nat) (l:List Zd):Nat:=l.countP fun x=>((x.kW==k) && (x.kV== (p:Int))) && (x.kX== (q:Int))
def asks (s:Zb) (σ:TS) (p q:Nat):Nat:=kc 2 p q (fl σ (li s (pl s p) (pl s q)))
def bb (s:Zb) (σ:TS) (p q:Nat):Nat:=kc 5 p q (σ.be (pl s p)) + kc 5 p q (fl σ (li s (pl s q) (pl s p)))
def wat (σ:TS) (p q:Nat):Nat:= (σ.wa q).count (p:Int)
def ec (σ:TS) (d:Int) (p q:Nat):Nat:=c3 σ.ev d p q
structure Bal (s:Zb) (σ:TS):Prop where
 le:∀ p q,p < nn s ->q < nn s ->ec σ 4 p q + bb s σ p q + wat σ p q + asks s σ p q <=ec σ 3 p q
 eq:∀ p q,p < nn s ->q < nn s ->σ.st p=1 ->ec σ 4 p q + bb s σ p q + wat σ p q + asks s σ p q=ec σ 3 p q
 dead:∀ p q,p < nn s ->q < nn s ->0 < ec σ 4 p q + bb s σ p q ->σ.st q=3
 wz:∀ p q,p < nn s ->q < nn s ->σ.st q=3 ->wat σ p q=0
section
variable {s:Zb} {σ τ υ:TS} {F B a b p q w i j n d r p0 q0:Nat} {x:Zd} {k:Int}
def one (c:Prop) [Decidable c]:Nat:=if c then 1 else 0
theorem Jb {c:Prop} [Decidable c] (h:c):one c=1:=if_pos h
theorem YD {c:Prop} [Decidable c] (h:¬ c):one c=0:=if_neg h
theorem Zf2 (l m:List Zd):kc k p q (l ++ m)=kc k p q l + kc k p q m:=by unfold kc;rw [List.countP_append]
theorem Zdm (l:List Zd):kc k p q (x::l)=kc k p q l + one (x.kW=k∧x.kV= (p:Int)∧x.kX= (q:Int)):=by
 unfold kc;rw [List.countP_cons];congr 1;by_cases c:x.kW=k∧x.kV= (p:Int)∧x.kX= (q:Int)
 ·rw [Jb c,c.1,c.2.1,c.2.2];simp
 ·rw [YD c,if_neg];simp only [Ba0,beq_iff_eq];exact fun z=>c ⟨z.1.1,z.1.2,z.2⟩
theorem ZlX:kc k p q []=0:=rfl
theorem ZxJ {l:List Zd} (hi:i < l.length):kc k p q l=kc k p q (Zbz l i) + one ((l.getD i default).kW=k∧(l.getD i default).kV= (p:Int)∧(l.getD i default).kX= (q:Int)):=by
 have e:l=l.take i ++ l.getD i default::l.drop (i + 1):=by
  rw [List.getD_eq_getElem?_getD,List.getElem?_eq_getElem hi];simp
 unfold Zbz
 conv=>lhs;rw [e]
 rw [Zf2,Zdm,Zf2];omega
theorem Zdk (hl:σ.ld (li s a b) <= (σ.sn (li s a b)).length) (j:Nat):kc k p q (fl (send s a b x σ) j)=kc k p q (fl σ j) + (if j=li s a b then one (x.kW=k∧x.kV= (p:Int)∧x.kX= (q:Int)) else 0):=by
 by_cases e:j=li s a b
 ·subst e;rw [if_pos rfl,Zmn hl,Zf2,Zdm,ZlX,Nat.zero_add]
 ·rw [if_neg e,Zeg e];rfl
theorem Zdl (hl:σ.ld i < (σ.sn i).length) (j:Nat):kc k p q (fl σ j)=kc k p q (fl (drop1 i σ) j) + (if j=i then one ((hd σ i).kW=k∧(hd σ i).kV= (p:Int)∧(hd σ i).kX= (q:Int)) else 0):=by
 by_cases e:j=i
 ·subst e;rw [if_pos rfl,Zhv hl,Zdm];congr 2;show _= (σ.sn j).drop (Z0 σ.ld j (σ.ld j + 1) j);rw [Zq]
 ·rw [if_neg e,Nat.add_zero];congr 1;show _= (σ.sn j).drop (Z0 σ.ld i (σ.ld i + 1) j);rw [Zz e];rfl
theorem ZbC (l:List Zg) (e:Zg) (d p q:Int):c3 (l ++ [e]) d p q=c3 l d p q + one (e.kZ=d∧e.kV=p∧e.kX=q):=by
 unfold c3;rw [List.countP_append,List.countP_cons,List.countP_nil,Nat.zero_add];congr 1;by_cases c:e.kZ=d∧e.kV=p∧e.kX=q
 ·rw [Jb c,c.1,c.2.1,c.2.2];simp
 ·rw [YD c,if_neg];simp only [Ba0,beq_iff_eq];exact fun z=>c ⟨z.1.1,z.1.2,z.2⟩
theorem Zfi (d':Int) (p' q' n:Int):ec (tell d' p' q' n σ) k p q=ec σ k p q + one (d'=k∧p'= (p:Int)∧q'= (q:Int)):=ZbC _ _ _ _ _
theorem Zzy {e:Zg} (h:τ.ev=σ.ev ++ [e]):ec τ k p q=ec σ k p q + one (e.kZ=k∧e.kV= (p:Int)∧e.kX= (q:Int)):=by unfold ec;rw [h];exact ZbC _ _ _ _ _
theorem Zld (h:τ.ev=σ.ev):ec τ k p q=ec σ k p q:=by unfold ec;rw [h]
theorem ZtD (h1:τ.sn=σ.sn) (h2:τ.ld=σ.ld):asks s τ p q=asks s σ p q:=by unfold asks fl;rw [h1,h2]
theorem ZPS (h1:τ.sn=σ.sn) (h2:τ.ld=σ.ld) (h3:τ.be=σ.be):bb s τ p q=bb s σ p q:=by unfold bb fl;rw [h1,h2,h3]
theorem ZpW (h:τ.wa=σ.wa):wat τ p q=wat σ p q:=by unfold wat;rw [h]
structure Un (s:Zb) (σ τ:TS):Prop where
 a:∀ p q,asks s τ p q=asks s σ p q
 b:∀ p q,bb s τ p q=bb s σ p q
 w:∀ p q,wat τ p q=wat σ p q
 e3:∀ p q,ec τ 3 p q=ec σ 3 p q
 e4:∀ p q,ec τ 4 p q=ec σ 4 p q
theorem Un.trans (h:Un s σ τ) (h':Un s τ υ):Un s σ υ:= ⟨fun p q=>(h'.a p q).trans (h.a p q),fun p q=>(h'.b p q).trans (h.b p q),fun p q=>(h'.w p q).trans (h.w p q),fun p q=>(h'.e3 p q).trans (h.e3 p q),fun p q=>(h'.e4 p q).trans (h.e4 p q)⟩
theorem Bal.un (h:Bal s σ) (u:Un s σ τ) (s1:∀ p,p < nn s ->τ.st p=1 ->σ.st p=1) (s3:∀ p,p < nn s ->(σ.st p=3↔τ.st p=3)):Bal s τ:=
 ⟨fun p q hp hq=>by rw [u.e4,u.b,u.w,u.a,u.e3];exact h.le p q hp hq,fun p q hp hq z=>by rw [u.e4,u.b,u.w,u.a,u.e3];exact h.eq p q hp hq (s1 p hp z),fun p q hp hq z=>by rw [u.e4,u.b] at z;exact(s3 q hq).1 (h.dead p q hp hq z),fun p q hp hq z=>by rw [u.w];exact h.wz p q hp hq ((s3 q hq).2 z)⟩
theorem Un.send (hl:σ.ld (li s a b) <= (σ.sn (li s a b)).length) (h2:x.kW ≠ 2) (h5:x.kW ≠ 5):Un s σ (Proofs.YtcnahmgekicbdaaGreat.send s a b x σ):=by
 refine⟨fun p q=>?_,fun p q=>?_,fun p q=>rfl,fun p q=>rfl,fun p q=>rfl⟩
 ·unfold asks;rw [Zdk hl,YD (fun z=>h2 z.1)];split <;> rfl
 ·unfold bb;rw [Zdk hl,YD (fun z=>h5 z.1)];show kc 5 p q (σ.be (pl s p)) + _=_;split <;> rfl
theorem Un.drop (hl:σ.ld i < (σ.sn i).length) (h2:(hd σ i).kW ≠ 2) (h5:(hd σ i).kW ≠ 5):Un s σ (drop1 i σ):=by
 refine⟨fun p q=>?_,fun p q=>?_,fun p q=>rfl,fun p q=>rfl,fun p q=>rfl⟩
 ·have:=Zdl (k:=2) (p:=p) (q:=q) hl (li s (pl s p) (pl s q));rw [YD (fun z=>h2 z.1)] at this;unfold asks;rw [this];split <;> rfl
 ·have:=Zdl (k:=5) (p:=p) (q:=q) hl (li s (pl s q) (pl s p));rw [YD (fun z=>h5 z.1)] at this;unfold bb;rw [this];show kc 5 p q (σ.be (pl s p)) + _=_;split <;> rfl
theorem Un.tell (d' p' q' n:Int) (h3:d' ≠ 3) (h4:d' ≠ 4):Un s σ (Proofs.YtcnahmgekicbdaaGreat.tell d' p' q' n σ):=
 ⟨fun _ _=>rfl,fun _ _=>rfl,fun _ _=>rfl,fun p q=>by rw [Zfi,YD (fun z=>h3 z.1)];rfl,fun p q=>by rw [Zfi,YD (fun z=>h4 z.1)];rfl⟩
theorem Un.see (p q:Nat) (n:Int):Un s σ (Proofs.YtcnahmgekicbdaaGreat.see p q n σ):=by
 unfold Proofs.YtcnahmgekicbdaaGreat.see;split
 ·exact Un.tell _ _ _ _ (by decide) (by decide)
 ·exact⟨fun _ _=>rfl,fun _ _=>rfl,fun _ _=>rfl,fun _ _=>rfl,fun _ _=>rfl⟩
theorem ZtA (hS:Xk s) (hl:∀ i,σ.ld i <= (σ.sn i).length) (hp0:p0 < nn s) (hq0:q0 < nn s) (hp:p < nn s) (hq:q < nn s):
 bb s (YP s p0 q0 σ) p q=bb s σ p q + one (p0=p∧q0=q)∧asks s (YP s p0 q0 σ) p q=asks s σ p q:=by
 unfold YP;by_cases e:pl s p0=pl s q0
 ·rw [if_pos e];refine⟨?_,rfl⟩;unfold bb;show kc 5 p q (Z0 σ.be (pl s p0) (σ.be (pl s p0) ++ [_]) (pl s p)) + kc 5 p q (fl σ (li s (pl s q) (pl s p)))=_;by_cases e2:pl s p=pl s p0
  ·rw [e2,Zq,Zf2,Zdm,ZlX,Nat.zero_add];by_cases c:p0=p∧q0=q
   ·rw [Jb c,Jb ⟨rfl,by show((p0:Int))=p;omega,by show((q0:Int))=q;omega⟩];omega
   ·rw [YD c,YD (fun z=>c ⟨by have:((p0:Int))=p:=z.2.1;omega,by have:((q0:Int))=q:=z.2.2;omega⟩)];omega
  ·rw [Zz e2,YD (fun z=>e2 (by rw [z.1]))];omega
 ·rw [if_neg e];refine⟨?_,?_⟩
  ·unfold bb;rw [Zdk (hl _)];show kc 5 p q (σ.be (pl s p)) + (_ + _)=_;by_cases c:p0=p∧q0=q
   ·obtain⟨rfl,rfl⟩:=c;rw [if_pos rfl,Jb ⟨rfl,rfl,rfl⟩,Jb ⟨rfl,rfl⟩];omega
   ·rw [YD c,YD (fun z=>c ⟨by have:((p0:Int))=p:=z.2.1;omega,by have:((q0:Int))=q:=z.2.2;omega⟩)];split <;> omega
  ·unfold asks;rw [Zdk (hl _),YD (fun z=>by have:(5:Int)=2:=z.1;omega)];split <;> rfl
theorem Ztz (hl:∀ i,σ.ld i <= (σ.sn i).length) (p q:Nat):∀ i,(YP s p q σ).ld i <= ((YP s p q σ).sn i).length:=fun i=>by
 rw [(Zdw (s:=s) p q σ).2.2.2.1];exact Nat.le_trans (hl i) (SnM.YP p q i)
theorem ZzS (hS:Xk s) (hq0:q0 < nn s) (hp:p < nn s) (hq:q < nn s):∀ (l:List Int) (σ:TS),(∀ i,σ.ld i <= (σ.sn i).length) ->(∀ x ∈ l,∃ k:Nat,x= (k:Int)∧k < nn s) ->
 bb s (Zr s q0 l σ) p q=bb s σ p q + (if q0=q then l.count (p:Int) else 0)∧asks s (Zr s q0 l σ) p q=asks s σ p q:=by
 intro l
 induction l with
 | nil=>intro σ _ _;exact⟨by show bb s σ p q=_;split <;> rfl,rfl⟩
 | cons x l ih=>
   intro σ hl hx;obtain⟨k,rfl,hk⟩:=hx x (by simp);have h1:=ih (YP s k q0 σ) (Ztz hl k q0) fun y hy=>hx y (by simp [hy])
   have h2:=ZtA (p:=p) (q:=q) hS hl hk hq0 hp hq;show bb s (Zr s q0 l (YP s ((k:Int)).toNat q0 σ)) p q=_∧asks s (Zr s q0 l (YP s ((k:Int)).toNat q0 σ)) p q=_;rw [Int.toNat_natCast,h1.1,h1.2,h2.1,h2.2];refine⟨?_,rfl⟩;rw [List.count_cons];by_cases e:q0=q
   ·rw [if_pos e,if_pos e];by_cases c:k=p
    ·rw [Jb ⟨c,e⟩,if_pos (by simp [c])];omega
    ·rw [YD (fun z=>c z.1),if_neg (by simp;omega)];omega
   ·rw [if_neg e,if_neg e,YD (fun z=>e z.2)]
theorem ZsA (hS:Xk s) (hl:∀ i,σ.ld i <= (σ.sn i).length) (hp0:p0 < nn s) (hq0:q0 < nn s) (hp:p < nn s) (hq:q < nn s):
 asks s (note s p0 q0 σ) p q=asks s σ p q∧(σ.st q0=3 ->bb s (note s p0 q0 σ) p q=bb s σ p q + one (p0=p∧q0=q)∧wat (note s p0 q0 σ) p q=wat σ p q)∧
 (σ.st q0 ≠ 3 ->bb s (note s p0 q0 σ) p q=bb s σ p q∧wat (note s p0 q0 σ) p q=wat σ p q + one (p0=p∧q0=q)):=by
 unfold note;by_cases e:σ.st q0=3
 ·rw [if_pos e];have h:=ZtA (p:=p) (q:=q) hS hl hp0 hq0 hp hq;exact⟨h.2,fun _=>⟨h.1,ZpW (Zdw (s:=s) p0 q0 σ).2.2.2.2.2.2⟩,fun z=>absurd e z⟩
 ·rw [if_neg e];refine⟨rfl,fun z=>absurd z e,fun _=>⟨rfl,?_⟩⟩;unfold wat;show(Z0 σ.wa q0 (σ.wa q0 ++ [(p0:Int)]) q).count (p:Int)=_;by_cases c:q=q0
  ·subst c;rw [Zq,List.count_append,List.count_singleton];by_cases c2:p0=p
   ·rw [Jb ⟨c2,rfl⟩,if_pos (by simp [c2])]
   ·rw [YD (fun z=>c2 z.1),if_neg (by simp;omega)]
  ·rw [Zz c,YD (fun z=>c z.2.symm)];rfl
end
end
section
def P3 (s:Zb) (σ:TS):Prop:=∀ w,w < mm s ->∀ x ∈ σ.be w,∃ p:Nat,x.kV= (p:Int)∧p < nn s∧pl s p=w
section
variable {s:Zb} {σ τ υ:TS} {F B a b p q w i j n d r p0 q0:Nat} {x:Zd} {k:Int}
theorem P3.congr (h:P3 s σ) (e:τ.be=σ.be):P3 s τ:=fun w hw x hx=>h w hw x (by rwa [e] at hx)
theorem P3.wait (h:P3 s σ) (hx:x.kV= (p:Int)) (hp:p < nn s) (hm:pl s p=a):P3 s (Proofs.YtcnahmgekicbdaaGreat.wait a x σ):=fun w hw y hy=>by
 have hy:y ∈ Z0 σ.be a (σ.be a ++ [x]) w:=hy;by_cases e:w=a
 ·subst e;rw [Zq] at hy;rcases List.mem_append.1 hy with hy | hy
  ·exact h w hw y hy
  ·rw [List.mem_singleton.1 hy];exact⟨p,hx,hp,hm⟩
 ·rw [Zz e] at hy;exact h w hw y hy
theorem P3.YP (h:P3 s σ) (hp:p < nn s) (q:Nat):P3 s (Proofs.YtcnahmgekicbdaaGreat.YP s p q σ):=by
 unfold Proofs.YtcnahmgekicbdaaGreat.YP;split
 ·exact h.wait rfl hp rfl
 ·exact h.congr rfl
theorem P3.note (h:P3 s σ) (hp:p < nn s) (q:Nat):P3 s (Proofs.YtcnahmgekicbdaaGreat.note s p q σ):=by
 unfold Proofs.YtcnahmgekicbdaaGreat.note;split
 ·exact h.YP hp q
 ·exact h.congr rfl
theorem P3.act (h1:P1 s σ) (h:P3 s σ) (ac:Act s σ τ):P3 s τ:=by
 cases ac with
 | fall=>exact h.congr rfl
 | Ux=>exact h.congr rfl
 | @die p hp h2 hA=>
   have hA:P3 s (ZM s p σ):=by
    have:P3 s (Zr s p (σ.wa p) (Jd p σ)):=QW _ (P3 s) (σ.wa p) (Jd p σ) (h.congr rfl) fun τ x hx hτ=>by
     obtain⟨k,rfl,hk⟩:=h1.ws p hp x hx;exact hτ.YP (by rw [Int.toNat_natCast];exact hk) p
    exact this.congr rfl
   unfold JU;split
   ·exact hA
   ·split
    ·exact hA.congr rfl
    ·exact hA.congr rfl
 | @Zbe p q=>exact h.congr (XT q p σ.sd (kK p q σ)).2.2.2.2.2.1
 | Zbd=>exact h.congr rfl
 | @Za9 p q hp=>exact(h.congr (τ:=tell 3 p q 0 σ) rfl).note hp q
 | Za8=>exact h.congr rfl
 | @Zbs a b p q=>exact(h.congr (τ:=drop1 (li s a b) σ) rfl).congr (XT _ _ _ _).2.2.2.2.2.1
 | @Zbu a b p q ha hb hl hk hp hq hpn UI=>exact(h.congr (τ:=drop1 (li s a b) σ) rfl).note hpn q
 | ZaM=>exact h.congr rfl
 | Zau=>exact h.congr rfl
 | @Zbt a b ha hb hl hk=>
   obtain⟨p,hp,hpn,_,c⟩:=h1.lets a b ha hb _ (ZcF hl);refine(h.congr (τ:=drop1 (li s a b) σ) rfl).wait hp hpn ?_;rcases c with⟨k,_⟩ | ⟨k,_⟩ | ⟨k,_⟩ | ⟨k,_⟩ | ⟨k,e,_⟩
   ·omega
   ·omega
   ·omega
   ·omega
   ·exact e
 | @ring w i hw hpk=>
   have e:=Qi s w i σ;intro v hv y hy;rw [e.1] at hy;by_cases z:v=w
   ·subst z;rw [Zq] at hy;exact h v hv y (ZcP hy)
   ·rw [Zz z] at hy;exact h v hv y hy
theorem Zlg {d:Int} (h:x.kW=d) (hp:x.kV= (p0:Int)) (hq:x.kX= (q0:Int)):one (x.kW=d∧x.kV= (p:Int)∧x.kX= (q:Int))=one (p0=p∧q0=q):=by
 rw [hp,hq];by_cases c:p0=p∧q0=q
 ·rw [Jb c,Jb ⟨h,by omega,by omega⟩]
 ·rw [YD c,YD (fun z=>c ⟨by have:=z.2.1;omega,by have:=z.2.2;omega⟩)]
theorem Zjp (n:Int):ec (tell k p0 q0 n σ) k p q=ec σ k p q + one (p0=p∧q0=q):=by
 rw [Zfi];congr 1;by_cases c:p0=p∧q0=q
 ·rw [Jb c,Jb ⟨rfl,by omega,by omega⟩]
 ·rw [YD c,YD (fun z=>c ⟨by have:=z.2.1;omega,by have:=z.2.2;omega⟩)]
theorem Zlc (d':Int) (n:Int) (h:d' ≠ k):ec (tell d' p0 q0 n σ) k p q=ec σ k p q:=by
 rw [Zfi,YD (fun z=>h z.1)];rfl
theorem Un.of (h1:τ.sn=σ.sn) (h2:τ.ld=σ.ld) (h3:τ.be=σ.be) (h4:τ.wa=σ.wa) (h5:τ.ev=σ.ev):Un s σ τ:=
 ⟨fun _ _=>ZtD h1 h2,fun _ _=>ZPS h1 h2 h3,fun _ _=>ZpW h4,fun _ _=>Zld h5,fun _ _=>Zld h5⟩
theorem Bal.ZM (hS:Xk s) (h1:P1 s σ) (h2:P2 s σ) (h:Bal s σ) (hp0:p0 < nn s):Bal s (Proofs.YtcnahmgekicbdaaGreat.ZM s p0 σ):=by
 have sA:=Qj (s:=s) p0 σ
 have bA:∀ p q,p < nn s ->q < nn s ->bb s (Proofs.YtcnahmgekicbdaaGreat.ZM s p0 σ) p q=bb s σ p q + (if p0=q then(σ.wa p0).count (p:Int) else 0)∧asks s (Proofs.YtcnahmgekicbdaaGreat.ZM s p0 σ) p q=asks s σ p q:=fun p q hp hq=>
  ZzS hS hp0 hp hq (σ.wa p0) (Jd p0 σ) h2.ld (h1.ws p0 hp0)
 have wA:∀ p q,wat (Proofs.YtcnahmgekicbdaaGreat.ZM s p0 σ) p q=if p0=q then 0 else wat σ p q:=fun p q=>by
  unfold wat;rw [sA.2.2.2.2.2];by_cases e:p0=q
  ·subst e;rw [Zq,if_pos rfl];rfl
  ·rw [Zz (fun z=>e z.symm),if_neg e]
 have e3:∀ p q,ec (Proofs.YtcnahmgekicbdaaGreat.ZM s p0 σ) 3 p q=ec σ 3 p q:=fun p q=>by rw [Zzy sA.2.2.2.2.1,YD (fun z=>by have:(6:Int)=3:=z.1;omega)];rfl
 have e4:∀ p q,ec (Proofs.YtcnahmgekicbdaaGreat.ZM s p0 σ) 4 p q=ec σ 4 p q:=fun p q=>by rw [Zzy sA.2.2.2.2.1,YD (fun z=>by have:(6:Int)=4:=z.1;omega)];rfl
 have tot:∀ p q,p < nn s ->q < nn s ->ec (Proofs.YtcnahmgekicbdaaGreat.ZM s p0 σ) 4 p q + bb s (Proofs.YtcnahmgekicbdaaGreat.ZM s p0 σ) p q + wat (Proofs.YtcnahmgekicbdaaGreat.ZM s p0 σ) p q + asks s (Proofs.YtcnahmgekicbdaaGreat.ZM s p0 σ) p q=ec σ 4 p q + bb s σ p q + wat σ p q + asks s σ p q:=fun p q hp hq=>by
  obtain⟨b1,b2⟩:=bA p q hp hq;rw [b1,b2,wA,e4];by_cases e:p0=q
  ·rw [if_pos e,if_pos e,e];unfold wat;omega
  ·rw [if_neg e,if_neg e];omega
 refine⟨fun p q hp hq=>by rw [tot p q hp hq,e3];exact h.le p q hp hq,fun p q hp hq z=>?_,fun p q hp hq z=>?_,fun p q hp hq z=>?_⟩
 ·rw [tot p q hp hq,e3];rw [sA.1] at z;refine h.eq p q hp hq ?_;by_cases e:p=p0
  ·subst e;rw [Zq] at z;omega
  ·rwa [Zz e] at z
 ·rw [sA.1];by_cases e:q=p0
  ·subst e;rw [Zq]
  ·rw [Zz e];rw [e4,(bA p q hp hq).1,if_neg (fun z=>e z.symm)] at z;exact h.dead p q hp hq z
 ·rw [wA];by_cases e:p0=q
  ·rw [if_pos e]
  ·rw [if_neg e];rw [sA.1,Zz (fun z=>e z.symm)] at z;exact h.wz p q hp hq z
theorem Bal.act (hS:Xk s) (h1:P1 s σ) (h2:P2 s σ) (h3:P3 s σ) (h:Bal s σ) (ac:Act s σ τ):Bal s τ:=by
 have id1:∀ (ρ:TS),ρ.st=σ.st ->∀ p,p < nn s ->ρ.st p=1 ->σ.st p=1:=fun ρ e p _ z=>by rwa [e] at z
 have id3:∀ (ρ:TS),ρ.st=σ.st ->∀ p,p < nn s ->(σ.st p=3↔ρ.st p=3):=fun ρ e p _=>by rw [e]
 cases ac with
 | @fall p0 hp0 hst=>
   refine h.un ((Un.of (s:=s) (σ:=σ) (τ:= {σ with st:=Z0 σ.st p0 2}) rfl rfl rfl rfl rfl).trans (Un.tell (σ:= {σ with st:=Z0 σ.st p0 2}) 5 p0 0 0 (by decide) (by decide))) (fun p _ z=>?_) (fun p _=>?_)
   ·have z:Z0 σ.st p0 2 p=1:=z;by_cases e:p=p0
    ·subst e;exact hst
    ·rwa [Zz e] at z
   ·show _↔Z0 σ.st p0 2 p=3;by_cases e:p=p0
    ·subst e;rw [Zq,hst];decide
    ·rw [Zz e]
 | Ux=>exact h.un (Un.send (h2.ld _) (show(3:Int) ≠ 2 by decide) (show(3:Int) ≠ 5 by decide)) (id1 _ rfl) (id3 _ rfl)
 | @die p0 hp0 hst hA=>
   have hB:=Bal.ZM hS h1 h2 h hp0;unfold JU;split
   ·exact hB
   ·split
    ·exact hB.un ⟨fun _ _=>rfl,fun _ _=>rfl,fun _ _=>rfl,fun _ _=>rfl,fun _ _=>rfl⟩ (fun _ _ z=>z) (fun _ _=>Iff.rfl)
    ·refine hB.un (Un.send ?_ (show(4:Int) ≠ 2 by decide) (show(4:Int) ≠ 5 by decide)) (fun _ _ z=>z) (fun _ _=>Iff.rfl);rw [(Qj (s:=s) p0 σ).2.2.1];exact Nat.le_trans (h2.ld _) (SnM.ZM p0 _)
 | @Zbe p0 q0 hp hq=>exact h.un (((Un.of (s:=s) (σ:=σ) (τ:= {σ with sd:=σ.sd + 1}) rfl rfl rfl rfl rfl).trans (Un.tell (σ:= {σ with sd:=σ.sd + 1}) 1 p0 q0 σ.sd (by decide) (by decide))).trans (Un.see q0 p0 σ.sd)) (id1 _ (XT q0 p0 σ.sd (kK p0 q0 σ)).1) (id3 _ (XT q0 p0 σ.sd (kK p0 q0 σ)).1)
 | @Zbd p0 q0 hp hq=>exact h.un (((Un.of (s:=s) (σ:=σ) (τ:= {σ with sd:=σ.sd + 1}) rfl rfl rfl rfl rfl).trans (Un.tell (σ:= {σ with sd:=σ.sd + 1}) 1 p0 q0 σ.sd (by decide) (by decide))).trans (Un.send (x:= ⟨1,p0,q0,σ.sd,[]⟩) (h2.ld _) (show(1:Int) ≠ 2 by decide) (show(1:Int) ≠ 5 by decide))) (id1 _ rfl) (id3 _ rfl)
 | @Za9 p0 q0 hp0 hq0 hst e0=>
   have e:=Xf (s:=s) p0 q0 (tell 3 p0 q0 0 σ);have e3:∀ p q,ec (note s p0 q0 (tell 3 p0 q0 0 σ)) 3 p q=ec σ 3 p q + one (p0=p∧q0=q):=fun p q=>by rw [Zld e.2.2.2.2.2,Zjp]
   have e4:∀ p q,ec (note s p0 q0 (tell 3 p0 q0 0 σ)) 4 p q=ec σ 4 p q:=fun p q=>by rw [Zld e.2.2.2.2.2,Zlc _ _ (by decide)]
   have nt:=fun p q hp hq=>ZsA (p:=p) (q:=q) (σ:=tell 3 p0 q0 0 σ) hS h2.ld hp0 hq0 hp hq
   have ta:∀ p q,asks s (tell 3 p0 q0 0 σ) p q=asks s σ p q:=fun _ _=>rfl
   have tb:∀ p q,bb s (tell 3 p0 q0 0 σ) p q=bb s σ p q:=fun _ _=>rfl
   have tw:∀ p q,wat (tell 3 p0 q0 0 σ) p q=wat σ p q:=fun _ _=>rfl
   have ts:(tell 3 p0 q0 0 σ).st q0=σ.st q0:=rfl;refine⟨fun p q hp hq=>?_,fun p q hp hq z=>?_,fun p q hp hq z=>?_,fun p q hp hq z=>?_⟩
   ·have l:=h.le p q hp hq;obtain⟨n1,n2,n3⟩:=nt p q hp hq;rw [e3,e4,n1,ta];by_cases c:σ.st q0=3
    ·obtain⟨m1,m2⟩:=n2 c;rw [m1,m2,tb,tw];omega
    ·obtain⟨m1,m2⟩:=n3 c;rw [m1,m2,tb,tw];omega
   ·rw [e.1] at z;have l:=h.eq p q hp hq z;obtain⟨n1,n2,n3⟩:=nt p q hp hq;rw [e3,e4,n1,ta];by_cases c:σ.st q0=3
    ·obtain⟨m1,m2⟩:=n2 c;rw [m1,m2,tb,tw];omega
    ·obtain⟨m1,m2⟩:=n3 c;rw [m1,m2,tb,tw];omega
   ·rw [e.1];obtain⟨n1,n2,n3⟩:=nt p q hp hq;rw [e4] at z;by_cases c:σ.st q0=3
    ·obtain⟨m1,m2⟩:=n2 c;rw [m1,tb] at z;by_cases cc:p0=p∧q0=q
     ·rw [← cc.2];exact c
     ·rw [YD cc] at z;exact h.dead p q hp hq z
    ·obtain⟨m1,m2⟩:=n3 c;rw [m1,tb] at z;exact h.dead p q hp hq z
   ·rw [e.1] at z;obtain⟨n1,n2,n3⟩:=nt p q hp hq;have l:=h.wz p q hp hq z;by_cases c:σ.st q0=3
    ·obtain⟨m1,m2⟩:=n2 c;rw [m2,tw];exact l
    ·obtain⟨m1,m2⟩:=n3 c;rw [m2,tw,l,YD (fun cc=>c (by rw [cc.2];exact z))]
 | @Za8 p0 q0 hp0 hq0 hst e0=>
   have e3:∀ p q,ec (send s (pl s p0) (pl s q0) ⟨2,p0,q0,0,[]⟩ (tell 3 p0 q0 0 σ)) 3 p q=ec σ 3 p q + one (p0=p∧q0=q):=fun p q=>Zjp 0
   have e4:∀ p q,ec (send s (pl s p0) (pl s q0) ⟨2,p0,q0,0,[]⟩ (tell 3 p0 q0 0 σ)) 4 p q=ec σ 4 p q:=fun p q=>Zlc _ _ (by decide)
   have ea:∀ p q,asks s (send s (pl s p0) (pl s q0) ⟨2,p0,q0,0,[]⟩ (tell 3 p0 q0 0 σ)) p q=asks s σ p q + one (p0=p∧q0=q):=fun p q=>by
    unfold asks;rw [Zdk (σ:=tell 3 p0 q0 0 σ) (h2.ld _),Zlg (x:= ⟨2,p0,q0,0,[]⟩) (d:=2) (p0:=p0) (q0:=q0) rfl rfl rfl];by_cases c:p0=p∧q0=q
    ·rw [if_pos (by rw [c.1,c.2])];rfl
    ·rw [YD c];split <;> rfl
   have eb:∀ p q,bb s (send s (pl s p0) (pl s q0) ⟨2,p0,q0,0,[]⟩ (tell 3 p0 q0 0 σ)) p q=bb s σ p q:=fun p q=>by
    unfold bb;rw [Zdk (σ:=tell 3 p0 q0 0 σ) (h2.ld _),YD (fun z=>by have:(2:Int)=5:=z.1;omega)];show kc 5 p q (σ.be (pl s p)) + _=_;split <;> rfl
   have ew:∀ p q,wat (send s (pl s p0) (pl s q0) ⟨2,p0,q0,0,[]⟩ (tell 3 p0 q0 0 σ)) p q=wat σ p q:=fun p q=>rfl
   refine⟨fun p q hp hq=>?_,fun p q hp hq z=>?_,fun p q hp hq z=>?_,fun p q hp hq z=>?_⟩
   ·have l:=h.le p q hp hq;rw [e3,e4,ea,eb,ew];omega
   ·have l:=h.eq p q hp hq z;rw [e3,e4,ea,eb,ew];omega
   ·rw [e4,eb] at z;exact h.dead p q hp hq z
   ·rw [ew];exact h.wz p q hp hq z
 | @Zbs a b p0 q0 ha hb hl hk hp hq hpn UI=>exact h.un ((Un.drop hl (by omega) (by omega)).trans (Un.see q0 p0 _)) (id1 _ (XT q0 p0 (hd σ (li s a b)).n (drop1 (li s a b) σ)).1) (id3 _ (XT q0 p0 (hd σ (li s a b)).n (drop1 (li s a b) σ)).1)
 | @Zbu a b p0 q0 ha hb hl hk hpe hqe hp0 hq0=>
   have e:=Xf (s:=s) p0 q0 (drop1 (li s a b) σ);have hlet:=h1.lets a b ha hb _ (ZcF hl)
   have hpq:pl s p0=a∧pl s q0=b:=by
    obtain⟨p',hp',_,_,c⟩:=hlet;have:p'=p0:=by omega
    subst this;rcases c with⟨k,_⟩ | ⟨k,e1,q',hq',_,e2⟩ | ⟨k,_⟩ | ⟨k,_⟩ | ⟨k,_⟩
    ·omega
    ·have:q'=q0:=by omega
     subst this;exact⟨e1,e2⟩
    ·omega
    ·omega
    ·omega
   have hd2:∀ i,(drop1 (li s a b) σ).ld i <= ((drop1 (li s a b) σ).sn i).length:= (h2.drop hl).ld;have e3:∀ p q,ec (note s p0 q0 (drop1 (li s a b) σ)) 3 p q=ec σ 3 p q:=fun p q=>by rw [Zld e.2.2.2.2.2];rfl
   have e4:∀ p q,ec (note s p0 q0 (drop1 (li s a b) σ)) 4 p q=ec σ 4 p q:=fun p q=>by rw [Zld e.2.2.2.2.2];rfl
   have nt:=fun p q hp hq=>ZsA (p:=p) (q:=q) (σ:=drop1 (li s a b) σ) hS hd2 hp0 hq0 hp hq
   have ta:∀ p q,asks s σ p q=asks s (drop1 (li s a b) σ) p q + one (p0=p∧q0=q):=fun p q=>by
    have:=Zdl (k:=2) (p:=p) (q:=q) hl (li s (pl s p) (pl s q));rw [Zlg (d:=2) (p0:=p0) (q0:=q0) hk hpe hqe] at this;unfold asks;rw [this];by_cases c:p0=p∧q0=q
    ·rw [if_pos (by rw [← c.1,← c.2,hpq.1,hpq.2])]
    ·rw [YD c];split <;> rfl
   have tb:∀ p q,bb s (drop1 (li s a b) σ) p q=bb s σ p q:=fun p q=>by
    have:=Zdl (k:=5) (p:=p) (q:=q) hl (li s (pl s q) (pl s p));rw [YD (fun z=>by have:=z.1;omega)] at this;unfold bb;rw [this];show kc 5 p q (σ.be (pl s p)) + _=_;split <;> rfl
   have tw:∀ p q,wat (drop1 (li s a b) σ) p q=wat σ p q:=fun _ _=>rfl
   have ts:(drop1 (li s a b) σ).st=σ.st:=rfl;refine⟨fun p q hp hq=>?_,fun p q hp hq z=>?_,fun p q hp hq z=>?_,fun p q hp hq z=>?_⟩
   ·have l:=h.le p q hp hq;obtain⟨n1,n2,n3⟩:=nt p q hp hq;rw [e3,e4,n1];rw [ta] at l;by_cases c:σ.st q0=3
    ·obtain⟨m1,m2⟩:=n2 c;rw [m1,m2,tb,tw];omega
    ·obtain⟨m1,m2⟩:=n3 c;rw [m1,m2,tb,tw];omega
   ·rw [e.1] at z;have l:=h.eq p q hp hq z;obtain⟨n1,n2,n3⟩:=nt p q hp hq;rw [e3,e4,n1];rw [ta] at l;by_cases c:σ.st q0=3
    ·obtain⟨m1,m2⟩:=n2 c;rw [m1,m2,tb,tw];omega
    ·obtain⟨m1,m2⟩:=n3 c;rw [m1,m2,tb,tw];omega
   ·rw [e.1];obtain⟨n1,n2,n3⟩:=nt p q hp hq;rw [e4] at z;by_cases c:σ.st q0=3
    ·obtain⟨m1,m2⟩:=n2 c;rw [m1,tb] at z;by_cases cc:p0=p∧q0=q
     ·rw [← cc.2];exact c
     ·rw [YD cc] at z;exact h.dead p q hp hq z
    ·obtain⟨m1,m2⟩:=n3 c;rw [m1,tb] at z;exact h.dead p q hp hq z
   ·rw [e.1] at z;obtain⟨n1,n2,n3⟩:=nt p q hp hq;have l:=h.wz p q hp hq z;by_cases c:σ.st q0=3
    ·obtain⟨m1,m2⟩:=n2 c;rw [m2,tw];exact l
    ·obtain⟨m1,m2⟩:=n3 c;rw [m2,tw,l,YD (fun cc=>c (by rw [cc.2];exact z))]
 | ZaM ha hb hl hk=>exact h.un (Un.drop hl (by omega) (by omega)) (id1 _ rfl) (id3 _ rfl)
 | Zau ha hb hl hk=>exact h.un ((Un.drop hl (by omega) (by omega)).trans ⟨fun _ _=>rfl,fun _ _=>rfl,fun _ _=>rfl,fun _ _=>rfl,fun _ _=>rfl⟩) (id1 _ rfl) (id3 _ rfl)
 | @Zbt a b ha hb hl hk=>
   obtain⟨p0,hpe,hp0,_,c⟩:=h1.lets a b ha hb _ (ZcF hl)
   obtain⟨q0,hqe,hq0,e1,e2⟩:∃ q0:Nat,(hd σ (li s a b)).kX= (q0:Int)∧q0 < nn s∧pl s p0=b∧pl s q0=a:=by
    rcases c with⟨k,_⟩ | ⟨k,_⟩ | ⟨k,_⟩ | ⟨k,_⟩ | ⟨k,e,_,q,h1,h2,h3⟩
    ·omega
    ·omega
    ·omega
    ·omega
    ·exact⟨q,h1,h2,e,h3⟩
   refine h.un ⟨fun p q=>?_,fun p q=>?_,fun _ _=>rfl,fun _ _=>rfl,fun _ _=>rfl⟩ (id1 _ rfl) (id3 _ rfl)
   ·have:=Zdl (k:=2) (p:=p) (q:=q) hl (li s (pl s p) (pl s q));rw [YD (fun z=>by have:=z.1;omega)] at this;show asks s (drop1 (li s a b) σ) p q=_;unfold asks;rw [this];split <;> rfl
   ·have:=Zdl (k:=5) (p:=p) (q:=q) hl (li s (pl s q) (pl s p));rw [Zlg (d:=5) (p0:=p0) (q0:=q0) hk hpe hqe] at this;unfold bb;rw [this];show kc 5 p q (Z0 σ.be b (σ.be b ++ [hd σ (li s a b)]) (pl s p)) + kc 5 p q (fl (drop1 (li s a b) σ) (li s (pl s q) (pl s p)))=_;by_cases c:p0=p∧q0=q
    ·rw [if_pos (by rw [← c.1,← c.2,e1,e2]),show pl s p=b by rw [← c.1,e1],Zq,Zf2,Zdm,ZlX,Zlg (d:=5) (p0:=p0) (q0:=q0) hk hpe hqe];omega
    ·rw [YD c]
     have:kc 5 p q (Z0 σ.be b (σ.be b ++ [hd σ (li s a b)]) (pl s p))=kc 5 p q (σ.be (pl s p)):=by
      by_cases z:pl s p=b
      ·rw [z,Zq,Zf2,Zdm,ZlX,Zlg (d:=5) (p0:=p0) (q0:=q0) hk hpe hqe,YD c];rfl
      ·rw [Zz z]
     rw [this];split <;> omega
 | @ring w i hw hpk=>
   have e:=Qi s w i σ;have hi:i < (σ.be w).length:=Zbl _ _ hpk;obtain⟨x,hx⟩:∃ x,x= (σ.be w).getD i default:= ⟨_,rfl⟩
   have hm:x ∈ σ.be w:=by rw [hx];exact XK hi
   obtain⟨p0,hpe,hp0,hpw⟩:=h3 w hw x hm;obtain⟨⟨_,⟨q0,hqe,hq0⟩,_⟩,hk⟩:=h1.bea w hw x hm;have ea:∀ p q,asks s (rung s w i σ) p q=asks s σ p q:=fun p q=>ZtD e.2.2.2.2.2.1 e.2.1
   have ew:∀ p q,wat (rung s w i σ) p q=wat σ p q:=fun p q=>ZpW e.2.2.2.2.2.2.1
   have eb:∀ p q,bb s σ p q=bb s (rung s w i σ) p q + one (p0=p∧q0=q):=fun p q=>by
    have hc:=ZxJ (k:=5) (p:=p) (q:=q) hi;rw [← hx,Zlg (d:=5) (p0:=p0) (q0:=q0) hk hpe hqe] at hc;have hf:fl (rung s w i σ)=fl σ:=by unfold fl;rw [e.2.1,e.2.2.2.2.2.1]
    unfold bb;rw [hf,e.1];by_cases z:pl s p=w
    ·rw [z,Zq,hc];omega
    ·rw [Zz z,YD (fun c=>z (by rw [← c.1];exact hpw))];omega
   have e3:∀ p q,ec (rung s w i σ) 3 p q=ec σ 3 p q:=fun p q=>by
    unfold rung;split
    ·rw [Zfi,YD (fun z=>by have:=z.1;omega)];rfl
    ·rfl
   have e4:∀ p q,ec (rung s w i σ) 4 p q=ec σ 4 p q + (if σ.st p0=1 then one (p0=p∧q0=q) else 0):=fun p q=>by
    unfold rung;rw [← hx,hpe,Int.toNat_natCast];split
    ·rw [hqe,Zjp];rfl
    ·rfl
   refine⟨fun p q hp hq=>?_,fun p q hp hq z=>?_,fun p q hp hq z=>?_,fun p q hp hq z=>?_⟩
   ·have l:=h.le p q hp hq;rw [eb] at l;rw [e3,e4,ea,ew];split <;> omega
   ·rw [e.2.2.1] at z;have l:=h.eq p q hp hq z;rw [eb] at l;rw [e3,e4,ea,ew];by_cases c:p0=p∧q0=q
    ·rw [if_pos (by rw [c.1];exact z)];omega
    ·rw [YD c] at l ⊢;split <;> omega
   ·rw [e.2.2.1];refine h.dead p q hp hq ?_;rw [eb];rw [e4] at z;split at z <;> omega
   ·rw [ew];rw [e.2.2.1] at z;exact h.wz p q hp hq z
end
end
section
structure MB (s:Zb) (σ:TS):Prop where
 ma:∀ p i,i < mm s * mm s ->σ.ma p i <= ((σ.sn i).length:Int)
 le:∀ j,∀ x ∈ σ.sn j,∀ i,i < mm s * mm s ->x.qX.getD i 0 <= ((σ.sn i).length:Int)
 be:∀ m,∀ x ∈ σ.be m,∀ i,i < mm s * mm s ->x.qX.getD i 0 <= ((σ.sn i).length:Int)
def NoR (s:Zb) (σ:TS):Prop:=∀ w,w < mm s ->Jg s σ.ld w (σ.be w) (σ.be w).length=none
section
variable {s:Zb} {σ τ υ:TS} {F B a b p q w i j n d r p0 q0:Nat} {x:Zd} {k:Int} {l:List ZE} {picks:List Int}
def MX (s:Zb) (σ:TS) (x:Zd):Prop:=∀ i,i < mm s * mm s ->x.qX.getD i 0 <= ((σ.sn i).length:Int)
theorem MB.congr (h:MB s σ) (h1:τ.sn=σ.sn) (h2:τ.be=σ.be) (h3:τ.ma=σ.ma):MB s τ:= ⟨by rw [h1,h3];exact h.ma,by rw [h1];exact h.le,by rw [h1,h2];exact h.be⟩
theorem MB.send (h:MB s σ) (hx:MX s σ x):MB s (Proofs.YtcnahmgekicbdaaGreat.send s a b x σ):=by
 have up:∀ i,(σ.sn i).length <= ((Proofs.YtcnahmgekicbdaaGreat.send s a b x σ).sn i).length:=SnM.send x;refine⟨fun p i hi=>Int.le_trans (h.ma p i hi) (by have:=up i;omega),fun j y hy i hi=>?_,fun m y hy i hi=>Int.le_trans (h.be m y hy i hi) (by have:=up i;omega)⟩;refine Int.le_trans ?_ (Int.ofNat_le.2 (up i));by_cases e:j=li s a b
 ·subst e;rw [Zc5] at hy;rcases List.mem_append.1 hy with hy | hy
  ·exact h.le _ y hy i hi
  ·rw [List.mem_singleton.1 hy];exact hx i hi
 ·rw [JI e] at hy;exact h.le _ y hy i hi
theorem MB.wait (h:MB s σ) (hx:MX s σ x):MB s (Proofs.YtcnahmgekicbdaaGreat.wait a x σ):=by
 refine⟨h.ma,h.le,fun m y hy i hi=>?_⟩;have hy:y ∈ Z0 σ.be a (σ.be a ++ [x]) m:=hy;by_cases e:m=a
 ·subst e;rw [Zq] at hy;rcases List.mem_append.1 hy with hy | hy
  ·exact h.be _ y hy i hi
  ·rw [List.mem_singleton.1 hy];exact hx i hi
 ·rw [Zz e] at hy;exact h.be _ y hy i hi
theorem Zdi (hi:i < mm s * mm s):(UH s σ p).getD i 0=σ.ma p i:=by
 unfold UH;have:=Yx (f:=σ.ma p) hi;rw [QD 0 (by rw [Qh];exact hi)] at this;exact Oi0 this
theorem MB.UH (h:MB s σ) (d p q n:Int) (p':Nat):MX s σ ⟨d,p,q,n,Proofs.YtcnahmgekicbdaaGreat.UH s σ p'⟩:=fun i hi=>by
 show(Proofs.YtcnahmgekicbdaaGreat.UH s σ p').getD i 0 <=_;rw [Zdi hi];exact h.ma p' i hi
theorem MX.nil (d p q n:Int):MX s σ ⟨d,p,q,n,[]⟩:=fun i hi=>by show(0:Int) <=_;omega
theorem MB.YP (h:MB s σ) (p q:Nat):MB s (Proofs.YtcnahmgekicbdaaGreat.YP s p q σ):=by
 unfold Proofs.YtcnahmgekicbdaaGreat.YP;split
 ·exact h.wait (h.UH _ _ _ _ _)
 ·exact h.send (h.UH _ _ _ _ _)
theorem MB.note (h:MB s σ) (p q:Nat):MB s (Proofs.YtcnahmgekicbdaaGreat.note s p q σ):=by
 unfold Proofs.YtcnahmgekicbdaaGreat.note;split
 ·exact h.YP _ _
 ·exact h.congr rfl rfl rfl
theorem MB.see (h:MB s σ) (p q:Nat) (n:Int):MB s (Proofs.YtcnahmgekicbdaaGreat.see p q n σ):=by
 have e:=XT p q n σ;exact h.congr e.2.2.2.2.1 e.2.2.2.2.2.1 e.2.2.1
theorem MB.ZM (h:MB s σ) (p:Nat):MB s (Proofs.YtcnahmgekicbdaaGreat.ZM s p σ):=by
 have h1:MB s (Zr s p (σ.wa p) (Jd p σ)):=QW _ (MB s) (σ.wa p) (Jd p σ) (h.congr rfl rfl rfl) fun τ x _ hτ=>hτ.YP _ _
 refine⟨fun p' i hi=>?_,h1.le,h1.be⟩;show Z0 (Zr s p (σ.wa p) (Jd p σ)).ma p (ZdJ s (Zr s p (σ.wa p) (Jd p σ)) p (mm s)) p' i <=_;by_cases e:p'=p
 ·subst e;rw [Zq];unfold ZdJ;split
  ·exact Int.le_refl _
  ·exact h1.ma _ i hi
 ·rw [Zz e];exact h1.ma _ i hi
theorem MB.learn (h:MB s σ) {l:List Int} (hl:∀ i,i < mm s * mm s ->l.getD i 0 <= ((σ.sn i).length:Int)) (p:Nat):MB s (Yb s p l σ):=by
 refine⟨fun p' i hi=>?_,h.le,h.be⟩;show Z0 σ.ma (inn s (p:Int)).toNat (mx (σ.ma (inn s (p:Int)).toNat) l) p' i <= ((σ.sn i).length:Int);by_cases e:p'= (inn s (p:Int)).toNat
 ·rw [e,Zq];have h1:=h.ma (inn s (p:Int)).toNat i hi;have h2:=hl i hi;unfold mx;split <;> omega
 ·rw [Zz e];exact h.ma _ i hi
theorem MB.act (h:MB s σ) (ac:Act s σ τ):MB s τ:=by
 cases ac with
 | fall=>exact h.congr rfl rfl rfl
 | Ux=>exact h.send (MX.nil _ _ _ _)
 | @die p hp h2 hA=>
   have hA:=h.ZM p;unfold JU;split
   ·exact hA
   ·split
    ·exact hA.learn (fun i hi=>by rw [Zdi hi];exact hA.ma p i hi) p
    ·exact hA.send (hA.UH _ _ _ _ _)
 | @Zbe p q=>exact(h.congr (τ:=kK p q σ) rfl rfl rfl).see _ _ _
 | @Zbd p q=>exact(h.congr (τ:=kK p q σ) rfl rfl rfl).send (MX.nil _ _ _ _)
 | @Za9 p q hp=>exact(h.congr (τ:=tell 3 p q 0 σ) rfl rfl rfl).note _ _
 | @Za8 p q=>exact(h.congr (τ:=tell 3 p q 0 σ) rfl rfl rfl).send (MX.nil _ _ _ _)
 | @Zbs a b p q=>exact(h.congr (τ:=drop1 (li s a b) σ) rfl rfl rfl).see _ _ _
 | @Zbu a b p q=>exact(h.congr (τ:=drop1 (li s a b) σ) rfl rfl rfl).note _ _
 | ZaM=>exact h.congr rfl rfl rfl
 | @Zau a b p ha hb hl=>exact(h.congr (τ:=drop1 (li s a b) σ) rfl rfl rfl).learn (fun i hi=>h.le _ _ (ZcF hl) i hi) p
 | @Zbt a b ha hb hl=>exact(h.congr (τ:=drop1 (li s a b) σ) rfl rfl rfl).wait (fun i hi=>h.le _ _ (ZcF hl) i hi)
 | @ring w i hw hpk=>
   have e:=Qi s w i σ;refine⟨by rw [e.2.2.2.2.1,e.2.2.2.2.2.1];exact h.ma,by rw [e.2.2.2.2.2.1];exact h.le,fun m y hy j hj=>?_⟩;rw [e.2.2.2.2.2.1];rw [e.1] at hy;by_cases z:m=w
   ·subst z;rw [Zq] at hy;exact h.be _ y (ZcP hy) j hj
   ·rw [Zz z] at hy;exact h.be _ y hy j hj
theorem ZwA (w:Nat):∀ (n:Nat) (σ:TS),∀ v,v ≠ w ->(Ue s w n σ).be v=σ.be v:=by
 intro n
 induction n with
 | zero=>intro σ v _;rfl
 | succ n ih=>
   intro σ v hv;rw [Ue];split
   ·rfl
   ·rw [ih _ v hv,(Qi _ _ _ _).1,Zz hv]
theorem Zqb (w:Nat):∀ (n:Nat) (σ:TS),(σ.be w).length <=n ->Jg s (Ue s w n σ).ld w ((Ue s w n σ).be w) ((Ue s w n σ).be w).length=none:=by
 intro n
 induction n with
 | zero=>intro σ h;show Jg s σ.ld w (σ.be w) (σ.be w).length=none;rw [List.length_eq_zero_iff.1 (Nat.le_zero.1 h)];rfl
 | succ n ih=>
   intro σ h;rw [Ue];split
   ·rename_i e;exact e
   ·rename_i i e;refine ih _ ?_;rw [(Qi _ _ _ _).1,Zq];have:=Zfl (Zbl _ _ e);omega
theorem Zqa:∀ k w,w < k ->Jg s (rings s k σ).ld w ((rings s k σ).be w) ((rings s k σ).be w).length=none:=by
 intro k
 induction k with
 | zero=>intro w hw;omega
 | succ k ih=>
   intro w hw;rw [rings];by_cases e:w=k
   ·subst e;exact Zqb _ _ _ (Nat.le_refl _)
   ·rw [ZwA _ _ _ w e,ZnX];exact ih w (by omega)
theorem ZnM (y:ZE):NoR s (stepW s y σ):=fun w hw=>Zqa (mm s) w hw
theorem Zoc:∀ k,NoR s (Xg s l k).1:=by
 intro k
 induction k with
 | zero=>intro w _;rfl
 | succ k ih=>
   rw [Xg];by_cases c:Zc2 s (l.getD k default) (Xg s l k).1
   ·rw [ZL c];exact ZnM _
   ·rw [ZF c];exact ih
theorem Zto (h:NoR s σ):∀ r,NoR s (drK s picks σ r):=by
 intro r
 induction r with
 | zero=>exact h
 | succ r ih=>
   rw [drK];split
   ·exact ih
   ·exact ZnM _
theorem Zxi {ld:Nat ->Nat} {l:List Zd}:∀ k,0 < k ->(∀ j,j < k ->rdy s ld w (l.getD j default)) ->Jg s ld w l k ≠ none:=by
 intro k
 induction k with
 | zero=>intro h;omega
 | succ k ih=>
   intro _ hr;rw [Jg];by_cases c:rdy s ld w (l.getD k default)∧∀ j,Jg s ld w l k=some j ->Zcx s (l.getD j default) < Zcx s (l.getD k default)
   ·rw [ZL c];simp
   ·rw [ZF c];by_cases hk:k=0
    ·subst hk;exact absurd ⟨hr 0 (by omega),fun j hj=>by cases hj⟩ c
    ·exact ih (by omega) fun j hj=>hr j (by omega)
theorem ZeG (h:P2 s σ) (he:opens s σ= []) (hi:i < mm s * mm s):σ.ld i= (σ.sn i).length:=by
 have h1:=h.ld i;have h2:¬ i ∈ opens s σ:=by rw [he];simp
 rw [Zda] at h2;have:¬ σ.ld i < (σ.sn i).length:=fun z=>h2 ⟨hi,z⟩
 omega
theorem ZBj (h2:P2 s σ) (hm:MB s σ) (hn:NoR s σ) (he:opens s σ= []) (hw:w < mm s):σ.be w= []:=by
 by_cases e:σ.be w= []
 ·exact e
 ·exfalso;refine Zxi (σ.be w).length (List.length_pos_iff.2 e) (fun j hj b hb hne=>?_) (hn w hw);have hi:=J3 hb hw;rw [ZeG h2 he hi];exact hm.be w _ (XK hj) _ hi
theorem Zsi (h2:P2 s σ) (he:opens s σ= []) (hi:i < mm s * mm s):fl σ i= []:=by
 unfold fl;rw [ZeG h2 he hi];simp
theorem Zpx (hS:Xk s) (h:Qq s ts0 σ):Bal s σ∧MB s σ:=by
 have h0:=ok0 hS
 have hz:= (h.keep (P:=fun σ=>P1 s σ∧P2 s σ∧P3 s σ∧Bal s σ∧MB s σ) (fun _ _ ⟨a,b,c,d,e⟩ ac=>⟨a.act hS ac,b.act hS ac,c.act a ac,d.act hS a b c ac,e.act ac⟩)
  ⟨h0.p1,h0.p2,fun w _ x hx=>by simp [ts0] at hx,⟨fun p q _ _=>Nat.le_refl 0,fun p q _ _ _=>rfl,fun p q _ _ z=>absurd z (Nat.lt_irrefl 0),fun p q _ _ _=>rfl⟩,⟨fun p i _=>by show(0:Int) <=0;omega,fun j x hx=>by simp [ts0] at hx,fun m x hx=>by simp [ts0] at hx⟩⟩)
 exact hz.2.2.2
theorem ZnZ (hS:Xk s) (h2:P2 s σ) (hm:MB s σ) (hn:NoR s σ) (he:opens s σ= []) (hB:Bal s σ) (hp:p < nn s) (hq:q < nn s):
 ec σ 4 p q <=ec σ 3 p q∧(0 < ec σ 4 p q ->σ.st q=3)∧(σ.st p=1 ->σ.st q=3 ->ec σ 4 p q=ec σ 3 p q):=by
 have a0:asks s σ p q=0:=by unfold asks;rw [Zsi h2 he (J3 (hS.pl hp).2 (hS.pl hq).2)];rfl
 have b0:bb s σ p q=0:=by unfold bb;rw [Zsi h2 he (J3 (hS.pl hq).2 (hS.pl hp).2),ZBj h2 hm hn he (hS.pl hp).2];rfl
 have l1:=hB.le p q hp hq;refine⟨by omega,fun z=>hB.dead p q hp hq (by omega),fun z1 z3=>?_⟩;have l2:=hB.eq p q hp hq z1;have l3:=hB.wz p q hp hq z3;omega
theorem Zll (hF:100000 <=F) {l:List Zg} (hl:l.length <=9000) (d p o:Int):Zrb F l d p o=some ((c3 l d p o:Nat):Int):=by
 unfold Zrb c3;refine XO (fun k=>((((l.take k).countP (fun x=>((x.kZ==d) && (x.kV==p)) && (x.kX==o)):Nat):Int),(k:Int))) rfl (n:=l.length) (by omega) (fun k hk next=>?_) (fun next=>?_)
 ·have hc:=List.countP_le_length (p:=fun x:Zg=>((x.kZ==d) && (x.kV==p)) && (x.kX==o)) (l:=l.take k);rw [List.length_take] at hc;unfold ZmH;dsimp only;rw [YU hk,Cq1,QD default hk,ZC3 hk];simp only [Bq0];unfold Zjf;cases h:((((l.getD k default).kZ==d) && ((l.getD k default).kV==p)) && ((l.getD k default).kX==o)) with
  | true=>rw [Cq1,if_pos rfl,QI (by omega),QI (by omega)]
  | false=>rw [Cq0,if_neg (by decide),QI (by omega)];rfl
 ·unfold ZmH;dsimp only;rw [Xb,Cq0,List.take_length]
end
end
section
structure EvS (s:Zb) (σ:TS):Prop where
 rg:∀ p,p < nn s ->σ.st p=1∨σ.st p=2∨σ.st p=3
 e5:∀ p,p < nn s ->c3 σ.ev 5 p 0=one (σ.st p ≠ 1)
 e6:∀ p,p < nn s ->c3 σ.ev 6 p 0=one (σ.st p=3)
 z5:∀ e ∈ σ.ev,e.kZ=5∨e.kZ=6 ->e.kX=0
section
variable {s:Zb} {σ τ υ:TS} {F B a b p q w i j n d r p0 q0:Nat} {x:Zd} {k:Int} {l:List ZE} {picks:List Int} {e:Zg}
theorem EvS.congr (h:EvS s σ) (h1:τ.st=σ.st) (h2:τ.ev=σ.ev):EvS s τ:= ⟨by rw [h1];exact h.rg,by rw [h1,h2];exact h.e5,by rw [h1,h2];exact h.e6,by rw [h2];exact h.z5⟩
theorem EvS.add (h:EvS s σ) (h1:τ.st=σ.st) (h2:τ.ev=σ.ev ++ [e]) (d5:e.kZ ≠ 5) (d6:e.kZ ≠ 6):EvS s τ:=by
 refine⟨by rw [h1];exact h.rg,fun p hp=>?_,fun p hp=>?_,fun y hy z=>?_⟩
 ·rw [h1,h2,ZbC,YD (fun z=>d5 z.1)];exact h.e5 p hp
 ·rw [h1,h2,ZbC,YD (fun z=>d6 z.1)];exact h.e6 p hp
 ·rw [h2] at hy;rcases List.mem_append.1 hy with hy | hy
  ·exact h.z5 y hy z
  ·rw [List.mem_singleton.1 hy] at z;rcases z with z | z
   ·exact absurd z d5
   ·exact absurd z d6
theorem EvS.see (h:EvS s σ) (p q:Nat) (n:Int):EvS s (Proofs.YtcnahmgekicbdaaGreat.see p q n σ):=by
 unfold Proofs.YtcnahmgekicbdaaGreat.see;split
 ·exact h.add (e:= ⟨2,p,q,n⟩) rfl rfl (by show(2:Int) ≠ 5;decide) (by show(2:Int) ≠ 6;decide)
 ·exact h
theorem EvS.act (h:EvS s σ) (ac:Act s σ τ):EvS s τ:=by
 cases ac with
 | @fall p0 hp0 hst=>
   have ev:(Xc p0 σ).ev=σ.ev ++ [⟨5,(p0:Int),0,0⟩]:=rfl;have st:(Xc p0 σ).st=Z0 σ.st p0 2:=rfl;refine⟨fun p hp=>?_,fun p hp=>?_,fun p hp=>?_,fun y hy z=>?_⟩
   ·rw [st];by_cases c:p=p0
    ·subst c;rw [Zq];exact .inr (.inl rfl)
    ·rw [Zz c];exact h.rg p hp
   ·rw [ev,st,ZbC,h.e5 p hp];by_cases c:p=p0
    ·subst c;rw [Zq,YD (fun z=>z hst),Jb ⟨rfl,rfl,rfl⟩,Jb (by decide)]
    ·rw [Zz c,YD (c:= (5:Int)=5∧(p0:Int)=p∧(0:Int)=0) (fun z=>c (by have:=z.2.1;omega))];rfl
   ·rw [ev,st,ZbC,h.e6 p hp,YD (c:= (5:Int)=6∧(p0:Int)=p∧(0:Int)=0) (fun z=>by have:=z.1;omega)];by_cases c:p=p0
    ·subst c;rw [Zq,YD (by rw [hst];decide),YD (by decide)]
    ·rw [Zz c];rfl
   ·rw [ev] at hy;rcases List.mem_append.1 hy with hy | hy
    ·exact h.z5 y hy z
    ·rw [List.mem_singleton.1 hy]
 | Ux=>exact h.congr rfl rfl
 | @die p0 hp0 hst hA=>
   have sA:=Qj (s:=s) p0 σ
   have hA:EvS s (ZM s p0 σ):=by
    refine⟨fun p hp=>?_,fun p hp=>?_,fun p hp=>?_,fun y hy z=>?_⟩
    ·rw [sA.1];by_cases c:p=p0
     ·subst c;rw [Zq];exact .inr (.inr rfl)
     ·rw [Zz c];exact h.rg p hp
    ·rw [sA.2.2.2.2.1,sA.1,ZbC,h.e5 p hp,YD (c:= (6:Int)=5∧(p0:Int)=p∧(0:Int)=0) (fun z=>by have:=z.1;omega)];by_cases c:p=p0
     ·subst c;rw [Zq,Jb (by rw [hst];decide),Jb (by decide)]
     ·rw [Zz c];rfl
    ·rw [sA.2.2.2.2.1,sA.1,ZbC,h.e6 p hp];by_cases c:p=p0
     ·subst c;rw [Zq,YD (by rw [hst];decide),Jb ⟨rfl,rfl,rfl⟩,Jb rfl]
     ·rw [Zz c,YD (c:= (6:Int)=6∧(p0:Int)=p∧(0:Int)=0) (fun z=>c (by have:=z.2.1;omega))];rfl
    ·rw [sA.2.2.2.2.1] at hy;rcases List.mem_append.1 hy with hy | hy
     ·exact h.z5 y hy z
     ·rw [List.mem_singleton.1 hy]
   unfold JU;split
   ·exact hA
   ·split
    ·exact hA.congr rfl rfl
    ·exact hA.congr rfl rfl
 | @Zbe p q=>exact(h.add (τ:=kK p q σ) (e:= ⟨1,p,q,σ.sd⟩) rfl rfl (by show(1:Int) ≠ 5;decide) (by show(1:Int) ≠ 6;decide)).see _ _ _
 | @Zbd p q=>exact h.add (e:= ⟨1,p,q,σ.sd⟩) rfl rfl (by show(1:Int) ≠ 5;decide) (by show(1:Int) ≠ 6;decide)
 | @Za9 p q=>have z:=Xf (s:=s) p q (tell 3 p q 0 σ);exact(h.add (τ:=tell 3 p q 0 σ) (e:= ⟨3,p,q,0⟩) rfl rfl (by show(3:Int) ≠ 5;decide) (by show(3:Int) ≠ 6;decide)).congr z.1 z.2.2.2.2.2
 | @Za8 p q=>exact h.add (e:= ⟨3,p,q,0⟩) rfl rfl (by show(3:Int) ≠ 5;decide) (by show(3:Int) ≠ 6;decide)
 | Zbs=>exact EvS.see (σ:=drop1 _ σ) (h.congr rfl rfl) _ _ _
 | @Zbu a b p q=>have z:=Xf (s:=s) p q (drop1 (li s a b) σ);exact h.congr z.1 z.2.2.2.2.2
 | ZaM=>exact h.congr rfl rfl
 | Zau=>exact h.congr rfl rfl
 | Zbt=>exact h.congr rfl rfl
 | @ring w i=>
   unfold rung;split
   ·exact h.add (e:= ⟨4,_,_,0⟩) rfl rfl (by show(4:Int) ≠ 5;decide) (by show(4:Int) ≠ 6;decide)
   ·exact h.congr rfl rfl
theorem ZhD (hS:Xk s) (kn:Kn s σ) (ki:KI s σ) (hq:q < nn s) (h3:σ.st q=3):∀ (j p:Nat),p < nn s ->up s j (p:Int)= (q:Int) ->σ.st p=3:=by
 intro j
 induction j with
 | zero=>intro p hp e;have:p=q:=by have:(p:Int)=q:=e;omega
         rw [this];exact h3
 | succ j ih=>
   intro p hp e;have e':(if(p:Int) < 0 then(p:Int) else up s j (inn s (p:Int)))= (q:Int):=e;rw [if_neg (by omega)] at e';by_cases h0:inn s (p:Int) < 0
   ·rw [ZfK h0] at e';omega
   ·obtain⟨eq,hq'⟩:=X6 hS hp h0;rw [eq] at e';have h3':=ih _ hq' e';have hk:=ki.k4 _ hq' h3' p hp eq;obtain⟨k,ek,_,_,hd⟩:=kn.rng _ hq' _ hk;have:p=k:=by omega
    rw [this];exact hd
end
end
end Go.Proofs.YtcnahmgekicbdaaGreat
end
