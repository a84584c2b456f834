/- Part 14. -/
import Derived.Test.YtcnahmgekicbdaaGreatNa13
set_option linter.all false
set_option maxHeartbeats 2000000
section
namespace Go.Proofs.YtcnahmgekicbdaaGreat
open Go.Lf
section
def inn (w:Zb) (q:Int):Int:= (w.Ze.getD q.toNat default).Uv
def up (w:Zb):Nat ->Int ->Int
 | 0,q=>q
 | k + 1,q=>if q < 0 then q else up w k (inn w q)
theorem ZhG {w:Zb} {q:Int} (h:q < 0) (k:Nat):up w k q=q:=by
 cases k with
 | zero=>rfl
 | succ k=>show(if q < 0 then q else _)=q;rw [if_pos h]
theorem JB (w:Zb) (k:Nat) (q:Int):up w (k + 1) q=if up w k q < 0 then up w k q else inn w (up w k q):=by
 induction k generalizing q with
 | zero=>rfl
 | succ k ih=>
   show(if q < 0 then q else up w (k + 1) (inn w q))=_;by_cases h:q < 0
   ·rw [if_pos h,ZhG h,if_pos h]
   ·rw [if_neg h,ih];show _=if(if q < 0 then q else up w k (inn w q)) < 0 then _ else _
    rw [if_neg h];show _=if _ then(if q < 0 then q else up w k (inn w q)) else inn w (if q < 0 then q else up w k (inn w q))
    rw [if_neg h]
theorem up_add (w:Zb) (a b:Nat) (q:Int):up w (a + b) q=up w b (up w a q):=by
 induction a generalizing q with
 | zero=>rw [Nat.zero_add];rfl
 | succ a ih=>
   rw [show a + 1 + b= (a + b) + 1 by omega];show(if q < 0 then q else up w (a + b) (inn w q))=up w b (if q < 0 then q else up w a (inn w q));by_cases h:q < 0
   ·rw [if_pos h,if_pos h,ZhG h]
   ·rw [if_neg h,if_neg h,ih]
theorem Jr {w:Zb} {q:Int} {a:Nat} (h:up w a q < 0) {b:Nat} (hb:a <=b):up w b q < 0:=by
 obtain⟨d,rfl⟩:∃ d,b=a + d:= ⟨b - a,by omega⟩
 rw [up_add,ZhG h];exact h
def okN (w:Zb) (q:Int):Prop:=-1 <=q∧q < (w.Ze.length:Int)
instance (w:Zb) (q:Int):Decidable (okN w q):=by unfold okN;infer_instance
structure Inn (w:Zb):Prop where
 rng:∀ p:Nat,p < w.Ze.length ->okN w (inn w p)
 acy:∀ p:Nat,p < w.Ze.length ->up w w.Ze.length p < 0
theorem Inn.up {w:Zb} (h:Inn w) {q:Int} (hq:okN w q) (k:Nat):okN w (up w k q):=by
 induction k with
 | zero=>exact hq
 | succ k ih=>
   rw [JB];by_cases h2:Proofs.YtcnahmgekicbdaaGreat.up w k q < 0
   ·rw [if_pos h2];exact ih
   ·rw [if_neg h2];have:=h.rng (Proofs.YtcnahmgekicbdaaGreat.up w k q).toNat (by have:=ih.2;omega)
    rwa [Int.toNat_of_nonneg (by omega)] at this
theorem Zm3 {w:Zb} (hr:∀ p:Nat,p < w.Ze.length ->okN w (inn w p)):(∀ p:Nat,p < w.Ze.length ->up w w.Ze.length p < 0)↔∀ p:Nat,p < w.Ze.length ->∀ j,j <=w.Ze.length ->up w (j + 1) p ≠ (p:Int):=by
 constructor
 ·intro h p hp j hj e
  have:∀ m:Nat,up w (m * (j + 1)) p= (p:Int):=fun m=>by
   induction m with
   | zero=>rw [Nat.zero_mul];rfl
   | succ m ih=>rw [Nat.succ_mul,up_add,ih,e]
  have h2:=Jr (h p hp) (b:=w.Ze.length * (j + 1)) (Nat.le_mul_of_pos_right _ (by omega));rw [this] at h2;omega
 ·intro h p hp;rcases Int.lt_or_le (up w w.Ze.length p) 0 with q | q
  ·exact q
  ·exfalso
   have hk:∀ k,k <=w.Ze.length ->0 <=up w k p:=fun k hk=>by
    rcases Int.lt_or_le (up w k p) 0 with z | z
    ·have:=Jr z hk;omega
    ·exact z
   have hok:∀ k,okN w (up w k p):=fun k=>by
    induction k with
    | zero=>exact⟨by show(-1:Int) <= (p:Int);omega,by show(p:Int) < _;omega⟩
    | succ k ih=>
      rw [JB];by_cases h2:up w k p < 0
      ·rw [if_pos h2];exact ih
      ·rw [if_neg h2];have:=hr (up w k p).toNat (by have:=ih.2;omega)
       rwa [Int.toNat_of_nonneg (by omega)] at this
   obtain⟨i,j,h1,h2,h3⟩:=ZGE w.Ze.length (fun k=>(up w k p).toNat) fun k hk'=>by
    have:= (hok k).2;have:=hk k hk';omega
   have e:up w i p=up w j p:=by have:=hk i (by omega);have:=hk j h2;omega
   have hi:=hk i (by omega);have:=h (up w i p).toNat (by have:= (hok i).2;omega) (j - i - 1) (by omega);apply this;rw [Int.toNat_of_nonneg hi,show j - i - 1 + 1=j - i by omega,← up_add,show i + (j - i)=j by omega,e]
theorem K3 {w:Zb} {q:Int} (h:okN w q) (h2:¬ q < 0):∃ k:Nat,q= (k:Int)∧k < w.Ze.length:= ⟨q.toNat,by omega,by have:=h.2;omega⟩
def spt (w:Zb) (p:Nat):ZO:=w.Ze.getD p default
theorem Xi {w:Zb} {p:Nat} (hp:p < w.Ze.length):ZM w.Ze (p:Int)=some (spt w p):=Qr default hp
theorem Q6 (w:Zb) (p:Nat):(spt w p).Uv=inn w (p:Int):=by unfold spt inn;rw [Int.toNat_natCast]
def Wth (w:Zb) (p x:Nat):Prop:=∃ j,up w j (x:Int)= (p:Int)
theorem Wth.bound {w:Zb} (hi:Inn w) {p x:Nat} (hx:x < w.Ze.length) (h:Wth w p x):∃ j,j < w.Ze.length∧up w j (x:Int)= (p:Int):=by
 obtain⟨j,e⟩:=h;refine⟨j,Classical.byContradiction fun q=>?_,e⟩;have:=Jr (hi.acy x hx) (show w.Ze.length <=j by omega);omega
def Zlb (w:Zb) (p x:Nat):Bool:= (List.range w.Ze.length).any fun j=>up w j (x:Int)== (p:Int)
theorem ZbU {w:Zb} (hi:Inn w) {p x:Nat} (hx:x < w.Ze.length):Zlb w p x=true↔Wth w p x:=by
 unfold Zlb;rw [List.any_eq_true]
 constructor
 ·rintro⟨j,_,e⟩;exact⟨j,beq_iff_eq.1 e⟩
 ·intro h;obtain⟨j,hj,e⟩:=h.bound hi hx;exact⟨j,List.mem_range.2 hj,beq_iff_eq.2 e⟩
def ZbQ (w:Zb) (d v:Nat):Prop:=∀ k,k < w.Ze.length ->∀ j,d <=j ->up w j (k:Int) ≠ (v:Int)
theorem ZbQ.all {w:Zb} (hi:Inn w) {v:Nat}:ZbQ w w.Ze.length v:=fun k hk j hj q=>by
 have:=Jr (hi.acy k hk) hj;omega
theorem ZAC {w:Zb} {x k v j:Nat} (h1:up w j (x:Int)= (k:Int)) (h2:inn w (k:Int)= (v:Int)):up w (j + 1) (x:Int)= (v:Int):=by
 rw [JB,h1,if_neg (by omega),h2]
theorem ZbQ.kid {w:Zb} {d v k:Nat} (h:ZbQ w (d + 1) v) (h2:inn w (k:Int)= (v:Int)):ZbQ w d k:=fun x hx j hj q=>h x hx (j + 1) (by omega) (ZAC q h2)
structure XO (s:Zb):Prop where
 m1:1 <=s.qG
 m2:s.qG <=4
 p1:1 <=s.Ze.length
 p2:s.Ze.length <=8
 at_:∀ p,p < s.Ze.length ->0 <= (spt s p).at_∧(spt s p).at_ < s.qG
 inn:Inn s
def Ends (s:Zb) (p:Nat):Prop:=∃ m,m <=s.Ze.length∧up s (m + 1) (p:Int) < 0
section
variable {F:Nat} {s:Zb}
theorem Zlq (hr:∀ p:Nat,p < s.Ze.length ->okN s (inn s p)) {p:Nat} (hp:p < s.Ze.length):∀ k,okN s (up s k (p:Int)):=by
 intro k
 induction k with
 | zero=>exact⟨by show(-1:Int) <= (p:Int);omega,by show(p:Int) < _;omega⟩
 | succ k ih=>
   rw [JB];by_cases h2:up s k p < 0
   ·rw [if_pos h2];exact ih
   ·rw [if_neg h2];obtain⟨j,e,hj⟩:=K3 ih h2;rw [e];exact hr j hj
theorem ZoE (hr:∀ p:Nat,p < s.Ze.length ->okN s (inn s p)):(∀ p,p < s.Ze.length ->Ends s p)↔∀ p:Nat,p < s.Ze.length ->up s s.Ze.length (p:Int) < 0:=by
 constructor
 ·intro h;refine(Zm3 hr).2 fun p hp j hj e=>?_
  obtain⟨m,hm,he⟩:=h p hp
  have:∀ k:Nat,up s (k * (j + 1)) p= (p:Int):=fun k=>by
   induction k with
   | zero=>rw [Nat.zero_mul];rfl
   | succ k ih=>rw [Nat.succ_mul,up_add,ih,e]
  have h2:=Jr he (b:= (m + 1) * (j + 1)) (Nat.le_mul_of_pos_right _ (by omega));rw [this] at h2;omega
 ·intro h p hp;exact⟨s.Ze.length,Nat.le_refl _,Jr (h p hp) (by omega)⟩
theorem Zq0 (hF:1000 <=F) (h8:s.Ze.length <=8) (hr:∀ p:Nat,p < s.Ze.length ->okN s (inn s p)) {p:Nat} (hp:p < s.Ze.length) (v30:Int) (next:Int×Int ->Option Int):
 loop F (ZiZ s (p:Int) next) (inn s (p:Int),v30,0,false)=ifc (Ends s p) (next (((p + 1:Nat):Int),v30)) (some 2):=by
 have e0:(inn s (p:Int),v30,(0:Int),false)= (up s (0 + 1) p,v30,((0:Nat):Int),false):=by
  rw [JB];show _= (if((p:Int)) < 0 then _ else _,_);rw [if_neg (by omega)];rfl
 obtain⟨m,hm,hs,hlt⟩:=KJ (c:=fun k=>s.Ze.length <=k∨up s (k + 1) p < 0) (n:=s.Ze.length) (.inl (by omega))
 have hj:∀ j,j < m ->j < s.Ze.length∧¬ up s (j + 1) p < 0:=fun j hj=>by
  have:=hlt j hj;exact⟨Classical.byContradiction fun z=>this (.inl (by omega)),fun q=>this (.inr q)⟩
 refine Y9 (fun j=>(up s (j + 1) p,v30,(j:Int),false)) e0.symm (n:=m) (by omega) (fun j hjm nx=>?_) (fun nx=>?_)
 ·obtain⟨a1,a2⟩:=hj j hjm;obtain⟨k,e,hk⟩:=K3 (Zlq hr hp (j + 1)) a2;unfold ZiZ;dsimp only;rw [JB s (j + 1),if_neg a2,e,Zbc,Cq1,Qw (by omega),decide_eq_false (by omega),Xi hk];simp only [Cq0,Bool.not_true,Bq0];rw [Q6]
 ·unfold ZiZ;dsimp only;by_cases h2:up s (m + 1) p < 0
  ·rw [decide_eq_false (show ¬ up s (m + 1) p >=0 by omega),Cq0,ZF ⟨m,hm,h2⟩];unfold ZfZ;dsimp only;rw [Cq0,Qw (by omega)]
  ·have hml:m=s.Ze.length:=by rcases hs with z | z;· omega
                              ·exact absurd z h2
   obtain⟨k,e,hk⟩:=K3 (Zlq hr hp (m + 1)) h2
   have hne:¬ Ends s p:=by
    rintro⟨j,h1,h3⟩;have:=Jr h3 (show j + 1 <=m + 1 by omega);exact h2 this
   rw [e,Zbc,Cq1,Qw (by omega),decide_eq_true (show((m + 1:Nat):Int) > (s.Ze.length:Int) by omega),ZE hne]
   rfl
theorem Zw7 (hF:1000 <=F) (h8:s.Ze.length <=8) (hr:∀ p:Nat,p < s.Ze.length ->okN s (inn s p)) {p:Nat} (hp:p < s.Ze.length) (next:Int ->Option Bool):
 loop F (Zi3 s (p:Int) next) (inn s (p:Int),0)=ifc (∀ j,j <=s.Ze.length ->up s (j + 1) p ≠ (p:Int)) (next ((p + 1:Nat):Int)) (some false):=by
 have hok:=Zlq hr hp
 have e0:(inn s (p:Int),(0:Int))= (up s (0 + 1) p,((0:Nat):Int)):=by
  rw [JB];show _= (if((p:Int)) < 0 then _ else _,_);rw [if_neg (by omega)];rfl
 obtain⟨m,hm,hs,hlt⟩:=KJ (c:=fun k=>s.Ze.length < k∨up s (k + 1) p < 0∨up s (k + 1) p= (p:Int)) (n:=s.Ze.length + 1) (.inl (by omega))
 have hj:∀ j,j < m ->j <=s.Ze.length∧¬ up s (j + 1) p < 0∧up s (j + 1) p ≠ (p:Int):=fun j hj=>by
  have:=hlt j hj;exact⟨Classical.byContradiction fun z=>this (.inl (by omega)),fun q=>this (.inr (.inl q)),fun q=>this (.inr (.inr q))⟩
 refine Y9 (fun j=>(up s (j + 1) p,(j:Int))) e0.symm (n:=m) (by omega) (fun j hjm nx=>?_) (fun nx=>?_)
 ·obtain⟨a1,a2,a3⟩:=hj j hjm;obtain⟨k,e,hk⟩:=K3 (hok (j + 1)) a2;unfold Zi3;dsimp only;rw [JB s (j + 1),if_neg a2];rw [e] at a3 ⊢;rw [decide_eq_true (show(j:Int) <= (s.Ze.length:Int) by omega),Zbc,Bool.and_self,Cq1,Xa,decide_eq_false a3,Cq0,Xi hk];simp only [Bq0];rw [Qw (by omega),Q6]
 ·unfold Zi3;dsimp only;by_cases h1:s.Ze.length < m
  ·rw [decide_eq_false (show ¬ (m:Int) <= (s.Ze.length:Int) by omega),Bool.false_and,Cq0,Qw (by omega),ZF fun j q1=>(hj j (by omega)).2.2]
  ·by_cases h2:up s (m + 1) p < 0
   ·rw [decide_eq_false (show ¬ up s (m + 1) p >=0 by omega),Bool.and_false,Cq0,Qw (by omega),ZF];intro j q1 q2;rcases Nat.lt_or_ge j m with z | z
    ·exact(hj j z).2.2 q2
    ·have:=Jr h2 (show m + 1 <=j + 1 by omega);omega
   ·have h3:up s (m + 1) p= (p:Int):=by
     rcases hs with z | z | z
     ·exact absurd z h1
     ·exact absurd z h2
     ·exact z
    rw [decide_eq_true (show(m:Int) <= (s.Ze.length:Int) by omega),h3,Zbc,Bool.and_self,Cq1,Xa,decide_eq_true rfl,Cq1,ZE fun z=>z m (by omega) h3]
def Rng (s:Zb) (p:Nat):Prop:= (0 <= (spt s p).at_∧(spt s p).at_ < s.qG)∧okN s (inn s (p:Int))
def Bnd (s:Zb):Prop:=1 <=s.qG∧s.qG <=4∧1 <=s.Ze.length∧s.Ze.length <=8
theorem Zhx (s:Zb):((((decide (s.qG < 1)) || (decide (s.qG > 4))) || (decide ((s.Ze.length:Int) < 1))) || (decide ((s.Ze.length:Int) > 8)))=true↔¬ Bnd s:=by
 unfold Bnd;simp only [Bool.or_eq_true,decide_eq_true_eq];omega
theorem KV:XO s↔Bnd s∧(∀ p,p < s.Ze.length ->Rng s p)∧∀ p:Nat,p < s.Ze.length ->up s s.Ze.length (p:Int) < 0:=
 ⟨fun h=>⟨⟨h.m1,h.m2,h.p1,h.p2⟩,fun p hp=>⟨h.at_ p hp,h.inn.rng p hp⟩,h.inn.acy⟩,fun h=>⟨h.1.1,h.1.2.1,h.1.2.2.1,h.1.2.2.2,fun p hp=>(h.2.1 p hp).1,⟨fun p hp=>(h.2.1 p hp).2,h.2.2⟩⟩⟩
theorem Ztl (hF:1000 <=F) (s:Zb):Zt9 F s=ifc (XO s) (some true) (some false):=by
 unfold Zt9;rcases Classical.em (¬ Bnd s) with hb | hb
 ·rw [(Zhx s).2 hb,Cq1,ZE fun z=>hb (KV.1 z).1]
 have hb:=Classical.not_not.1 hb;rw [Bool.eq_false_iff.2 fun z=>(Zhx s).1 z hb,Cq0];have h8:=hb.2.2.2
 have e1:=Za4 (body:=Zi4 F s) (r1:=some false) (r2:=loop F (Zf4 F s) 0) (s0:= (0:Int)) (fun k=>(k:Int)) rfl (Rng s) (n:=s.Ze.length) (F:=F) (by omega) (fun k hk next=>by
  unfold Zi4;rw [YN hk,Cq1,Xi hk];simp only [Bq0];rw [Q6];by_cases r:Rng s k
  ·have r1:=r.1.1;have r2:=r.1.2;have r3:=r.2.1;have r4:=r.2.2;rw [ZF r,decide_eq_false (by omega),decide_eq_false (by omega),decide_eq_false (by omega),decide_eq_false (by omega)];simp only [Bool.or_self,Cq0];rw [Qw (by omega)]
  ·rw [ZE r]
   have:((((decide ((spt s k).at_ < 0)) || (decide ((spt s k).at_ >=s.qG))) || (decide (inn s (k:Int) < (-1)))) || (decide (inn s (k:Int) >= (s.Ze.length:Int))))=true:=by
    rw [← Bool.not_eq_false];intro z;simp only [Bool.or_eq_false_iff,decide_eq_false_iff_not] at z;exact r ⟨⟨by omega,by omega⟩,by omega,by omega⟩
   rw [this,Cq1]) (fun next=>by
  unfold Zi4;rw [Y1,Cq0])
 rw [e1];by_cases hr:∀ p,p < s.Ze.length ->Rng s p
 ·have hr':∀ p:Nat,p < s.Ze.length ->okN s (inn s p):=fun p hp=>(hr p hp).2
  have e2:=Za4 (body:=Zf4 F s) (r1:=some false) (r2:=some true) (s0:= (0:Int)) (fun k=>(k:Int)) rfl (fun p:Nat=>∀ j,j <=s.Ze.length ->up s (j + 1) p ≠ (p:Int)) (n:=s.Ze.length) (F:=F) (by omega) (fun k hk next=>by
   unfold Zf4;rw [YN hk,Cq1,Xi hk];simp only [Bq0];rw [Q6];exact Zw7 hF h8 hr' hk next) (fun next=>by
   unfold Zf4;rw [Y1,Cq0])
  rw [ZF hr,e2];by_cases ha:∀ p:Nat,p < s.Ze.length ->up s s.Ze.length (p:Int) < 0
  ·rw [ZF (KV.2 ⟨hb,hr,ha⟩),ZF ((Zm3 hr').1 ha)]
  ·rw [ZE fun z=>ha (KV.1 z).2.2,ZE fun z=>ha ((Zm3 hr').2 z)]
 ·rw [ZE hr,ZE fun z=>hr (KV.1 z).2.1]
theorem Zjl (hF:1000 <=F) (s:Zb):Zt7 F s=ifc (XO s) (some 0) (some 2):=by
 unfold Zt7;rcases Classical.em (¬ Bnd s) with hb | hb
 ·rw [(Zhx s).2 hb,Cq1,ZE fun z=>hb (KV.1 z).1]
 have hb:=Classical.not_not.1 hb;rw [Bool.eq_false_iff.2 fun z=>(Zhx s).1 z hb,Cq0];have h8:=hb.2.2.2
 have e1:=Za4 (body:=Zi0 F s) (r1:=some 2) (r2:=loop F (Zf0 F s) (0,0)) (s0:= (0:Int)) (fun k=>(k:Int)) rfl (Rng s) (n:=s.Ze.length) (F:=F) (by omega) (fun k hk next=>by
  unfold Zi0 ZiY;rw [YN hk,Cq1,Xi hk];simp only [Bq0];rw [Q6];by_cases r1:0 <= (spt s k).at_∧(spt s k).at_ < s.qG
  ·rw [decide_eq_false (show ¬ (spt s k).at_ < 0 by omega),decide_eq_false (show ¬ (spt s k).at_ >=s.qG by omega)];simp only [Bool.or_self,Bool.not_false,Bool.true_and,Bool.false_or];by_cases r2:inn s (k:Int)=-1
   ·rw [r2,Zen,UL];simp only [Bq0,Bool.false_and,Cq0];rw [Qw (by omega),ZF ⟨r1,by rw [r2];unfold okN;omega⟩]
   ·rw [Zbi,decide_eq_true r2,QO];simp only [Bq0,Bool.true_and];by_cases r3:0 <=inn s (k:Int)∧inn s (k:Int) < (s.Ze.length:Int)
    ·rw [decide_eq_true (show inn s (k:Int) >=0 from r3.1),decide_eq_true r3.2,Bool.and_self,Bool.not_true,Cq0,Qw (by omega),ZF ⟨r1,by unfold okN;omega⟩]
    ·have:(decide (inn s (k:Int) >=0) && decide (inn s (k:Int) < (s.Ze.length:Int)))=false:=by
      rw [← Bool.not_eq_true];intro z;simp only [Ba0,decide_eq_true_eq] at z;exact r3 ⟨z.1,z.2⟩
     rw [this,Bool.not_false,Cq1,ZE];rintro⟨_,a,b⟩;exact r3 ⟨by omega,b⟩
  ·have:(decide ((spt s k).at_ < 0) || decide ((spt s k).at_ >=s.qG))=true:=by
    rw [← Bool.not_eq_false];intro z;simp only [Bool.or_eq_false_iff,decide_eq_false_iff_not] at z;exact r1 ⟨by omega,by omega⟩
   rw [this];simp only [Bool.not_true,Bool.false_and,UL,Bq0,Bool.true_or,Cq1];rw [ZE fun z=>r1 z.1]) (fun next=>by
  unfold Zi0;rw [Y1,Cq0])
 rw [e1];by_cases hr:∀ p,p < s.Ze.length ->Rng s p
 ·have hr':∀ p:Nat,p < s.Ze.length ->okN s (inn s p):=fun p hp=>(hr p hp).2
  have e2:=Za4 (body:=Zf0 F s) (r1:=some 2) (r2:=some 0) (s0:= ((0:Int),(0:Int))) (fun k=>((k:Int),(0:Int))) rfl (Ends s) (n:=s.Ze.length) (F:=F) (by omega) (fun k hk next=>by
   unfold Zf0;dsimp only;rw [YN hk,Cq1,Xi hk];simp only [Bq0];rw [Q6];exact Zq0 hF h8 hr' hk 0 next) (fun next=>by
   unfold Zf0;dsimp only;rw [Y1,Cq0])
  rw [ZF hr,e2];by_cases ha:∀ p:Nat,p < s.Ze.length ->up s s.Ze.length (p:Int) < 0
  ·rw [ZF (KV.2 ⟨hb,hr,ha⟩),ZF ((ZoE hr').2 ha)]
  ·rw [ZE fun z=>ha (KV.1 z).2.2,ZE fun z=>ha ((ZoE hr').1 z)]
 ·rw [ZE hr,ZE fun z=>hr (KV.1 z).2.1]
end
end
section
def arK (s:Zb) (p:Nat) (k:Nat):List Int:= (List.range k).map fun j=>up s (j + 1) (p:Int)
theorem Zo3 (s:Zb) (p k:Nat):arK s p (k + 1)=arK s p k ++ [up s (k + 1) (p:Int)]:=by
 unfold arK;rw [List.range_succ,List.map_append];rfl
theorem ZmV (s:Zb) (p k:Nat):(arK s p k).length=k:=by unfold arK;rw [List.length_map,List.length_range]
section
variable {F:Nat} {s:Zb}
theorem ZcR (s:Zb) (p:Int):(decide (p >=0) && decide (p < (s.Ze.length:Int)))=true↔∃ k:Nat,p= (k:Int)∧k < s.Ze.length:=by
 rw [Ba0,decide_eq_true_eq,decide_eq_true_eq]
 constructor
 ·rintro⟨a,b⟩;exact⟨p.toNat,by omega,by omega⟩
 ·rintro⟨k,rfl,h⟩;omega
theorem Zhc {k:Nat} (h:k < s.Ze.length):(decide ((k:Int) >=0) && decide ((k:Int) < (s.Ze.length:Int)))=true:= (ZcR s k).2 ⟨k,rfl,h⟩
theorem up1 {p:Nat}:up s (0 + 1) (p:Int)=inn s (p:Int):=by
 rw [JB];show(if((p:Int)) < 0 then _ else _)=_;rw [if_neg (by omega)];rfl
theorem around (hF:1000 <=F) (hS:XO s) {p:Nat} (hp:p < s.Ze.length):
 ∃ L,ZyS F s (p:Int)=some L∧ZOx F s (p:Int)=some (L,0)∧L.length <=8∧∀ q:Nat,((q:Int) ∈ L↔∃ j,up s (j + 1) (p:Int)= (q:Int)):=by
 obtain⟨m,hm,hs,hlt⟩:=KJ (c:=fun k=>up s (k + 1) (p:Int) < 0) (n:=s.Ze.length) (Jr (hS.inn.acy p hp) (by omega));have h8:=hS.p2;refine⟨arK s p m,?_,?_,by rw [ZmV];omega,fun q=>?_⟩
 ·unfold ZyS;rw [Xi hp];simp only [Bq0];rw [Q6];refine Y9 (fun k=>(arK s p k,up s (k + 1) (p:Int))) (by show(arK s p 0,up s (0 + 1) (p:Int))=_;rw [up1];rfl) (n:=m) (by omega) (fun k hk next=>?_) (fun next=>?_)
  ·have h2:=hlt k hk;obtain⟨j,e,hj⟩:=K3 (hS.inn.up (q:= (p:Int)) ⟨by omega,by omega⟩ (k + 1)) h2;unfold Zmg;dsimp only;rw [JB s (k + 1),if_neg h2,Zo3,e,Zbc,Cq1,Zuw (by rw [ZmV,List.length_singleton];omega),Xi hj];simp only [Bq0];rw [Q6]
  ·unfold Zmg;dsimp only;rw [decide_eq_false (by omega),Cq0]
 ·unfold ZOx ZiY;rw [Zjl hF,ZF hS,Xi hp,Zhc hp];simp only [Bq0,Zen,Bool.not_false,QO,Bool.not_true,Bool.or_false,Cq0];rw [Q6];refine Y9 (fun k=>(up s (k + 1) (p:Int),arK s p k)) (by show(up s (0 + 1) (p:Int),arK s p 0)=_;rw [up1];rfl) (n:=m) (by omega) (fun k hk next=>?_) (fun next=>?_)
  ·have h2:=hlt k hk;obtain⟨j,e,hj⟩:=K3 (hS.inn.up (q:= (p:Int)) ⟨by omega,by omega⟩ (k + 1)) h2;unfold ZqL;dsimp only;rw [JB s (k + 1),if_neg h2,Zo3,e,Zbc,Cq1,Zuw (by rw [ZmV,List.length_singleton];omega),Xi hj];simp only [Bq0,Bool.not_true,Cq0];rw [Q6]
  ·unfold ZqL;dsimp only;rw [decide_eq_false (by omega),Cq0];rfl
 ·unfold arK;rw [List.mem_map]
  constructor
  ·rintro⟨j,_,e⟩;exact⟨j,e⟩
  ·rintro⟨j,e⟩;refine⟨j,List.mem_range.2 (Classical.byContradiction fun z=>?_),e⟩;have:=Jr hs (show m + 1 <=j + 1 by omega);omega
theorem lies (hF:1000 <=F) (hS:XO s) {p:Nat} (hp:p < s.Ze.length) (q:Nat):ZqM F s (p:Int) (q:Int)=some (Zlb s q p):=by
 obtain⟨L,e1,_,hl,hm⟩:=around hF hS hp
 have hW:Wth s q p↔p=q∨(q:Int) ∈ L:=by
  rw [hm]
  constructor
  ·rintro⟨j,e⟩;cases j with
   | zero=>left;have:(p:Int)= (q:Int):=e;omega
   | succ j=>exact .inr ⟨j,e⟩
  ·rintro(rfl | ⟨j,e⟩)
   ·exact⟨0,rfl⟩
   ·exact⟨j + 1,e⟩
 unfold ZqM;by_cases h:p=q
 ·subst h;rw [beq_self_eq_true,Cq1,(ZbU hS.inn hp).2 ⟨0,rfl⟩]
 ·rw [Xa,decide_eq_false (by omega),Cq0,e1];simp only [Bq0];rw [show(0:Int)= ((0:Nat):Int) from rfl]
  rw [Zw8 (fun k=>(k:Int)) (fun k=>L.getD k 0== (q:Int)) (r1:=some true) (r2:=some false) (n:=L.length) (by omega) (fun k hk next=>by
   unfold Zmj;rw [YN hk,Cq1,Qr 0 hk];simp only [Bq0];rw [Qw (by omega)]) (fun next=>by
   unfold Zmj;rw [Y1,Cq0])]
  rw [Zka L (fun x=>x== (q:Int)) 0]
  have:L.any (fun x=>x== (q:Int))=Zlb s q p:=by
   rw [Bool.eq_iff_iff,ZbU hS.inn hp,hW,List.any_eq_true]
   constructor
   ·rintro⟨x,h1,h2⟩;right;rwa [← beq_iff_eq.1 h2]
   ·rintro(h1 | h1)
    ·exact absurd h1 h
    ·exact⟨_,h1,beq_self_eq_true _⟩
  rw [this];cases Zlb s q p <;> rfl
end
end
section
def Pl (w:Zb) (p:Int):Prop:=∃ k:Nat,p= (k:Int)∧k < w.Ze.length
structure Told (w:Zb) (e:Zf):Prop where
 pl:Pl w e.kV
 n0:0 <=e.n
 dd:((e.kZ=1∨e.kZ=2)∧Pl w e.kX)∨((e.kZ=3∨e.kZ=4)∧Pl w e.kX∧e.n=0)∨((e.kZ=5∨e.kZ=6)∧e.kX=0∧e.n=0)
theorem ZQW {w:Zb} {p:Int} (h:Pl w p):(decide (p >=0) && decide (p < (w.Ze.length:Int)))=true:= (ZcR w p).2 h
theorem ZQX {w:Zb} {p:Int} (h:¬ Pl w p):(decide (p >=0) && decide (p < (w.Ze.length:Int)))=false:=Bool.eq_false_iff.2 fun z=>h ((ZcR w p).1 z)
section
variable {F:Nat} {w:Zb} {d p o n:Int}
theorem ZDq (w:Zb) (o:Int):some (decide (o >=0) && decide (o < (w.Ze.length:Int)))=ifc (Pl w o) (some true) (some false):=by
 by_cases h:Pl w o
 ·rw [ZQW h,ZF h]
 ·rw [ZQX h,ZE h]
theorem ZCn {l:List Zf} {k:Nat} (h:k < l.length) (f:Zf ->Bool):((l.take (k + 1)).countP f:Nat)= (l.take k).countP f + (if f (l.getD k default)=true then 1 else 0):=by
 rw [List.take_succ_eq_append_getElem h,List.countP_append,UK h];congr 1;rw [List.countP_cons,List.countP_nil,Nat.zero_add]
def c3 (l:List Zf) (d p o:Int):Nat:=l.countP fun x=>((x.kZ==d) && (x.kV==p)) && (x.kX==o)
end
end
section
def k1 (l:List Zf) (e:Zf):Nat:=l.countP fun x=>((x.kZ==1) && (x.n==e.n)) && ((e.kZ==1) || ((x.kV==e.kX) && (x.kX==e.kV)))
def k2 (l:List Zf) (e:Zf):Nat:=l.countP fun x=>(x.kZ==2) && (x.n==e.n)
def Zsh (w:Zb) (l:List Zf) (p:Int):Bool:= (List.range w.Ze.length).any fun q:Nat=>(inn w (q:Int)==p) && decide (c3 l 6 (q:Int) 0=0)
def atW (w:Zb) (p:Int):Int:= (w.Ze.getD p.toNat default).at_
def ZvV (w:Zb) (l:List Zf) (e:Zf):Bool:=l.any fun x=>((x.kZ==4) && (atW w x.kV==atW w e.kV)) && Zlb w x.kX.toNat e.kX.toNat
def KF (w:Zb) (l:List Zf) (e:Zf):Int:=
 bif(e.kZ !=6) && decide (c3 l 5 e.kV 0 > 0) then 1
 else bif e.kZ==1 then(bif decide (k1 l e > 0) then 2 else 0)
 else bif e.kZ==2 then(bif decide (k1 l e=0) || decide (k2 l e > 0) then 2 else bif ZvV w l e then 5 else 0)
 else bif e.kZ==6 then(bif(decide (c3 l 5 e.kV 0=0) || decide (c3 l 6 e.kV 0 > 0)) || Zsh w l e.kV then 3 else 0)
 else bif e.kZ==4 then(bif decide (c3 l 6 e.kX 0=0) || decide (c3 l 4 e.kV e.kX >=c3 l 3 e.kV e.kX) then 4 else 0)
 else 0
section
variable {F:Nat} {w:Zb}
end
end
section
section
variable {F:Nat} {w:Zb}
end
end
section
def tab {α:Type} (n:Nat) (f:Nat ->α):List α:= (List.range n).map f
def ZY {α:Type} (f:Nat ->α) (k:Nat) (v:α):Nat ->α:=fun j=>if j=k then v else f j
theorem Zq {α:Type} (f:Nat ->α) (k:Nat) (v:α):ZY f k v k=v:=if_pos rfl
theorem ZA {α:Type} {f:Nat ->α} {k j:Nat} {v:α} (h:j ≠ k):ZY f k v j=f j:=if_neg h
theorem ZtT {α:Type} (f:Nat ->α) (k:Nat) (v w:α):ZY (ZY f k v) k w=ZY f k w:=by funext j;unfold ZY;by_cases h:j=k <;> simp [h]
section
variable {α:Type} {n k:Nat} {f g:Nat ->α} {v:α}
theorem Qo:(tab n f).length=n:=by simp [tab]
theorem Zg8 (h:k < n):(tab n f)[k]? =some (f k):=by simp [tab,h]
theorem Yu (h:k < n):ZM (tab n f) (k:Int)=some (f k):=by rw [Zez,Zg8 h]
theorem QI:Y4 (tab n f) (k:Int) v=tab n (ZY f k v):=by
 unfold Y4;apply List.ext_getElem?;intro j;rw [Int.toNat_natCast,List.getElem?_set,Qo];by_cases hj:j < n
 ·rw [Zg8 hj,Zg8 hj];unfold ZY;by_cases e:k=j
  ·subst e;simp [hj]
  ·rw [if_neg e,if_neg (fun q=>e q.symm)]
 ·rw [List.getElem?_eq_none (by rw [Qo];omega),List.getElem?_eq_none (by rw [Qo];omega)];by_cases e:k=j
  ·subst e;simp [hj]
  ·rw [if_neg e]
theorem U2 (h:∀ k,k < n ->f k=g k):tab n f=tab n g:=by
 unfold tab;exact List.map_congr_left fun k hk=>h k (List.mem_range.1 hk)
theorem ZhI:tab (n + 1) f=tab n f ++ [f n]:=by simp [tab,List.range_succ]
end
theorem ZAD {α:Type} (n:Nat) (x:α):List.replicate n x=tab n fun _=>x:=by
 apply List.ext_getElem?;intro j;by_cases hj:j < n
 ·rw [Zg8 hj,List.getElem?_replicate,if_pos hj]
 ·rw [List.getElem?_eq_none (by simp;omega),List.getElem?_eq_none (by rw [Qo];omega)]
structure TS where
 st:Nat ->Int
 ma:Nat ->Nat ->Int
 kn:Nat ->List Int
 wa:Nat ->List Int
 be:Nat ->List Zd
 sn:Nat ->List Zd
 ld:Nat ->Nat
 sd:Int
 ev:List Zf
section
variable (s:Zb)
def nn:Nat:=s.Ze.length
def mm:Nat:=s.qG.toNat
def pl (p:Nat):Nat:= (spt s p).at_.toNat
def li (a b:Nat):Nat:=a * mm s + b
def KT (σ:TS) (i:Nat):Zn:= ⟨(σ.ld i:Int),(σ.sn i).drop (σ.ld i)⟩
def vw (σ:TS):Zi:= ⟨tab (nn s) σ.st,tab (nn s) fun p=>tab (mm s * mm s) (σ.ma p),tab (nn s) σ.kn,tab (nn s) σ.wa,tab (mm s) σ.be,tab (mm s * mm s) (KT σ),σ.sd⟩
def hal (σ:TS):ZC:= ⟨vw s σ,s,σ.ev⟩
def tell (d p q n:Int) (σ:TS):TS:= {σ with ev:=σ.ev ++ [⟨d,p,q,n⟩]}
def send (a b:Nat) (x:Zd) (σ:TS):TS:= {σ with sn:=ZY σ.sn (li s a b) (σ.sn (li s a b) ++ [x])}
def wait (m:Nat) (x:Zd) (σ:TS):TS:= {σ with be:=ZY σ.be m (σ.be m ++ [x])}
def J9 (σ:TS) (p:Nat):List Int:=tab (mm s * mm s) (σ.ma p)
def Y5 (p q:Nat) (σ:TS):TS:=if pl s p=pl s q then wait (pl s p) ⟨5,p,q,0,J9 s σ q⟩ σ else send s (pl s q) (pl s p) ⟨5,p,q,0,J9 s σ q⟩ σ
def see (p q:Nat) (n:Int) (σ:TS):TS:=if σ.st p=1 then tell 2 p q n σ else σ
def note (p q:Nat) (σ:TS):TS:=if σ.st q=3 then Y5 s p q σ else{σ with wa:=ZY σ.wa q (σ.wa q ++ [(p:Int)])}
structure Few (B:Nat) (σ:TS):Prop where
 ev:σ.ev.length <=B
 sn:∀ i,i < mm s * mm s ->(σ.sn i).length <=B
 be:∀ m,m < mm s ->(σ.be m).length <=B
 wa:∀ q,q < nn s ->(σ.wa q).length <=B
 ld:∀ i,i < mm s * mm s ->σ.ld i <= (σ.sn i).length
 ws:∀ q,q < nn s ->∀ x ∈ σ.wa q,∃ k:Nat,x= (k:Int)∧k < nn s
end
section
variable {s:Zb} {σ:TS} {a b p q k B:Nat}
theorem XO.mm (h:XO s):s.qG= (Proofs.YtcnahmgekicbdaaGreat.mm s:Int)∧1 <=Proofs.YtcnahmgekicbdaaGreat.mm s∧Proofs.YtcnahmgekicbdaaGreat.mm s <=4:=by
 have:=h.m1;have:=h.m2;unfold Proofs.YtcnahmgekicbdaaGreat.mm;omega
theorem XO.pl (h:XO s) (hp:p < nn s):(spt s p).at_= (Proofs.YtcnahmgekicbdaaGreat.pl s p:Int)∧Proofs.YtcnahmgekicbdaaGreat.pl s p < Proofs.YtcnahmgekicbdaaGreat.mm s:=by
 have:=h.at_ p hp;have:=h.mm.1;unfold Proofs.YtcnahmgekicbdaaGreat.pl;omega
theorem Ua (ha:a < mm s) (hb:b < mm s):li s a b < mm s * mm s:=by
 unfold li;have:(a + 1) * mm s <=mm s * mm s:=Nat.mul_le_mul_right _ ha;rw [Nat.add_mul,Nat.one_mul] at this;omega
theorem Zce (hS:XO s) (ha:a < mm s) (hb:b < mm s):YA (YA ((a:Int) * s.qG) + (b:Int))= ((li s a b:Nat):Int):=by
 obtain⟨e,h1,h4⟩:=hS.mm;have hl:=Ua ha hb;have h16:mm s * mm s <=16:=Nat.mul_le_mul h4 h4;have hm:a * mm s <=li s a b:=by unfold li;omega
 rw [e];have e1:(a:Int) * ((mm s:Nat):Int)= ((a * mm s:Nat):Int):=by rw [Int.natCast_mul]
 have e3:YA ((a * mm s:Nat):Int)= ((a * mm s:Nat):Int):=Zab (by omega) (by omega);have e2:((a * mm s:Nat):Int) + (b:Int)= ((li s a b:Nat):Int):=by unfold li;omega
 rw [e1,e3,e2];exact Zab (by omega) (by omega)
theorem UR (hS:XO s) (hp:p < nn s):WG (hal s σ) (p:Int)=some (pl s p:Int):=by
 unfold WG;show(ZM s.Ze (p:Int)).bind _=_;rw [Xi hp];simp only [Bq0];rw [(hS.pl hp).1]
theorem Kk (h:Few s 800000 σ) (d p q n:Int):ZjQ (hal s σ) d p q n=some (hal s (tell d p q n σ)):=by
 unfold ZjQ;show(app 32 σ.ev _).bind _=_;rw [app1 (by have:=h.ev;omega) (by decide)];rfl
theorem Zw9 (h:Few s B σ) (ha:a < mm s) (hb:b < mm s) (x:Zd):tab (mm s * mm s) (ZY (KT σ) (li s a b) ⟨(σ.ld (li s a b):Int),(σ.sn (li s a b)).drop (σ.ld (li s a b)) ++ [x]⟩)=tab (mm s * mm s) (KT (send s a b x σ)):=by
 refine U2 fun k hk=>?_
 by_cases e:k=li s a b
 ·subst e;rw [Zq];show _= (⟨_,(ZY σ.sn (li s a b) _ (li s a b)).drop _⟩:Zn);rw [Zq];show _= (⟨_,(σ.sn (li s a b) ++ [x]).drop (σ.ld (li s a b))⟩:Zn);rw [List.drop_append_of_le_length (h.ld _ hk)];rfl
 ·rw [ZA e];show _= (⟨_,(ZY σ.sn (li s a b) _ k).drop _⟩:Zn);rw [ZA e];rfl
theorem Zas (hS:XO s) (h:Few s 800000 σ) (ha:a < mm s) (hb:b < mm s) (x:Zd):Zl4 (hal s σ) (a:Int) (b:Int) x=some (hal s (send s a b x σ)):=by
 unfold Zl4;show(ZM (tab (mm s * mm s) (KT σ)) (YA (YA ((a:Int) * s.qG) + (b:Int)))).bind _=_;have hl:=Ua ha hb;rw [Zce hS ha hb,Yu hl];simp only [Bq0];have:((KT σ (li s a b)).kG).length <=900000:=by have:=h.sn _ hl;unfold KT;simp;omega
 rw [app1 this (by decide)];simp only [Bq0];show some (ZC.mk (Zi.mk _ _ _ _ _ (Y4 (tab (mm s * mm s) (KT σ)) (YA (YA ((a:Int) * s.qG) + (b:Int))) _) _) _ _)=_;rw [Zce hS ha hb,QI,show(KT σ (li s a b)).ZQ= (σ.ld (li s a b):Int) from rfl,show(KT σ (li s a b)).kG= (σ.sn (li s a b)).drop (σ.ld (li s a b)) from rfl,Zw9 h ha hb x];rfl
theorem Zkk (h:Few s 800000 σ) (ha:a < mm s) (x:Zd):ZkR (hal s σ) (a:Int) x=some (hal s (wait a x σ)):=by
 unfold ZkR;show(ZM (tab (mm s) σ.be) (a:Int)).bind _=_;rw [Yu ha];simp only [Bq0];rw [app1 (by have:=h.be a ha;omega) (by decide)];simp only [Bq0];show(ZM (tab (mm s) σ.be) (a:Int)).bind (fun _=>some (ZC.mk (Zi.mk _ _ _ _ (Y4 (tab (mm s) σ.be) (a:Int) _) _ _) _ _))=_;rw [Yu ha,QI];rfl
theorem ZnU (hS:XO s) (hq:q < nn s):app 8 ([]:List Int) (J9 s σ q)=some (J9 s σ q):=by
 have:(J9 s σ q).length <=16:=by unfold J9;rw [Qo];exact Nat.mul_le_mul hS.mm.2.2 hS.mm.2.2
 rw [Zuw (by simp;omega)];rfl
theorem ZeO (a b:Nat):(((a:Int))== ((b:Int)))=decide (a=b):=by
 rw [Xa];by_cases h:a=b
 ·subst h;simp
 ·rw [decide_eq_false h,decide_eq_false (by omega)]
theorem ZkZ (hS:XO s) (h:Few s 800000 σ) (hp:p < nn s) (hq:q < nn s):Zt3 (hal s σ) (p:Int) (q:Int)=some (hal s (Y5 s p q σ)):=by
 unfold Zt3 ZgL;show(ZM (tab (nn s) fun p=>tab (mm s * mm s) (σ.ma p)) (q:Int)).bind _=_;rw [Yu hq];simp only [Bq0];rw [show app 8 ([]:List Int) (tab (mm s * mm s) (σ.ma q))=some (J9 s σ q) from ZnU hS hq];simp only [Bq0];rw [UR hS hp,UR hS hq];simp only [Bq0];rw [ZeO];unfold Y5;by_cases e:pl s p=pl s q
 ·rw [decide_eq_true e,Cq1,if_pos e,Zkk h (hS.pl hp).2];rfl
 ·rw [decide_eq_false e,Cq0,if_neg e,Zas hS h (hS.pl hq).2 (hS.pl hp).2];rfl
theorem Znu (h:Few s 800000 σ) {x:Zd} (hx:x.kX= (p:Int)) (hp:p < nn s):Zt5 (hal s σ) x=some (hal s (if σ.st p=1 then tell 2 p x.kV x.n σ else σ)):=by
 unfold Zt5;rw [hx];show(ZM (tab (nn s) σ.st) (p:Int)).bind _=_;rw [Yu hp];simp only [Bq0];rw [Xa];by_cases e:σ.st p=1
 ·rw [decide_eq_true e,Cq1,if_pos e,Kk h];rfl
 ·rw [decide_eq_false e,Cq0,if_neg e]
theorem ZkC (hS:XO s) (h:Few s 800000 σ) {x:Zd} (hx:x.kV= (p:Int)) (hy:x.kX= (q:Int)) (hp:p < nn s) (hq:q < nn s):Zt4 (hal s σ) x=some (hal s (note s p q σ)):=by
 unfold Zt4;rw [hx,hy];show(ZM (tab (nn s) σ.st) (q:Int)).bind _=_;rw [Yu hq];simp only [Bq0];unfold note;rw [Xa];by_cases e:σ.st q=3
 ·rw [decide_eq_true e,Cq1,if_pos e,ZkZ hS h hp hq];rfl
 ·rw [decide_eq_false e,Cq0,if_neg e];show(ZM (tab (nn s) σ.wa) (q:Int)).bind _=_;rw [Yu hq];simp only [Bq0];rw [app1 (by have:=h.wa _ hq;omega) (by decide)];simp only [Bq0];show(ZM (tab (nn s) σ.wa) (q:Int)).bind (fun _=>some (ZC.mk (Zi.mk _ _ _ (Y4 (tab (nn s) σ.wa) (q:Int) _) _ _ _) _ _))=_;rw [Yu hq,QI];rfl
end
end
section
def Alo (s:Zb) (σ:TS) (p:Nat):Prop:=∀ k:Nat,k < nn s ->inn s (k:Int)= (p:Int) ->(k:Int) ∈ σ.kn p
def ins (k:Int) (l:List Int):List Int:=l.takeWhile (fun x=>decide (x < k)) ++ k::l.dropWhile (fun x=>decide (x < k))
def mx (f:Nat ->Int) (l:List Int) (i:Nat):Int:=if l.getD i 0 > f i then l.getD i 0 else f i
theorem ZCN:∀ (l:List Int) (a b:Int),l.Pairwise (· < ·) ->(∀ x ∈ l,a <=x∧x < b) ->(l.length:Int) <=max 0 (b - a):=by
 intro l
 induction l with
 | nil=>intro a b _ _;simp;omega
 | cons x xs ih=>
   intro a b h1 h2;obtain⟨p1,p2⟩:=List.pairwise_cons.1 h1;have:=ih (x + 1) b p2 fun y hy=>⟨by have:=p1 y hy;omega,(h2 y (by simp [hy])).2⟩
   have:=h2 x (by simp);rw [List.length_cons];omega
section
variable {s:Zb} {σ:TS} {F p k q:Nat}
theorem Zxm {l:List Int} (hF:1000 <=F) (hl:l.length <=500) (x:Int):∃ r,Zot F l x=some r∧(r >=0↔x ∈ l):=by
 unfold Zot;by_cases hz:∃ j,j < l.length∧l.getD j 0=x
 ·obtain⟨j,hj⟩:=hz;obtain⟨m,_,⟨hm,hx⟩,hlt⟩:=KJ (c:=fun j=>j < l.length∧l.getD j 0=x) hj;refine⟨(m:Int),Y9 (fun k=>(k:Int)) rfl (n:=m) (by omega) (fun k hk next=>?_) (fun next=>?_),?_⟩
  ·unfold Zc1;rw [YN (show k < l.length by omega),Cq1,Qr 0 (show k < l.length by omega)];simp only [Bq0];rw [Xa,decide_eq_false (fun e=>hlt k hk ⟨by omega,e.symm⟩),Cq0,Qw (by omega)]
  ·unfold Zc1;rw [YN hm,Cq1,Qr 0 hm];simp only [Bq0];rw [Xa,decide_eq_true hx.symm,Cq1]
  ·exact⟨fun _=>by rw [← hx];exact Xe hm,fun _=>by omega⟩
 ·refine⟨-1,Y9 (fun k=>(k:Int)) rfl (n:=l.length) (by omega) (fun k hk next=>?_) (fun next=>?_),?_⟩
  ·unfold Zc1;rw [YN hk,Cq1,Qr 0 hk];simp only [Bq0];rw [Xa,decide_eq_false (fun e=>hz ⟨k,hk,e.symm⟩),Cq0,Qw (by omega)]
  ·unfold Zc1;rw [Y1,Cq0]
  ·refine⟨fun h=>by omega,fun h=>?_⟩;obtain⟨j,hj,e⟩:=List.getElem_of_mem h;exact absurd ⟨j,hj,by rw [UK hj];exact e⟩ hz
theorem contains_eq {l:List Int} (hF:1000 <=F) (hl:l.length <=500) (x:Int):Zt2 F l x=some (decide (x ∈ l)):=by
 obtain⟨r,h1,h2⟩:=Zxm (F:=F) hF hl x;unfold Zt2;rw [h1];simp only [Bq0];congr 1;by_cases h:x ∈ l
 ·rw [decide_eq_true h,decide_eq_true (h2.2 h)]
 ·rw [decide_eq_false h,decide_eq_false fun q=>h (h2.1 q)]
theorem ZdX (hF:1000 <=F) (hS:XO s) (hp:p < nn s) (hl:(σ.kn p).length <=500):Zor F (hal s σ) (p:Int)=ifc (Alo s σ p) (some true) (some false):=by
 unfold Zor Zl3;simp only [Bq0];have h8:=hS.p2
 have e:=Za4 (body:=ZiU F (hal s σ) (p:Int)) (r1:=some false) (r2:=some true) (s0:= ((0:Int),false)) (fun k=>((k:Int),false)) rfl (fun k:Nat=>inn s (k:Int)= (p:Int) ->(k:Int) ∈ σ.kn p) (n:=nn s) (F:=F) (by unfold nn;omega) (fun k hk next=>by
  unfold ZiU;dsimp only;rw [show(hal s σ).qK.Ze=s.Ze from rfl,show((s.Ze.length:Nat):Int)= ((nn s:Nat):Int) from rfl,YN hk,Cq1,Xi hk];simp only [Bq0];rw [Q6,Xa];by_cases e:inn s (k:Int)= (p:Int)
  ·rw [decide_eq_true e,Cq1,Cq0];show(ZM (tab (nn s) σ.kn) (p:Int)).bind _=_;rw [Yu hp];simp only [Bq0];rw [contains_eq hF hl];simp only [Bq0,Bool.not_false,Bool.not_true,Cq1,Cq0];by_cases m:(k:Int) ∈ σ.kn p
   ·rw [decide_eq_true m,Bool.not_true,Cq0,ZF (fun _=>m),Qw (by unfold nn at hk;omega)]
   ·rw [decide_eq_false m,Bool.not_false,Cq1,ZE (fun z=>m (z e))];rfl
  ·rw [decide_eq_false e,Cq0,ZF (fun z=>absurd z e),Qw (by unfold nn at hk;omega)]) (fun next=>by
  unfold ZiU;dsimp only;rw [show(hal s σ).qK.Ze=s.Ze from rfl,show((s.Ze.length:Nat):Int)= ((nn s:Nat):Int) from rfl,Y1,Cq0]
  rfl)
 rw [e];rfl
def ZGQ (s:Zb) (p:Nat):List Nat:= (List.range (nn s)).filter fun q:Nat=>inn s (q:Int)== (p:Int)
theorem Zxh:k ∈ ZGQ s p↔k < nn s∧inn s (k:Int)= (p:Int):=by unfold ZGQ;simp
end
theorem Zkl {l:List Int} {k:Int}:(l.takeWhile fun x=>decide (x < k)).length <=l.length:=by
 induction l with
 | nil=>simp
 | cons x xs ih=>
   rw [List.takeWhile_cons];by_cases h:x < k <;> simp [h];omega
theorem ZKF {l:List Int} {k:Int}:∀ j,j < (l.takeWhile fun x=>decide (x < k)).length ->l.getD j 0 < k:=by
 induction l with
 | nil=>intro j hj;simp at hj
 | cons x xs ih=>
   intro j hj;rw [List.takeWhile_cons] at hj;by_cases h:x < k
   ·rw [decide_eq_true h,if_pos rfl,List.length_cons] at hj;cases j with
    | zero=>simpa using h
    | succ j=>have:=ih j (by omega);simpa using this
   ·rw [decide_eq_false h] at hj;simp at hj
theorem ZKG {l:List Int} {k:Int} (hs:l.Pairwise (· < ·)):∀ j,(l.takeWhile fun x=>decide (x < k)).length <=j ->j < l.length ->k <=l.getD j 0:=by
 induction l with
 | nil=>intro j _ hj;simp at hj
 | cons x xs ih=>
   intro j h1 h2;obtain⟨p1,p2⟩:=List.pairwise_cons.1 hs;rw [List.takeWhile_cons] at h1;by_cases h:x < k
   ·rw [decide_eq_true h,if_pos rfl,List.length_cons] at h1;cases j with
    | zero=>omega
    | succ j=>have:=ih p2 j (by omega) (by simpa using h2);simpa using this
   ·cases j with
    | zero=>simpa using h
    | succ j=>
      have hj:j < xs.length:=by simpa using h2
      have:=p1 _ (Xe (d:=0) hj);simp only [List.getD_cons_succ];omega
theorem Znl {l:List Int} {k:Int}:l.take (l.takeWhile fun x=>decide (x < k)).length=l.takeWhile (fun x=>decide (x < k))∧l.drop (l.takeWhile fun x=>decide (x < k)).length=l.dropWhile (fun x=>decide (x < k)):=by
 have h:=List.takeWhile_append_dropWhile (p:=fun x:Int=>decide (x < k)) (l:=l)
 constructor
 ·conv=>lhs;rw [← h]
  rw [List.takeWhile_append_dropWhile];have:∀ (a b:List Int),(a ++ b).take a.length=a:=fun a b=>by simp
  conv=>lhs;arg 2;rw [← h]
  exact this _ _
 ·have:∀ (a b:List Int),(a ++ b).drop a.length=b:=fun a b=>by simp
  conv=>lhs;arg 2;rw [← h]
  exact this _ _
theorem ZGU (k:Int) (l:List Int):ins k l=l.take (l.takeWhile fun x=>decide (x < k)).length ++ k::l.drop (l.takeWhile fun x=>decide (x < k)).length:=by
 unfold ins;rw [Znl.1,Znl.2]
theorem Wi {k x:Int} {l:List Int}:x ∈ ins k l↔x=k∨x ∈ l:=by
 unfold ins
 conv=>rhs;rhs;rw [← List.takeWhile_append_dropWhile (p:=fun x:Int=>decide (x < k)) (l:=l)]
 simp only [List.mem_append,List.mem_cons]
 constructor
 ·rintro(h | h | h)
  ·exact .inr (.inl h)
  ·exact .inl h
  ·exact .inr (.inr h)
 ·rintro(h | h | h)
  ·exact .inr (.inl h)
  ·exact .inl h
  ·exact .inr (.inr h)
theorem Zqh {k:Int}:∀ {l:List Int},l.Pairwise (· < ·) ->k ∉ l ->(ins k l).Pairwise (· < ·):=by
 intro l
 induction l with
 | nil=>intro _ _;simp [ins]
 | cons x xs ih=>
   intro hs hk;obtain⟨p1,p2⟩:=List.pairwise_cons.1 hs;simp at hk;by_cases h:x < k
   ·have e:ins k (x::xs)=x::ins k xs:=by unfold ins;simp [List.takeWhile_cons,List.dropWhile_cons,h]
    rw [e]
    exact List.pairwise_cons.2 ⟨fun y hy=>by rcases Wi.1 hy with z | z;· rw [z];exact h
                                             ·exact p1 y z,ih p2 hk.2⟩
   ·have e:ins k (x::xs)=k::x::xs:=by unfold ins;simp [List.takeWhile_cons,List.dropWhile_cons,h]
    rw [e]
    exact List.pairwise_cons.2 ⟨fun y hy=>by rcases List.mem_cons.1 hy with z | z;· rw [z];omega
                                             ·have:=p1 y z;omega,hs⟩
theorem ZAY (a b:Int):Zou a b=some (decide (a < b)):=by
 unfold Zou ZkQ;simp [gd]
theorem Zkp {F:Nat} {l:List Int} {k:Int} (hF:1000 <=F) (hl:l.length <=500) (hs:l.Pairwise (· < ·)) (hk:k ∉ l):ZkP F l k=some (((l.takeWhile fun x=>decide (x < k)).length:Int),false):=by
 unfold ZkP;obtain⟨c,hc⟩:∃ c,c= (l.takeWhile fun x=>decide (x < k)).length:= ⟨_,rfl⟩
 have h1:∀ j,j < c ->l.getD j 0 < k:=fun j hj=>ZKF j (by omega)
 have h2:∀ j,c <=j ->j < l.length ->k <=l.getD j 0:=fun j a b=>ZKG hs j (by omega) b
 have hcl:c <=l.length:=by rw [hc];exact Zkl
 rw [← hc]
 have key:∀ d F i j:Nat,d < F ->j - i <=d ->i <=c ->c <=j ->j <=l.length ->loop F (ZeF l k) ((i:Int),(j:Int))=some ((c:Int),false):=by
  intro d
  induction d with
  | zero=>
    intro F i j hF hd hi hj hjl;have:i=c:=by omega
    subst this;have:j=i:=by omega
    subst this;cases F with
    | zero=>omega
    | succ F=>
      rw [Uu];unfold ZeF;dsimp only;rw [Y1,Cq0,ZGJ];by_cases hlt:j < l.length
      ·rw [decide_eq_true hlt,Qr 0 hlt];have:l.getD j 0 ≠ k:=fun e=>hk (by rw [← e];exact Xe hlt)
       rw [QO];simp only [Bq0];rw [Xa,decide_eq_false this];simp [gd,ZkN,Qr 0 hlt]
      ·rw [decide_eq_false hlt];simp [gd]
  | succ d ih=>
    intro F i j hF hd hi hj hjl;by_cases hij:i < j
    ·cases F with
     | zero=>omega
     | succ F=>
       rw [Uu];unfold ZeF;dsimp only;have e1:YA ((i:Int) + (j:Int))= ((i + j:Nat):Int):=by rw [Zab (by omega) (by omega)];omega
       have e2:IntKind.wrap .u64 (((i + j:Nat):Int))= ((i + j:Nat):Int):=by
        show(((i + j:Nat):Int)) % 18446744073709551616=_;omega
       have e3:YA ((((i + j:Nat):Int)) / 2)= (((i + j) / 2:Nat):Int):=by rw [Zab (by omega) (by omega)];omega
       obtain⟨m,hm⟩:∃ m,m= (i + j) / 2:= ⟨_,rfl⟩
       rw [YN hij,Cq1,e1,e2,e3,← hm,Qr 0 (by omega)];simp only [Bq0];rw [ZAY];simp only [Bq0];by_cases hx:l.getD m 0 < k
       ·rw [decide_eq_true hx,Cq1,Qw (by omega)];have:m < c:=Classical.byContradiction fun z=>by have:=h2 m (by omega) (by omega);omega
        exact ih F (m + 1) j (by omega) (by omega) (by omega) hj hjl
       ·rw [decide_eq_false hx,Cq0];have:c <=m:=Classical.byContradiction fun z=>by have:=h1 m (by omega);omega
        exact ih F i m (by omega) (by omega) hi this (by omega)
    ·exact ih F i j (by omega) (by omega) hi hj hjl
 have:=key l.length F 0 l.length (by omega) (by omega) (Nat.zero_le _) hcl (Nat.le_refl _);exact this
theorem insert_eq {l:List Int} {k:Int} (hl:l.length <=500):Zos l ((l.takeWhile fun x=>decide (x < k)).length:Int) [k]=some (ins k l):=by
 unfold Zos;have:=Zkl (l:=l) (k:=k);rw [Nm0 (by omega),decide_eq_true (show(0:Int) <= ((l.takeWhile fun x=>decide (x < k)).length:Int) by omega),decide_eq_true (show((l.takeWhile fun x=>decide (x < k)).length:Int) <= (l.length:Int) by omega)];show some _=_;rw [Int.toNat_natCast,ZGU,List.append_assoc];rfl
theorem Zp8 {β:Type} {F n:Nat} {f:Nat ->Int} {l:List Int} {r:Option β} (hF:n < F) (hn:n <=1000) (hl:l.length=n) {body:Int×List Int ->(Int×List Int ->Option β) ->Option β}
 (hb:∀ v8 (k:Nat),k < n ->∀ next,body ((k:Int),v8) next= (ZM l (k:Int)).bind fun x=>(ZM v8 (k:Int)).bind fun y=>(ZM v8 (k:Int)).bind fun z=>next (YA ((k:Int) + 1),Y4 v8 (k:Int) (if x > y then x else y)))
 (he:∀ next,body ((n:Int),tab n (mx f l)) next=r):loop F body (0,tab n f)=r:=by
 refine Y9 (fun k=>((k:Int),tab n fun i=>if i < k then mx f l i else f i)) (by simp) hF (fun k hk next=>?_) (fun next=>?_)
 ·rw [hb _ _ hk,Qr 0 (by rw [hl];exact hk)];simp only [Bq0];rw [Yu hk];simp only [Bq0];rw [if_neg (Nat.lt_irrefl _),QI,Qw (by omega)];congr 2;refine U2 fun i hi=>?_
  unfold ZY;by_cases e:i=k
  ·subst e;rw [if_pos rfl,if_pos (Nat.lt_succ_self _)];rfl
  ·rw [if_neg e];show(if i < k then mx f l i else f i)=_;by_cases h:i < k
   ·rw [if_pos h,if_pos (by omega)]
   ·rw [if_neg h,if_neg (by omega)]
 ·have:(tab n fun i=>if i < n then mx f l i else f i)=tab n (mx f l):=U2 fun i hi=>by rw [if_pos hi]
  show body ((n:Int),tab n fun i=>if i < n then mx f l i else f i) next=r;rw [this];exact he next
section
variable {F n:Nat} {f:Nat ->Int} {l:List Int}
theorem Zey (hF:1000 <=F) (hn:n <=500) (hl:l.length=n):ZkO F [tab n f,l]=some (tab n (mx f l)):=by
 unfold ZkO ZgL;have e0:ZM [tab n f,l] 0=some (tab n f):=rfl;rw [e0];simp only [Bq0];rw [Zuw (by rw [Qo];simp;omega)];simp only [Bq0,List.nil_append];have e1:slL [tab n f,l] 1 (([tab n f,l].length:Nat):Int)=some [l]:=rfl;rw [e1];simp only [Bq0];refine Y9 (fun k=>((k:Int),if k=0 then tab n f else tab n (mx f l))) rfl (n:=1) (by omega) (fun k hk next=>?_) (fun next=>?_)
 ·have:k=0:=by omega
  subst this;unfold Zho;dsimp only;rw [show decide (((0:Nat):Int) < (([l].length:Nat):Int))=true from rfl,Cq1,show ZM [l] ((0:Nat):Int)=some l from rfl];simp only [Bq0];refine Zp8 (by omega) (by omega) hl (fun v8 k hk next=>?_) (fun next'=>?_)
  ·unfold Zhn;dsimp only;rw [hl,YN hk,Cq1]
  ·unfold Zhn;dsimp only;rw [hl,Y1,Cq0];rfl
 ·unfold Zho;dsimp only;rw [show decide (((1:Nat):Int) < (([l].length:Nat):Int))=false from rfl,Cq0];rfl
end
end
section
def Qh (n:Nat) (f:Nat ->Nat):Nat:= ((List.range n).map f).sum
section
variable {n k:Nat} {f g:Nat ->Nat}
theorem Kl:Qh (n + 1) f=Qh n f + f n:=by simp [Qh,List.range_succ]
theorem ZaT (h:∀ k,k < n ->f k=g k):Qh n f=Qh n g:=by
 unfold Qh;rw [List.map_congr_left fun k hk=>h k (List.mem_range.1 hk)]
theorem ZAE (h:∀ k,k < n ->f k <=g k):Qh n f <=Qh n g:=by
 induction n with
 | zero=>simp [Qh]
 | succ n ih=>rw [Kl,Kl];have:=ih fun k hk=>h k (by omega);have:=h n (by omega);omega
theorem UE (h:k < n):f k <=Qh n f:=by
 induction n with
 | zero=>omega
 | succ n ih=>
   rw [Kl];by_cases e:k=n
   ·subst e;omega
   ·have:=ih (by omega);omega
theorem Zno {v:Nat} (h:k < n):Qh n (ZY f k v) + f k=Qh n f + v:=by
 induction n with
 | zero=>omega
 | succ n ih=>
   rw [Kl,Kl];by_cases e:k=n
   ·subst e;rw [Zq,ZaT (f:=ZY f k v) (g:=f) fun j hj=>ZA (by omega)];omega
   ·have:=ih (by omega);rw [ZA (by omega)];omega
theorem ZbX (h:k < n) (hg:∀ j,j < n ->j ≠ k ->g j=f j):Qh n g + f k=Qh n f + g k:=by
 rw [ZaT (f:=g) (g:=ZY f k (g k)) fun j hj=>by
  by_cases e:j=k
  ·subst e;rw [Zq]
  ·rw [ZA e,hg j hj e]]
 exact Zno h
theorem ZhJ (n c:Nat):Qh n (fun _=>c)=n * c:=by
 induction n with
 | zero=>simp [Qh]
 | succ n ih=>rw [Kl,ih,Nat.succ_mul]
end
def ew (x:Zd):Nat:=if x.kW=1 then 1 else if x.kW=2 then 2 else if x.kW=5 then 1 else 0
def sw (x:Int):Nat:=if x=1 then 11 else if x=3 then 0 else 2
def fl (σ:TS) (i:Nat):List Zd:= (σ.sn i).drop (σ.ld i)
def lw (σ:TS) (i:Nat):Nat:= (σ.sn i).length + ((fl σ i).map ew).sum
def Pot (s:Zb) (σ:TS):Nat:=σ.ev.length + Qh (mm s * mm s) (lw σ) + Qh (mm s) (fun m=>(σ.be m).length) + Qh (nn s) (fun q=>2 * (σ.wa q).length) + Qh (nn s) (fun p=>sw (σ.st p))
structure Wf (s:Zb) (B:Nat) (σ:TS):Prop where
 pot:Pot s σ <=B
 ld:∀ i,i < mm s * mm s ->σ.ld i <= (σ.sn i).length
 ws:∀ q,q < nn s ->∀ x ∈ σ.wa q,∃ k:Nat,x= (k:Int)∧k < nn s
section
variable {s:Zb} {σ:TS} {B a b p q m:Nat}
theorem Wf.few (h:Wf s B σ) (hB:B <=800000):Few s 800000 σ:=by
 have hp:=h.pot;unfold Pot at hp;refine⟨by omega,fun i hi=>?_,fun m hm=>?_,fun q hq=>?_,h.ld,h.ws⟩
 ·have:=UE (f:=lw σ) hi;unfold lw at this;unfold lw at hp;omega
 ·have:=UE (f:=fun m=>(σ.be m).length) hm;omega
 ·have:=UE (f:=fun q=>2 * (σ.wa q).length) hq;omega
theorem ZwF (d p q n:Int):Pot s (tell d p q n σ)=Pot s σ + 1:=by
 show(σ.ev ++ [_]).length + Qh (mm s * mm s) (lw σ) + Qh (mm s) (fun m=>(σ.be m).length) + Qh (nn s) (fun q=>2 * (σ.wa q).length) + Qh (nn s) (fun p=>sw (σ.st p))=_;rw [List.length_append,List.length_singleton];unfold Pot;omega
theorem ZsE (hl:σ.ld (li s a b) <= (σ.sn (li s a b)).length) (x:Zd):fl (send s a b x σ) (li s a b)=fl σ (li s a b) ++ [x]:=by
 show(ZY σ.sn (li s a b) _ (li s a b)).drop (σ.ld (li s a b))=_;rw [Zq,List.drop_append_of_le_length hl];rfl
theorem ZiO {i:Nat} (hi:i ≠ li s a b) (x:Zd):fl (send s a b x σ) i=fl σ i:=by
 show(ZY σ.sn (li s a b) _ i).drop (σ.ld i)=_;rw [ZA hi];rfl
theorem ZaU (x:Zd):(send s a b x σ).sn (li s a b)=σ.sn (li s a b) ++ [x]:=Zq _ _ _
theorem Jj {i:Nat} (hi:i ≠ li s a b) (x:Zd):(send s a b x σ).sn i=σ.sn i:=ZA hi
theorem ZwG (ha:a < mm s) (hb:b < mm s) (hl:∀ i,i < mm s * mm s ->σ.ld i <= (σ.sn i).length) (x:Zd):Pot s (send s a b x σ)=Pot s σ + 1 + ew x:=by
 have hi:=Ua ha hb;have h:=ZbX (f:=lw σ) (g:=lw (send s a b x σ)) hi fun j _ hj=>by unfold lw;rw [Jj hj,ZiO hj]
 have e:lw (send s a b x σ) (li s a b)=lw σ (li s a b) + 1 + ew x:=by
  unfold lw;rw [ZaU,ZsE (hl _ hi),List.length_append,List.map_append,List.sum_append];simp;omega
 show σ.ev.length + Qh (mm s * mm s) (lw (send s a b x σ)) + Qh (mm s) (fun m=>(σ.be m).length) + Qh (nn s) (fun q=>2 * (σ.wa q).length) + Qh (nn s) (fun p=>sw (σ.st p))=_;unfold Pot;omega
theorem ZpZ (hm:m < mm s) (l:List Zd):Pot s {σ with be:=ZY σ.be m l} + (σ.be m).length=Pot s σ + l.length:=by
 have h:=ZbX (f:=fun m=>(σ.be m).length) (g:=fun j=>(ZY σ.be m l j).length) hm fun j _ hj=>by rw [ZA hj]
 rw [Zq] at h;show σ.ev.length + Qh (mm s * mm s) (lw σ) + Qh (mm s) (fun j=>(ZY σ.be m l j).length) + Qh (nn s) (fun q=>2 * (σ.wa q).length) + Qh (nn s) (fun p=>sw (σ.st p)) + _=_;unfold Pot;omega
theorem ZwE (hm:m < mm s) (x:Zd):Pot s (wait m x σ)=Pot s σ + 1:=by
 have:=ZpZ (σ:=σ) hm (σ.be m ++ [x]);rw [List.length_append,List.length_singleton] at this;unfold wait;omega
theorem ZGB (hq:q < nn s) (l:List Int):Pot s {σ with wa:=ZY σ.wa q l} + 2 * (σ.wa q).length=Pot s σ + 2 * l.length:=by
 have h:=ZbX (f:=fun q=>2 * (σ.wa q).length) (g:=fun j=>2 * (ZY σ.wa q l j).length) hq fun j _ hj=>by rw [ZA hj]
 rw [Zq] at h;show σ.ev.length + Qh (mm s * mm s) (lw σ) + Qh (mm s) (fun m=>(σ.be m).length) + Qh (nn s) (fun j=>2 * (ZY σ.wa q l j).length) + Qh (nn s) (fun p=>sw (σ.st p)) + _=_;unfold Pot;omega
theorem ZGC (hp:p < nn s) (v:Int):Pot s {σ with st:=ZY σ.st p v} + sw (σ.st p)=Pot s σ + sw v:=by
 have h:=ZbX (f:=fun p=>sw (σ.st p)) (g:=fun j=>sw (ZY σ.st p v j)) hp fun j _ hj=>by rw [ZA hj]
 rw [Zq] at h;show σ.ev.length + Qh (mm s * mm s) (lw σ) + Qh (mm s) (fun m=>(σ.be m).length) + Qh (nn s) (fun q=>2 * (σ.wa q).length) + Qh (nn s) (fun j=>sw (ZY σ.st p v j)) + _=_;unfold Pot;omega
theorem ZCa (p q n:Int) (l:List Int):ew ⟨5,p,q,n,l⟩=1:=rfl
theorem Wf.tell (h:Wf s B σ) (d p q n:Int):Wf s (B + 1) (tell d p q n σ):= ⟨by rw [ZwF];have:=h.pot;omega,h.ld,h.ws⟩
theorem Wf.send (h:Wf s B σ) (ha:a < mm s) (hb:b < mm s) (x:Zd):Wf s (B + 1 + ew x) (send s a b x σ):=by
 refine⟨by rw [ZwG ha hb h.ld];have:=h.pot;omega,fun i hi=>?_,h.ws⟩;show σ.ld i <=_;by_cases e:i=li s a b
 ·subst e;rw [ZaU,List.length_append];have:=h.ld _ hi;omega
 ·rw [Jj e];exact h.ld i hi
theorem Wf.wait (h:Wf s B σ) (hm:m < mm s) (x:Zd):Wf s (B + 1) (wait m x σ):= ⟨by rw [ZwE hm];have:=h.pot;omega,h.ld,h.ws⟩
theorem Wf.up (h:Wf s B σ) {B':Nat} (hb:B <=B'):Wf s B' σ:= ⟨Nat.le_trans h.pot hb,h.ld,h.ws⟩
theorem Wf.Y5 (hS:XO s) (h:Wf s B σ) (hp:p < nn s) (hq:q < nn s):Wf s (B + 2) (Y5 s p q σ):=by
 unfold Proofs.YtcnahmgekicbdaaGreat.Y5;by_cases e:pl s p=pl s q
 ·rw [if_pos e];exact(h.wait (hS.pl hp).2 _).up (by omega)
 ·rw [if_neg e];exact(h.send (hS.pl hq).2 (hS.pl hp).2 _).up (by rw [ZCa];omega)
theorem Wf.wa (h:Wf s B σ) (hq:q < nn s) {l:List Int} (hl:∀ x ∈ l,∃ k:Nat,x= (k:Int)∧k < nn s) {B':Nat} (hB:B + 2 * l.length <=B' + 2 * (σ.wa q).length):Wf s B' {σ with wa:=ZY σ.wa q l}:=by
 refine⟨?_,h.ld,fun j hj x hx=>?_⟩
 ·have:=ZGB (σ:=σ) hq l;have:=h.pot;omega
 ·have hx:x ∈ ZY σ.wa q l j:=hx;by_cases e:j=q
  ·subst e;rw [Zq] at hx;exact hl x hx
  ·rw [ZA e] at hx;exact h.ws j hj x hx
theorem Wf.st (h:Wf s B σ) (hp:p < nn s) (v:Int) {B':Nat} (hB:B + sw v <=B' + sw (σ.st p)):Wf s B' {σ with st:=ZY σ.st p v}:=
 ⟨by have:=ZGC (σ:=σ) hp v;have:=h.pot;omega,h.ld,h.ws⟩
theorem Wf.note (hS:XO s) (h:Wf s B σ) (hp:p < nn s) (hq:q < nn s):Wf s (B + 2) (note s p q σ):=by
 unfold Proofs.YtcnahmgekicbdaaGreat.note;by_cases e:σ.st q=3
 ·rw [if_pos e];exact h.Y5 hS hp hq
 ·rw [if_neg e]
  exact h.wa hq (fun x hx=>by
   rcases List.mem_append.1 hx with hx | hx
   ·exact h.ws q hq x hx
   ·rw [List.mem_singleton.1 hx];exact⟨p,rfl,hp⟩) (by rw [List.length_append,List.length_singleton];omega)
theorem Wf.see (h:Wf s B σ) (p q:Nat) (n:Int):Wf s (B + 1) (see p q n σ):=by
 unfold Proofs.YtcnahmgekicbdaaGreat.see;by_cases e:σ.st p=1
 ·rw [if_pos e];exact h.tell _ _ _ _
 ·rw [if_neg e];exact h.up (by omega)
end
end
section
structure Kn (s:Zb) (σ:TS):Prop where
 srt:∀ q,q < nn s ->(σ.kn q).Pairwise (· < ·)
 rng:∀ q,q < nn s ->∀ x ∈ σ.kn q,∃ k:Nat,x= (k:Int)∧k < nn s∧inn s (k:Int)= (q:Int)∧σ.st k=3
noncomputable section
variable (s:Zb)
def ZbJ (σ:TS) (p K:Nat) (i:Nat):Int:=if i / mm s=pl s p∧i % mm s < K∧i % mm s ≠ pl s p then((σ.sn i).length:Int) else σ.ma p i
def Jm (p:Nat) (σ:TS):TS:= {σ with st:=ZY σ.st p 3,ev:=σ.ev ++ [⟨6,(p:Int),0,0⟩],wa:=ZY σ.wa p []}
def Zu (p:Nat) (l:List Int) (σ:TS):TS:=l.foldl (fun σ x=>Y5 s x.toNat p σ) σ
def ZON (p:Nat) (σ:TS):TS:= {σ with ma:=ZY σ.ma p (ZbJ s σ p (mm s))}
def Z6 (p:Nat) (σ:TS):TS:=ZON s p (Zu s p (σ.wa p) (Jm p σ))
def Yy (k:Nat) (l:List Int) (σ:TS):TS:= {σ with kn:=ZY σ.kn (inn s (k:Int)).toNat (ins (k:Int) (σ.kn (inn s (k:Int)).toNat)),ma:=ZY σ.ma (inn s (k:Int)).toNat (mx (σ.ma (inn s (k:Int)).toNat) l)}
def WA (die:Nat ->TS ->TS) (k:Nat) (l:List Int) (σ:TS):TS:=
 ifc ((Yy s k l σ).st (inn s (k:Int)).toNat=2∧Alo s (Yy s k l σ) (inn s (k:Int)).toNat) (die (inn s (k:Int)).toNat (Yy s k l σ)) (Yy s k l σ)
def Zje (die:Nat ->TS ->TS) (p:Nat) (σ:TS):TS:=
 if inn s (p:Int) < 0 then σ
 else if pl s (inn s (p:Int)).toNat=pl s p then WA s die p (J9 s σ p) σ
 else send s (pl s p) (pl s (inn s (p:Int)).toNat) ⟨4,(p:Int),0,0,J9 s σ p⟩ σ
def Zgb:Nat ->Nat ->TS ->TS
 | 0,_,σ=>σ
 | d + 1,p,σ=>Zje s (Zgb d) p (Z6 s p σ)
end
section
variable {s:Zb} {σ:TS} {F B p q:Nat}
theorem ZlF:ZC.mk (Zi.mk (tab (nn s) σ.st) (tab (nn s) fun p=>tab (mm s * mm s) (σ.ma p)) (tab (nn s) σ.kn) (tab (nn s) σ.wa) (tab (mm s) σ.be) (tab (mm s * mm s) (KT σ)) σ.sd) (Zb.mk s.qG s.Ze) σ.ev=hal s σ:=rfl
theorem Zbj (p q:Nat) (σ:TS):(Y5 s p q σ).st=σ.st∧(Y5 s p q σ).kn=σ.kn∧(Y5 s p q σ).ma=σ.ma∧(Y5 s p q σ).ld=σ.ld∧(Y5 s p q σ).sd=σ.sd∧(Y5 s p q σ).ev=σ.ev∧(Y5 s p q σ).wa=σ.wa:=by
 unfold Y5;split <;> exact⟨rfl,rfl,rfl,rfl,rfl,rfl,rfl⟩
theorem ZaG (p:Nat):∀ (l:List Int) (σ:TS),(Zu s p l σ).st=σ.st∧(Zu s p l σ).kn=σ.kn∧(Zu s p l σ).ma=σ.ma∧(Zu s p l σ).ld=σ.ld∧(Zu s p l σ).sd=σ.sd∧(Zu s p l σ).ev=σ.ev∧(Zu s p l σ).wa=σ.wa:=by
 intro l
 induction l with
 | nil=>intro σ;exact⟨rfl,rfl,rfl,rfl,rfl,rfl,rfl⟩
 | cons x l ih=>
   intro σ;have h1:=ih (Y5 s x.toNat p σ);have h2:=Zbj (s:=s) x.toNat p σ;have e:Zu s p (x::l) σ=Zu s p l (Y5 s x.toNat p σ):=rfl;rw [e];exact⟨h1.1.trans h2.1,h1.2.1.trans h2.2.1,h1.2.2.1.trans h2.2.2.1,h1.2.2.2.1.trans h2.2.2.2.1,h1.2.2.2.2.1.trans h2.2.2.2.2.1,h1.2.2.2.2.2.1.trans h2.2.2.2.2.2.1,h1.2.2.2.2.2.2.trans h2.2.2.2.2.2.2⟩
theorem Zq7 (p k:Nat) (l:List Int) (hk:k < l.length) (σ:TS):Zu s p (l.take (k + 1)) σ=Y5 s (l.getD k 0).toNat p (Zu s p (l.take k) σ):=by
 unfold Zu;rw [List.take_succ_eq_append_getElem hk,List.foldl_append,UK hk];rfl
theorem ZhF (hS:XO s) (hp:p < nn s):∀ (l:List Int) (B:Nat) (σ:TS),Wf s B σ ->(∀ x ∈ l,∃ k:Nat,x= (k:Int)∧k < nn s) ->Wf s (B + 2 * l.length) (Zu s p l σ):=by
 intro l
 induction l with
 | nil=>intro B σ h _;exact h
 | cons x l ih=>
   intro B σ h hx;obtain⟨k,e,hk⟩:=hx x (by simp);have h1:=ih (B + 2) (Y5 s x.toNat p σ) (by rw [e,Int.toNat_natCast];exact h.Y5 hS hk hp) (fun y hy=>hx y (by simp [hy]));exact h1.up (by rw [List.length_cons];omega)
theorem ZvH {x:Int} (h:x ≠ 3):2 <=sw x:=by
 unfold sw;by_cases e:x=1
 ·rw [if_pos e];omega
 ·rw [if_neg e,if_neg h];omega
theorem Zlc (h:Wf s B σ) (hp:p < nn s) (h3:σ.st p ≠ 3):2 <=B∧Wf s (B - 1 - 2 * (σ.wa p).length) (Jm p σ)∧2 * (σ.wa p).length + 2 <=B:=by
 have h2:=ZvH h3
 have ZZS:2 + 2 * (σ.wa p).length <=Pot s σ:=by
  have a1:=UE (f:=fun p=>sw (σ.st p)) hp;have a2:=UE (f:=fun q=>2 * (σ.wa q).length) hp;unfold Pot;omega
 have hb:=h.pot;have w1:=h.st hp (3:Int) (B':=B - 2) (by rw [show sw (3:Int)=0 from rfl];omega);have w2:=w1.tell 6 (p:Int) 0 0
 have w3:=w2.wa (l:= []) hp (by simp) (B':=B - 1 - 2 * (σ.wa p).length) (by
  show _ <=_ + 2 * (σ.wa p).length;simp;omega)
 exact⟨by omega,w3,by omega⟩
theorem Wf.ma (h:Wf s B σ) (f:Nat ->Nat ->Int):Wf s B {σ with ma:=f}:= ⟨h.pot,h.ld,h.ws⟩
theorem Zap {k:Nat} {l:List Int} (h:Wf s B σ):Wf s B (Yy s k l σ):= ⟨h.pot,h.ld,h.ws⟩
theorem ZrC (hS:XO s) (h:Wf s B σ) (hp:p < nn s) (h3:σ.st p ≠ 3):Wf s (B - 1) (Z6 s p σ):=by
 obtain⟨h1,h2,h4⟩:=Zlc h hp h3;have:=ZhF hS hp (σ.wa p) _ _ h2 (h.ws p hp);exact(this.up (by omega)).ma _
theorem Qg (p:Nat) (σ:TS):(Z6 s p σ).st=ZY σ.st p 3∧(Z6 s p σ).kn=σ.kn∧(Z6 s p σ).ld=σ.ld∧(Z6 s p σ).sd=σ.sd∧(Z6 s p σ).ev=σ.ev ++ [⟨6,(p:Int),0,0⟩]∧(Z6 s p σ).wa=ZY σ.wa p []:=by
 have h:=ZaG (s:=s) p (σ.wa p) (Jm p σ);exact⟨h.1,h.2.1,h.2.2.2.1,h.2.2.2.2.1,h.2.2.2.2.2.1,h.2.2.2.2.2.2⟩
theorem Zsg (h:Kn s σ) (p:Nat):Kn s (Z6 s p σ):=by
 have e:=Qg (s:=s) p σ;refine⟨fun q hq=>by rw [e.2.1];exact h.srt q hq,fun q hq x hx=>?_⟩;rw [e.2.1] at hx;obtain⟨k,h1,h2,h3,h4⟩:=h.rng q hq x hx;refine⟨k,h1,h2,h3,?_⟩;rw [e.1];by_cases z:k=p
 ·subst z;exact Zq _ _ _
 ·rw [ZA z];exact h4
theorem Kn.len (hS:XO s) (h:Kn s σ) (hq:q < nn s):(σ.kn q).length <=8:=by
 have:=ZCN (σ.kn q) 0 (nn s) (h.srt q hq) fun x hx=>by
  obtain⟨k,e,hk,_⟩:=h.rng q hq x hx;omega
 have h8:=hS.p2;unfold nn at this;omega
theorem QB (hS:XO s) (hp:p < nn s) (h0:¬ inn s (p:Int) < 0):inn s (p:Int)= ((inn s (p:Int)).toNat:Int)∧(inn s (p:Int)).toNat < nn s:=by
 obtain⟨k,e,hk⟩:=K3 (hS.inn.rng p hp) h0;rw [e,Int.toNat_natCast];exact⟨rfl,hk⟩
theorem U7 (hS:XO s) (h:Kn s σ) (hp:p < nn s) (h0:¬ inn s (p:Int) < 0) (h3:σ.st p=3) (hn:(p:Int) ∉ σ.kn (inn s (p:Int)).toNat) (l:List Int):Kn s (Yy s p l σ):=by
 obtain⟨e,hq⟩:=QB hS hp h0;refine⟨fun q hq'=>?_,fun q hq' x hx=>?_⟩
 ·show(ZY σ.kn _ _ q).Pairwise _;by_cases z:q= (inn s (p:Int)).toNat
  ·subst z;rw [Zq];exact Zqh (h.srt _ hq) hn
  ·rw [ZA z];exact h.srt q hq'
 ·have hx:x ∈ ZY σ.kn _ _ q:=hx;by_cases z:q= (inn s (p:Int)).toNat
  ·subst z;rw [Zq] at hx;rcases Wi.1 hx with w | w
   ·exact⟨p,w,hp,e,h3⟩
   ·exact h.rng _ hq x w
  ·rw [ZA z] at hx;exact h.rng q hq' x hx
theorem Wu {M a b i:Nat} (hb:b < M):i=a * M + b↔i / M=a∧i % M=b:=by
 have hM:0 < M:=by omega
 constructor
 ·intro e;subst e;have e1:(a * M + b) / M=a:=by rw [Nat.mul_comm,Nat.mul_add_div hM,Nat.div_eq_of_lt hb,Nat.add_zero]
  exact⟨e1,by rw [Nat.mul_comm,Nat.mul_add_mod,Nat.mod_eq_of_lt hb]⟩
 ·rintro⟨h1,h2⟩;have:=Nat.div_add_mod i M;rw [h1,h2,Nat.mul_comm] at this;exact this.symm
theorem ZtA (σ:TS) (p i:Nat):ZbJ s σ p 0 i=σ.ma p i:=by unfold ZbJ;rw [if_neg];rintro⟨_,h,_⟩;omega
theorem ZtB {k:Nat} (hk:k < mm s) (hne:k ≠ pl s p) (i:Nat):ZbJ s σ p (k + 1) i=ZY (ZbJ s σ p k) (li s (pl s p) k) ((σ.sn (li s (pl s p) k)).length:Int) i:=by
 unfold ZY;by_cases e:i=li s (pl s p) k
 ·rw [if_pos e];obtain⟨e1,e2⟩:= (Wu hk).1 e;unfold ZbJ;rw [if_pos ⟨e1,by omega,by omega⟩,e]
 ·rw [if_neg e];unfold ZbJ;by_cases c:i / mm s=pl s p∧i % mm s < k∧i % mm s ≠ pl s p
  ·rw [if_pos c,if_pos ⟨c.1,by omega,c.2.2⟩]
  ·rw [if_neg c,if_neg];rintro⟨c1,c2,c3⟩;refine c ⟨c1,?_,c3⟩;have:i % mm s ≠ k:=fun z=>e ((Wu hk).2 ⟨c1,z⟩)
   omega
theorem ZtC {k:Nat} (hne:k=pl s p) (i:Nat):ZbJ s σ p (k + 1) i=ZbJ s σ p k i:=by
 unfold ZbJ;by_cases c:i / mm s=pl s p∧i % mm s < k∧i % mm s ≠ pl s p
 ·rw [if_pos c,if_pos ⟨c.1,by omega,c.2.2⟩]
 ·rw [if_neg c,if_neg];rintro⟨c1,c2,c3⟩;exact c ⟨c1,by omega,c3⟩
def Zdl (s:Zb) (f:Nat ->Nat ->Int):List (List Int):=tab (nn s) fun j=>tab (mm s * mm s) (f j)
theorem ZkD {f:Nat ->Nat ->Int} (hp:p < nn s):ZM (Zdl s f) (p:Int)=some (tab (mm s * mm s) (f p)):=Yu hp
theorem ZfD {f:Nat ->Nat ->Int} {g:Nat ->Int}:Y4 (Zdl s f) (p:Int) (tab (mm s * mm s) g)=Zdl s (ZY f p g):=by
 unfold Zdl;rw [QI];refine U2 fun j _=>?_
 by_cases e:j=p
 ·subst e;rw [Zq,Zq]
 ·rw [ZA e,ZA e]
theorem ZdG {f g:Nat ->Nat ->Int} (h:∀ j,j < nn s ->∀ i,i < mm s * mm s ->f j i=g j i):Zdl s f=Zdl s g:=U2 fun j hj=>U2 fun i hi=>h j hj i hi
theorem ZvS (h:Wf s B σ) (hB:B <=800000) {i:Nat} (hi:i < mm s * mm s):YA ((KT σ i).ZQ + ((KT σ i).kG.length:Int))= ((σ.sn i).length:Int):=by
 have h1:=h.ld i hi;have h2:= (h.few hB).sn i hi;show YA ((σ.ld i:Int) + (((σ.sn i).drop (σ.ld i)).length:Int))=_;rw [List.length_drop,Zab (by omega) (by omega)];omega
theorem Zp9 {β:Type} (hF:1000 <=F) (hS:XO s) (h:Wf s B σ) (hB:B <=800000) (hp:p < nn s) {r:Option β} {body:Int×List (List Int) ->(Int×List (List Int) ->Option β) ->Option β}
 (hb:∀ (v:List (List Int)) (k:Nat),k < mm s ->∀ next,body ((k:Int),v) next=bif((k:Int) != (pl s p:Int)) then((ZM v (p:Int)).bind fun x=>(ZM x (YA (YA ((pl s p:Int) * s.qG) + (k:Int)))).bind fun _=>next (YA ((k:Int) + 1),Y4 v (p:Int) (Y4 x (YA (YA ((pl s p:Int) * s.qG) + (k:Int))) ((σ.sn (li s (pl s p) k)).length:Int)))) else next (YA ((k:Int) + 1),v))
 (he:∀ next,body ((mm s:Int),Zdl s (ZON s p σ).ma) next=r):loop F body (0,Zdl s σ.ma)=r:=by
 obtain⟨_,_,h4⟩:=hS.mm;have hpl:= (hS.pl hp).2
 refine Y9 (fun k=>((k:Int),Zdl s (ZY σ.ma p (ZbJ s σ p k)))) (by
  have:Zdl s (ZY σ.ma p (ZbJ s σ p 0))=Zdl s σ.ma:=ZdG fun j _ i _=>by
   by_cases e:j=p
   ·subst e;rw [Zq,ZtA]
   ·rw [ZA e]
  rw [this];rfl) (n:=mm s) (by omega) (fun k hk next=>?_) (fun next=>?_)
 ·rw [hb _ _ hk]
  have e1:(((k:Int)) != ((pl s p:Int)))=decide (k ≠ pl s p):=by
   rw [Zbi];by_cases z:k=pl s p
   ·subst z;simp
   ·rw [decide_eq_true z,decide_eq_true (by omega)]
  rw [e1];by_cases z:k ≠ pl s p
  ·rw [decide_eq_true z,Cq1,ZkD hp,Zq];simp only [Bq0];rw [Zce hS hpl hk,Yu (Ua hpl hk)];simp only [Bq0];rw [QI,ZfD,Qw (by omega)];congr 2;refine ZdG fun j _ i hi=>?_
   by_cases e:j=p
   ·subst e;rw [Zq,Zq,ZtB hk z]
   ·rw [ZA e,ZA e,ZA e]
  ·have z:=Classical.not_not.1 z;rw [decide_eq_false (by simpa using z),Cq0,Qw (by omega)];congr 2;refine ZdG fun j _ i hi=>?_
   by_cases e:j=p
   ·subst e;rw [Zq,Zq,ZtC z]
   ·rw [ZA e,ZA e]
 ·exact he next
end
end
section
section
variable {s:Zb} {σ:TS} {F B p q:Nat} {die:Nat ->TS ->TS}
theorem Zir (hS:XO s):mm s * mm s <=16:=Nat.mul_le_mul hS.mm.2.2 hS.mm.2.2
theorem Zlw (hS:XO s):decide (((mm s:Nat):Int) < s.qG)=false:=by rw [hS.mm.1];exact Y1 _
theorem ZfE (hS:XO s) {k:Nat} (hk:k < mm s):decide ((k:Int) < s.qG)=true:=by rw [hS.mm.1];exact YN hk
theorem Zth (hF:100000 <=F) (hS:XO s) (hp:p < nn s) (hw:Wf s B σ) (hB:B <=700000) (hk:Kn s σ) (h3:σ.st p=3) (hn:¬ inn s (p:Int) < 0 ->(p:Int) ∉ σ.kn (inn s (p:Int)).toNat) (UZ:ZC×Int ->Option ZC) (nx:Int×List (List Int) ->Option ZC)
 (hx:¬ inn s (p:Int) < 0 ->(Yy s p (J9 s σ p) σ).st (inn s (p:Int)).toNat=2 ->UZ (hal s (Yy s p (J9 s σ p) σ),((inn s (p:Int)).toNat:Int))=some (hal s (die (inn s (p:Int)).toNat (Yy s p (J9 s σ p) σ)))):
 ZiS F (p:Int) UZ (tab (nn s) σ.st) (tab (nn s) σ.kn) (tab (nn s) σ.wa) (tab (mm s) σ.be) (tab (mm s * mm s) (KT σ)) σ.sd s.qG s.Ze σ.ev (pl s p:Int) ((mm s:Int),Zdl s σ.ma) nx=some (hal s (Zje s die p σ)):=by
 have h16:=Zir hS;unfold ZiS;dsimp only;rw [Zlw hS,Cq0,Xi hp];simp only [Bq0];rw [Q6];unfold Zje;by_cases h0:inn s (p:Int) < 0
 ·rw [decide_eq_true h0,Cq1,if_pos h0];rfl
 ·rw [decide_eq_false h0,Cq0,if_neg h0];obtain⟨eq,hq⟩:=QB hS hp h0;have hn:=hn h0;have hx:=hx h0;obtain⟨q,hqe⟩:∃ q,q= (inn s (p:Int)).toNat:= ⟨_,rfl⟩
  rw [← hqe] at eq hq hn hx ⊢;rw [eq,show Zdl s σ.ma=tab (nn s) fun p=>tab (mm s * mm s) (σ.ma p) from rfl,ZlF,UR hS hq];simp only [Bq0];rw [ZeO,Yu hp];simp only [Bq0];by_cases e:pl s q=pl s p
  ·rw [decide_eq_true e,Cq1,if_pos e,Yu hq];simp only [Bq0];have hl:=hk.len hS hq;rw [Zkp (by omega) (by omega) (hk.srt q hq) hn];simp only [Bq0,Bool.not_false,Cq1];rw [insert_eq (by omega)];simp only [Bq0];rw [QI];unfold ZiQ;rw [Q6,eq,Yu hq];simp only [Bq0];rw [Zey (by omega) (by omega) Qo];simp only [Bq0];rw [Yu hq];simp only [Bq0]
   have e3:Y4 (tab (nn s) fun p=>tab (mm s * mm s) (σ.ma p)) (q:Int) (tab (mm s * mm s) (mx (σ.ma q) (tab (mm s * mm s) (σ.ma p))))=tab (nn s) fun j=>tab (mm s * mm s) ((Yy s p (J9 s σ p) σ).ma j):=by
    have:=ZfD (s:=s) (p:=q) (f:=σ.ma) (g:=mx (σ.ma q) (tab (mm s * mm s) (σ.ma p)));unfold Zdl at this;rw [this];show _=tab (nn s) fun j=>tab (mm s * mm s) (ZY σ.ma (inn s (p:Int)).toNat _ j)
    rw [← hqe];rfl
   have e4:tab (nn s) (ZY σ.kn q (ins (p:Int) (σ.kn q)))=tab (nn s) (Yy s p (J9 s σ p) σ).kn:=by
    show _=tab (nn s) (ZY σ.kn (inn s (p:Int)).toNat _);rw [← hqe]
   rw [e3,e4];have e5:ZC.mk (Zi.mk (tab (nn s) σ.st) (tab (nn s) fun j=>tab (mm s * mm s) ((Yy s p (J9 s σ p) σ).ma j)) (tab (nn s) (Yy s p (J9 s σ p) σ).kn) (tab (nn s) σ.wa) (tab (mm s) σ.be) (tab (mm s * mm s) (KT σ)) σ.sd) (Zb.mk s.qG s.Ze) σ.ev=hal s (Yy s p (J9 s σ p) σ):=rfl;rw [e5];have hk3:=U7 hS hk hp h0 h3 (by rw [← hqe];exact hn) (J9 s σ p);rw [Xa];unfold WA;rw [← hqe];have e6:(Yy s p (J9 s σ p) σ).st q=σ.st q:=rfl;by_cases h2:σ.st q=2
   ·rw [decide_eq_true h2,QO,ZdX (by omega) hS hq (by have:=hk3.len hS hq;omega)];by_cases hA:Alo s (Yy s p (J9 s σ p) σ) q
    ·rw [ZF hA];simp only [Bq0,Bool.and_self,Cq1];rw [hx (by rw [e6];exact h2),ZF ⟨by rw [e6];exact h2,hA⟩];rfl
    ·rw [ZE hA];simp only [Bq0,Bool.and_false,Cq0];rw [ZE fun z=>hA z.2]
     rfl
   ·rw [decide_eq_false h2,UL];simp only [Bq0,Bool.false_and,Cq0];rw [ZE fun z=>h2 (by rw [← e6];exact z.1)]
    rfl
  ·rw [decide_eq_false e,Cq0,if_neg e];unfold ZgL;rw [show app 8 ([]:List Int) (tab (mm s * mm s) (σ.ma p))=some (J9 s σ p) from ZnU hS hp];simp only [Bq0];rw [Zas hS (hw.few (by omega)) (hS.pl hp).2 (hS.pl hq).2];rfl
theorem ZoL (hF:1000000 <=F) (hS:XO s):∀ (d p:Nat) (σ:TS) (F':Nat),d < F' ->p < nn s ->up s d (p:Int) < 0 ->Wf s B σ ->B <=700000 ->Kn s σ ->σ.st p ≠ 3 ->loop F' (ZkL F) (hal s σ,(p:Int))=some (hal s (Zgb s d p σ)):=by
 intro d
 induction d generalizing B with
 | zero=>intro p σ F' _ _ hu _ _ _ _;exact absurd hu (by show ¬ ((p:Int)) < 0;omega)
 | succ d ih=>
   intro p σ F' hd hp hu hw hB hk h3;cases F' with
   | zero=>omega
   | succ F'=>
     obtain⟨b1,w0,b2⟩:=Zlc hw hp h3;have wA:=ZrC hS hw hp h3;have kA:=Zsg hk p;have sA:=Qg (s:=s) p σ;have w1:=hw.st hp (3:Int) (B':=B) (by rw [show sw (3:Int)=0 from rfl];omega);have sB:=ZaG (s:=s) p (σ.wa p) (Jm p σ);rw [Uu];unfold ZkL;dsimp only;rw [show(hal s σ).Za.qV=tab (nn s) σ.st from rfl,Yu hp];simp only [Bq0];rw [QI,show ZC.mk (Zi.mk (tab (nn s) (ZY σ.st p 3)) (hal s σ).Za.qX (hal s σ).Za.qZ (hal s σ).Za.Zl (hal s σ).Za.Zu (hal s σ).Za.kQ (hal s σ).Za.kK) (hal s σ).qK (hal s σ).kU=hal s {σ with st:=ZY σ.st p 3} from rfl,Kk (w1.few (by omega))];simp only [Bq0];rw [show(hal s (tell 6 (p:Int) 0 0 {σ with st:=ZY σ.st p 3})).Za.Zl=tab (nn s) σ.wa from rfl,Yu hp];simp only [Bq0];rw [QI];refine Y9 (fun k=>((k:Int),tab (nn s) (Zu s p ((σ.wa p).take k) (Jm p σ)).st,(tab (nn s) fun j=>tab (mm s * mm s) ((Zu s p ((σ.wa p).take k) (Jm p σ)).ma j)),tab (nn s) (Zu s p ((σ.wa p).take k) (Jm p σ)).kn,tab (nn s) (Zu s p ((σ.wa p).take k) (Jm p σ)).wa,tab (mm s) (Zu s p ((σ.wa p).take k) (Jm p σ)).be,tab (mm s * mm s) (KT (Zu s p ((σ.wa p).take k) (Jm p σ))),(Zu s p ((σ.wa p).take k) (Jm p σ)).sd,s.qG,s.Ze,(Zu s p ((σ.wa p).take k) (Jm p σ)).ev)) rfl (n:= (σ.wa p).length) (by omega) (fun k hk' next=>?_) (fun next=>?_)
     ·unfold Zl2;dsimp only;rw [YN hk',Cq1,Qr 0 hk'];simp only [Bq0];obtain⟨j,ej,hj⟩:=hw.ws p hp _ (Xe (d:=0) hk');have wk:=ZhF hS hp ((σ.wa p).take k) _ _ w0 (fun x hx=>hw.ws p hp x (List.mem_of_mem_take hx));have hlen:((σ.wa p).take k).length <= (σ.wa p).length:=by rw [List.length_take];omega
      rw [ZlF,ej,ZkZ hS (wk.few (by omega)) hj hp];simp only [Bq0];rw [Zq7 p k _ hk',ej,Int.toNat_natCast,Qw (by omega)];rfl
     ·unfold Zl2;dsimp only;rw [Y1,Cq0,List.take_length,ZlF,UR hS hp];simp only [Bq0];have wB:=ZhF hS hp (σ.wa p) _ _ w0 (hw.ws p hp);refine Zp9 (by omega) hS wB (by omega) hp (fun v k hk' next=>?_) (fun next=>?_)
      ·unfold ZiS ZiR;dsimp only;rw [ZfE hS hk',Cq1];by_cases z:k=pl s p
       ·subst z;rw [show(((pl s p:Nat):Int) != ((pl s p:Nat):Int))=false by simp,Cq0,Cq0]
       ·have:(((k:Int)) != ((pl s p:Int)))=true:=by rw [Zbi];exact decide_eq_true (by omega)
        rw [this,Cq1,Cq1,Zce hS (hS.pl hp).2 hk',Yu (Ua (hS.pl hp).2 hk')];simp only [Bq0];rw [ZvS wB (by omega) (Ua (hS.pl hp).2 hk')]
      ·have hpA:(Z6 s p σ).st p=3:=by rw [sA.1,Zq]
       have hnot:¬ inn s (p:Int) < 0 ->(p:Int) ∉ (Z6 s p σ).kn (inn s (p:Int)).toNat:=fun h0 hm=>by
        obtain⟨eq,hq⟩:=QB hS hp h0;rw [sA.2.1] at hm;obtain⟨k,e1,e2,e3,e4⟩:=hk.rng _ hq _ hm;have:k=p:=by omega
        subst this;exact h3 e4
       have ht:=Zth (F:=F) (die:=Zgb s d) (by omega) hS hp wA (by omega) kA hpA hnot (fun x=>loop F' (ZkL F) x) next fun h0 h2=>by
        obtain⟨eq,hq⟩:=QB hS hp h0;refine ih (B:=B - 1) _ _ F' (by omega) hq ?_ ((Zap wA).up (Nat.le_refl _)) (by omega) (U7 hS kA hp h0 hpA (hnot h0) _) (by rw [h2];decide);rw [← eq];have hu:(if((p:Int)) < 0 then(p:Int) else up s d (inn s (p:Int))) < 0:=hu
        rwa [if_neg (by omega)] at hu
       exact ht
end
end
section
theorem ZAH {α:Type} {l:List α} {c:Nat} (h:c <=l.length):slL l 0 (c:Int)=some (l.take c):=by
 unfold slL;rw [decide_eq_true (show(0:Int) <=0 by omega),decide_eq_true (show(0:Int) <= (c:Int) by omega),decide_eq_true (show(c:Int) <= (l.length:Int) by omega)];simp
theorem ZrF {α:Type} {l:List α} {c:Nat} (h:c <=l.length):slL l (c:Int) (l.length:Int)=some (l.drop c):=by
 unfold slL;rw [decide_eq_true (show(0:Int) <= (c:Int) by omega),decide_eq_true (show(c:Int) <= (l.length:Int) by omega),decide_eq_true (show(l.length:Int) <= (l.length:Int) by omega)];simp
section
variable {s:Zb} {σ:TS} {F B p q:Nat} {die:Nat ->TS ->TS}
end
end
section
noncomputable section
variable (s:Zb)
def Jw (p:Nat) (σ:TS):TS:= {σ with st:=ZY σ.st p 2,ev:=σ.ev ++ [⟨5,(p:Int),0,0⟩]}
def ZeB (fall:Nat ->TS ->TS) (p:Nat) (σ:TS) (k:Nat):TS:=
 if pl s k=pl s p then(if σ.st k=1 then fall k σ else σ)
 else if(k:Int) ∈ σ.kn p then σ else send s (pl s p) (pl s k) ⟨3,(k:Int),0,0,[]⟩ σ
def ZiP (p:Nat) (σ:TS):TS:=ifc (σ.st p=2∧Alo s σ p) (Zgb s (nn s) p σ) σ
def Zn0 (p k:Nat):List Nat:= (List.range k).filter fun q:Nat=>inn s (q:Int)== (p:Int)
def fk (fall:Nat ->TS ->TS) (p k:Nat) (σ:TS):TS:= (Zn0 s p k).foldl (ZeB s fall p) σ
def Q8:Nat ->Nat ->TS ->TS
 | 0,_,σ=>σ
 | d + 1,p,σ=>ZiP s p (fk s (Q8 d) p (nn s) (Jw p σ))
end
section
variable {s:Zb} {σ:TS} {F B p q d:Nat} {fall:Nat ->TS ->TS}
theorem ZcZ (p k:Nat):Zn0 s p (k + 1)=Zn0 s p k ++ (if inn s (k:Int)= (p:Int) then [k] else []):=by
 unfold Zn0;rw [List.range_succ,List.filter_append,List.filter_cons,List.filter_nil,Xa];by_cases h:inn s (k:Int)= (p:Int) <;> simp [h]
theorem ZiA (p k:Nat):(Zn0 s p k).length <=k:=by
 unfold Zn0;have:=List.length_filter_le (fun q:Nat=>inn s (q:Int)== (p:Int)) (List.range k)
 rwa [List.length_range] at this
theorem ZyB {k:Nat} (h:inn s (k:Int)= (p:Int)):fk s fall p (k + 1) σ=ZeB s fall p (fk s fall p k σ) k:=by
 unfold fk;rw [ZcZ,if_pos h,List.foldl_append];rfl
theorem ZEb {k:Nat} (h:inn s (k:Int) ≠ (p:Int)):fk s fall p (k + 1) σ=fk s fall p k σ:=by
 unfold fk;rw [ZcZ,if_neg h,List.append_nil]
structure Gd (s:Zb) (B:Nat) (σ:TS):Prop where
 wf:Wf s B σ
 kn:Kn s σ
theorem Gd.up (h:Gd s B σ) {B':Nat} (hb:B <=B'):Gd s B' σ:= ⟨h.wf.up hb,h.kn⟩
theorem ZLK (h:Kn s σ) {v:Int} (h3:σ.st p ≠ 3) {e:List Zf}:Kn s {σ with st:=ZY σ.st p v,ev:=e}:=by
 refine⟨h.srt,fun q hq x hx=>?_⟩;obtain⟨k,h1,h2,h4,h5⟩:=h.rng q hq x hx;refine⟨k,h1,h2,h4,?_⟩;show ZY σ.st p v k=3;rw [ZA (fun z=>by subst z;exact h3 h5)];exact h5
theorem Zsf (h:Kn s σ) (a b:Nat) (x:Zd):Kn s (send s a b x σ):= ⟨h.srt,h.rng⟩
theorem Zof (h:Gd s B σ) (hp:p < nn s) (h1:σ.st p=1):11 <=B∧Gd s (B - 8) (Jw p σ):=by
 have hb:=h.wf.pot
 have h11:11 <=Pot s σ:=by
  have:=UE (f:=fun p=>sw (σ.st p)) hp;have e:sw (σ.st p)=11:=by rw [h1];rfl
  unfold Pot;omega
 have w1:=h.wf.st hp (2:Int) (B':=B - 9) (by rw [h1];show B + 2 <=B - 9 + 11;omega);exact⟨by omega,(w1.tell 5 (p:Int) 0 0).up (by omega),ZLK h.kn (by rw [h1];decide)⟩
theorem ZvB (hp:p < nn s) (hu:up s (d + 1) (p:Int) < 0):up s d (inn s (p:Int)) < 0:=by
 have hu:(if((p:Int)) < 0 then(p:Int) else up s d (inn s (p:Int))) < 0:=hu
 rwa [if_neg (by omega)] at hu
theorem Zy5 (hS:XO s):∀ (d p:Nat) (σ:TS) (B:Nat),p < nn s ->up s d (p:Int) < 0 ->Gd s B σ ->σ.st p ≠ 3 ->Gd s B (Zgb s d p σ):=by
 intro d
 induction d with
 | zero=>intro p σ B hp hu _ _;exact absurd hu (by show ¬ ((p:Int)) < 0;omega)
 | succ d ih=>
   intro p σ B hp hu h h3;have wA:=ZrC hS h.wf hp h3;have kA:=Zsg h.kn p;have sA:=Qg (s:=s) p σ;have b1:= (Zlc h.wf hp h3).1;have hpA:(Z6 s p σ).st p=3:=by rw [sA.1,Zq]
   show Gd s B (Zje s (Zgb s d) p (Z6 s p σ));unfold Zje;by_cases h0:inn s (p:Int) < 0
   ·rw [if_pos h0];exact⟨wA.up (by omega),kA⟩
   ·rw [if_neg h0];obtain⟨eq,hq⟩:=QB hS hp h0
    have hnot:(p:Int) ∉ (Z6 s p σ).kn (inn s (p:Int)).toNat:=fun hm=>by
     rw [sA.2.1] at hm;obtain⟨k,e1,e2,e3,e4⟩:=h.kn.rng _ hq _ hm;have:k=p:=by omega
     subst this;exact h3 e4
    have k3:=U7 hS kA hp h0 hpA hnot (J9 s (Z6 s p σ) p);by_cases e:pl s (inn s (p:Int)).toNat=pl s p
    ·rw [if_pos e];unfold WA;by_cases c:(Yy s p (J9 s (Z6 s p σ) p) (Z6 s p σ)).st (inn s (p:Int)).toNat=2∧Alo s (Yy s p (J9 s (Z6 s p σ) p) (Z6 s p σ)) (inn s (p:Int)).toNat
     ·rw [ZF c];refine(ih _ _ (B - 1) hq ?_ ⟨Zap wA,k3⟩ (by rw [c.1];decide)).up (by omega);rw [← eq];exact ZvB hp hu
     ·rw [ZE c];exact⟨(Zap wA).up (by omega),k3⟩
    ·rw [if_neg e];exact⟨(wA.send (hS.pl hp).2 (hS.pl hq).2 _).up (by show B - 1 + 1 + 0 <=B;omega),Zsf kA _ _ _⟩
theorem ZAF (hS:XO s) (ih:∀ (k:Nat) (σ:TS) (B:Nat),k < nn s ->ZbQ s d k ->Gd s B σ ->σ.st k=1 ->Gd s B (fall k σ)) {k:Nat} (hk:k < nn s) (hp:p < nn s) (hs:ZbQ s d k) (h:Gd s B σ):Gd s (B + 1) (ZeB s fall p σ k):=by
 unfold ZeB;by_cases e:pl s k=pl s p
 ·rw [if_pos e];by_cases e1:σ.st k=1
  ·rw [if_pos e1];exact(ih k σ B hk hs h e1).up (by omega)
  ·rw [if_neg e1];exact h.up (by omega)
 ·rw [if_neg e];by_cases e1:(k:Int) ∈ σ.kn p
  ·rw [if_pos e1];exact h.up (by omega)
  ·rw [if_neg e1];exact⟨(h.wf.send (hS.pl hp).2 (hS.pl hk).2 _).up (by show B + 1 + 0 <=B + 1;omega),Zsf h.kn _ _ _⟩
theorem ZEc (hS:XO s) (ih:∀ (k:Nat) (σ:TS) (B:Nat),k < nn s ->ZbQ s d k ->Gd s B σ ->σ.st k=1 ->Gd s B (fall k σ)) (hp:p < nn s) (hs:ZbQ s (d + 1) p) (h:Gd s B σ):∀ k,k <=nn s ->Gd s (B + (Zn0 s p k).length) (fk s fall p k σ):=by
 intro k
 induction k with
 | zero=>intro _;exact h
 | succ k ihk=>
   intro hk;have h1:=ihk (by omega);by_cases e:inn s (k:Int)= (p:Int)
   ·rw [ZyB e,ZcZ,if_pos e,List.length_append,List.length_singleton];exact ZAF hS ih (by omega) hp (hs.kid e) h1
   ·rw [ZEb e,ZcZ,if_neg e,List.append_nil];exact h1
theorem ZcF (hS:XO s) (hp:p < nn s):up s (nn s) (p:Int) < 0:=hS.inn.acy p hp
theorem Zl0 (hS:XO s):∀ (d p:Nat) (σ:TS) (B:Nat),p < nn s ->ZbQ s d p ->Gd s B σ ->σ.st p=1 ->Gd s B (Q8 s d p σ):=by
 intro d
 induction d with
 | zero=>intro p σ B hp hs _ _;exact absurd rfl (hs p hp 0 (Nat.le_refl _))
 | succ d ih=>
   intro p σ B hp hs h h1;obtain⟨b,g0⟩:=Zof h hp h1;have g1:=ZEc hS ih hp hs g0 (nn s) (Nat.le_refl _);have hl:=ZiA (s:=s) p (nn s);have h8:nn s <=8:=hS.p2;have g2:=g1.up (B':=B) (by omega);show Gd s B (ZiP s p (fk s (Q8 s d) p (nn s) (Jw p σ)));unfold ZiP;by_cases c:(fk s (Q8 s d) p (nn s) (Jw p σ)).st p=2∧Alo s (fk s (Q8 s d) p (nn s) (Jw p σ)) p
   ·rw [ZF c];exact Zy5 hS _ _ _ _ hp (ZcF hS hp) g2 (by rw [c.1];decide)
   ·rw [ZE c];exact g2
def Wv (s:Zb) (σ:TS):List Int×List (List Int)×List (List Int)×List (List Int)×List (List Zd)×List Zn×Int×Int×List ZO×List Zf:=
 (tab (nn s) σ.st,(tab (nn s) fun j=>tab (mm s * mm s) (σ.ma j)),tab (nn s) σ.kn,tab (nn s) σ.wa,tab (mm s) σ.be,tab (mm s * mm s) (KT σ),σ.sd,s.qG,s.Ze,σ.ev)
theorem Zt1 (hF:1000000 <=F) (hS:XO s) (hp:p < nn s) (h:Gd s B σ) (hB:B <=700000):ZdP F (p:Int) (Wv s σ)=some (hal s (ZiP s p σ)):=by
 unfold ZdP Wv;dsimp only;rw [Yu hp];simp only [Bq0];rw [Xa,ZlF];unfold ZiP;by_cases h2:σ.st p=2
 ·rw [decide_eq_true h2,QO,ZdX (by omega) hS hp (by have:=h.kn.len hS hp;omega)];by_cases hA:Alo s σ p
  ·rw [ZF hA,ZF ⟨h2,hA⟩];simp only [Bq0,Bool.and_self,Cq1];unfold ZyF;have h8:nn s <=8:=hS.p2;rw [ZoL hF hS _ _ _ F (by omega) hp (ZcF hS hp) h.wf hB h.kn (by rw [h2];decide)];rfl
  ·rw [ZE hA,ZE fun z=>hA z.2];simp only [Bq0,Bool.and_false,Cq0]
 ·rw [decide_eq_false h2,UL,ZE fun z=>h2 z.1];simp only [Bq0,Bool.false_and,Cq0]
theorem Zhi (k:Int) (nx:Int×List Int×List (List Int)×List (List Int)×List (List Int)×List (List Zd)×List Zn×Int×Int×List ZO×List Zf ->Option ZC):ZdO F (p:Int) k nx (Wv s σ)=nx (YA (k + 1),Wv s σ):=rfl
theorem ZkJ (hF:1000000 <=F) (hS:XO s):∀ (d p:Nat) (σ:TS) (F' B:Nat),d < F' ->p < nn s ->ZbQ s d p ->Gd s B σ ->B <=700000 ->σ.st p=1 ->loop F' (ZkM F) (hal s σ,(p:Int))=some (hal s (Q8 s d p σ)):=by
 intro d
 induction d with
 | zero=>intro p σ F' B _ hp hs _ _ _;exact absurd rfl (hs p hp 0 (Nat.le_refl _))
 | succ d ih=>
   intro p σ F' B hd hp hs h hB h1;cases F' with
   | zero=>omega
   | succ F'=>
     obtain⟨b,g0⟩:=Zof h hp h1;have gk:=ZEc hS (fun k σ B hk hs h e=>Zl0 hS d k σ B hk hs h e) hp hs g0;have h8:nn s <=8:=hS.p2;have w1:=h.wf.st hp (2:Int) (B':=B) (by rw [h1];show B + 2 <=B + 11;omega);rw [Uu];generalize hnx:loop F' (ZkM F)=nx;unfold ZkM Zma;dsimp only;rw [show(hal s σ).Za.qV=tab (nn s) σ.st from rfl,Yu hp];simp only [Bq0];rw [QI,show ZC.mk (Zi.mk (tab (nn s) (ZY σ.st p 2)) (hal s σ).Za.qX (hal s σ).Za.qZ (hal s σ).Za.Zl (hal s σ).Za.Zu (hal s σ).Za.kQ (hal s σ).Za.kK) (hal s σ).qK (hal s σ).kU=hal s {σ with st:=ZY σ.st p 2} from rfl,Kk (w1.few (by omega))];simp only [Bq0];refine Y9 (fun k=>((k:Int),Wv s (fk s (Q8 s d) p k (Jw p σ)))) rfl (n:=nn s) (by omega) (fun k hk next=>?_) (fun next=>?_)
     ·have gk':=gk k (by omega);have hl:=ZiA (s:=s) p k;have hB':B - 8 + (Zn0 s p k).length <=700000:=by omega
      obtain⟨σk,hσ⟩:∃ σk,σk=fk s (Q8 s d) p k (Jw p σ):= ⟨_,rfl⟩
      rw [← hσ] at gk' ⊢;have fw:=gk'.wf.few (by omega);unfold ZiX;rw [show(Wv s σk)= (tab (nn s) σk.st,(tab (nn s) fun j=>tab (mm s * mm s) (σk.ma j)),tab (nn s) σk.kn,tab (nn s) σk.wa,tab (mm s) σk.be,tab (mm s * mm s) (KT σk),σk.sd,s.qG,s.Ze,σk.ev) from rfl];dsimp only;rw [show(hal s (tell 5 (p:Int) 0 0 {σ with st:=ZY σ.st p 2})).qK.Ze=s.Ze from rfl,show((s.Ze.length:Nat):Int)= ((nn s:Nat):Int) from rfl,YN hk,Cq1,Xi hk];simp only [Bq0];rw [Q6,Xa];by_cases e:inn s (k:Int)= (p:Int)
      ·rw [decide_eq_true e,Cq1,ZlF,UR hS hk,UR hS hp];simp only [Bq0];rw [ZyB e,← hσ,ZeO];unfold ZeB;by_cases e1:pl s k=pl s p
       ·rw [decide_eq_true e1,Cq1,if_pos e1,Yu hk];simp only [Bq0];rw [Xa];by_cases e2:σk.st k=1
        ·rw [decide_eq_true e2,Cq1,if_pos e2,← hnx,ih k σk F' _ (by omega) hk (hs.kid e) gk' hB' e2];simp only [Bq0];exact(Zhi (s:=s) (σ:=Q8 s d k σk) (F:=F) (p:=p) (k:Int) next).trans (by rw [Qw (by omega)])
        ·rw [decide_eq_false e2,Cq0,if_neg e2];exact(Zhi (s:=s) (σ:=σk) (F:=F) (p:=p) (k:Int) next).trans (by rw [Qw (by omega)])
       ·rw [decide_eq_false e1,Cq0,if_neg e1,Yu hp];simp only [Bq0];rw [contains_eq (by omega) (by have:=gk'.kn.len hS hp;omega)];simp only [Bq0];by_cases e2:(k:Int) ∈ σk.kn p
        ·rw [decide_eq_true e2,Bool.not_true,Cq0,if_pos e2];exact(Zhi (s:=s) (σ:=σk) (F:=F) (p:=p) (k:Int) next).trans (by rw [Qw (by omega)])
        ·rw [decide_eq_false e2,Bool.not_false,Cq1,if_neg e2];rw [Zas hS fw (hS.pl hp).2 (hS.pl hk).2];simp only [Bq0];exact(Zhi (s:=s) (σ:=send s (pl s p) (pl s k) ⟨3,(k:Int),0,0,[]⟩ σk) (F:=F) (p:=p) (k:Int) next).trans (by rw [Qw (by omega)])
      ·rw [decide_eq_false e,Cq0,ZEb e,← hσ,Qw (by omega)]
       rfl
     ·have gk':=gk (nn s) (Nat.le_refl _);have hl:=ZiA (s:=s) p (nn s);refine(?_:ZiX F (p:Int) _ _ _ next=ZdP F (p:Int) (Wv s (fk s (Q8 s d) p (nn s) (Jw p σ)))).trans (Zt1 hF hS hp gk' (by omega));unfold ZiX Wv;dsimp only;rw [show(hal s (tell 5 (p:Int) 0 0 {σ with st:=ZY σ.st p 2})).qK.Ze=s.Ze from rfl,show((s.Ze.length:Nat):Int)= ((nn s:Nat):Int) from rfl,Y1,Cq0]
end
end
section
section
variable {s:Zb} {σ:TS} {F B p q d:Nat} {fall:Nat ->TS ->TS}
end
end
section
def drop1 (i:Nat) (σ:TS):TS:= {σ with ld:=ZY σ.ld i (σ.ld i + 1)}
noncomputable def Zcf (s:Zb) (k:Nat) (l:List Int) (σ:TS):TS:=WA s (Zgb s (nn s)) k l σ
noncomputable def Zeu (s:Zb) (b:Nat) (x:Zd) (σ:TS):TS:=
 if x.kW=1 then see x.kX.toNat x.kV.toNat x.n σ
 else if x.kW=2 then note s x.kV.toNat x.kX.toNat σ
 else if x.kW=3 then(if σ.st x.kV.toNat=1 then Q8 s (nn s) x.kV.toNat σ else σ)
 else if x.kW=4 then Zcf s x.kV.toNat x.qX σ
 else wait b x σ
def hd (σ:TS) (i:Nat):Zd:= (σ.sn i).getD (σ.ld i) default
noncomputable def Zch (s:Zb) (a b:Nat) (σ:TS):TS:=Zeu s b (hd σ (li s a b)) (drop1 (li s a b) σ)
def ZzU (s:Zb) (b:Nat) (x:Zd):Prop:=∃ p:Nat,x.kV= (p:Int)∧p < nn s∧
 ((x.kW=1∧∃ q:Nat,x.kX= (q:Int)∧q < nn s)∨(x.kW=2∧∃ q:Nat,x.kX= (q:Int)∧q < nn s)∨x.kW=3∨(x.kW=4∧0 <=inn s (p:Int)∧x.qX.length=mm s * mm s)∨(x.kW=5∧pl s p=b∧x.qX.length=mm s * mm s∧∃ q:Nat,x.kX= (q:Int)∧q < nn s))
def ZuW (s:Zb) (x:Zd) (σ:TS):Prop:=x.kW=4 ->σ.st x.kV.toNat=3∧x.kV ∉ σ.kn (inn s x.kV).toNat
section
variable {s:Zb} {σ:TS} {F B a b p q:Nat} {x:Zd} {l:List Int}
theorem ZlX (h:σ.ld p < (σ.sn p).length):fl σ p=hd σ p::(σ.sn p).drop (σ.ld p + 1):=by
 unfold fl hd;rw [List.drop_eq_getElem_cons h,UK h]
theorem ZwH (hp:p < mm s * mm s) (h:σ.ld p < (σ.sn p).length):Pot s (drop1 p σ) + ew (hd σ p)=Pot s σ:=by
 have e:=ZbX (f:=lw σ) (g:=lw (drop1 p σ)) hp fun j _ hj=>by
  unfold lw fl;show _ + (((σ.sn j).drop (ZY σ.ld p _ j)).map ew).sum=_;rw [ZA hj];rfl
 have e1:lw (drop1 p σ) p + ew (hd σ p)=lw σ p:=by
  show(σ.sn p).length + (((σ.sn p).drop (ZY σ.ld p _ p)).map ew).sum + _= (σ.sn p).length + ((fl σ p).map ew).sum;rw [Zq,ZlX h,List.map_cons,List.sum_cons];omega
 show σ.ev.length + Qh (mm s * mm s) (lw (drop1 p σ)) + Qh (mm s) (fun m=>(σ.be m).length) + Qh (nn s) (fun q=>2 * (σ.wa q).length) + Qh (nn s) (fun p=>sw (σ.st p)) + _=_;unfold Pot;omega
theorem ZsA (h:Gd s B σ) (hp:p < mm s * mm s) (hl:σ.ld p < (σ.sn p).length):ew (hd σ p) <=B∧Gd s (B - ew (hd σ p)) (drop1 p σ):=by
 have:=ZwH (s:=s) hp hl;have:=h.wf.pot;refine⟨by omega,⟨by omega,fun i hi=>?_,h.wf.ws⟩,⟨h.kn.srt,h.kn.rng⟩⟩;show ZY σ.ld p _ i <=_;by_cases e:i=p
 ·subst e;rw [Zq];exact hl
 ·rw [ZA e];exact h.wf.ld i hi
theorem Zxa (hS:XO s) (h:Gd s B σ) (hp:p < nn s) (h0:¬ inn s (p:Int) < 0) (h3:σ.st p=3) (hn:(p:Int) ∉ σ.kn (inn s (p:Int)).toNat):Gd s B (Zcf s p l σ):=by
 obtain⟨eq,hq⟩:=QB hS hp h0;have k3:=U7 hS h.kn hp h0 h3 hn l;unfold Zcf WA;by_cases c:(Yy s p l σ).st (inn s (p:Int)).toNat=2∧Alo s (Yy s p l σ) (inn s (p:Int)).toNat
 ·rw [ZF c];exact Zy5 hS _ _ _ _ hq (ZcF hS hq) ⟨Zap h.wf,k3⟩ (by rw [c.1];decide)
 ·rw [ZE c];exact⟨Zap h.wf,k3⟩
theorem ZvT (h:Gd s B σ) (p q:Nat) (n:Int):Gd s (B + 1) (see p q n σ):=by
 refine⟨h.wf.see p q n,?_⟩;unfold see;split <;> exact⟨h.kn.srt,h.kn.rng⟩
theorem ZCG (hS:XO s) (h:Gd s B σ) (hp:p < nn s) (hq:q < nn s):Gd s (B + 2) (Y5 s p q σ):=by
 have e:=Zbj (s:=s) p q σ;exact⟨h.wf.Y5 hS hp hq,⟨fun j hj=>by rw [e.2.1];exact h.kn.srt j hj,fun j hj y hy=>by rw [e.2.1] at hy;rw [e.1];exact h.kn.rng j hj y hy⟩⟩
theorem Zr6 (hS:XO s) (h:Gd s B σ) (hp:p < nn s) (hq:q < nn s):Gd s (B + 2) (note s p q σ):=by
 refine⟨h.wf.note hS hp hq,?_⟩;unfold note;split
 ·exact(ZCG hS h hp hq).kn
 ·exact⟨h.kn.srt,h.kn.rng⟩
theorem ZAr (h:Gd s B σ) (ha:a < mm s) (x:Zd):Gd s (B + 1) (wait a x σ):= ⟨h.wf.wait ha x,⟨h.kn.srt,h.kn.rng⟩⟩
theorem Ziy (hp:x.kV= (p:Int)) (hd:ZuW s x σ) (h4:x.kW=4):σ.st p=3∧(p:Int) ∉ σ.kn (inn s (p:Int)).toNat:=by
 have:=hd h4;rw [hp,Int.toNat_natCast] at this;exact this
theorem Zxc (hS:XO s) (h:Gd s B σ) (hb:b < mm s) (hx:ZzU s b x) (hd:ZuW s x σ):Gd s (B + ew x) (Zeu s b x σ):=by
 obtain⟨p,hp,hpn,c⟩:=hx;unfold Zeu;rw [hp,Int.toNat_natCast];rcases c with⟨k,q,hq,Wj⟩ | ⟨k,q,hq,Wj⟩ | k | ⟨k,h0,hl⟩ | ⟨k,e,hl,q,hq,Wj⟩
 ·rw [if_pos k,hq,Int.toNat_natCast];exact(ZvT h q p x.n).up (by unfold ew;rw [if_pos k];omega)
 ·rw [if_neg (by omega),if_pos k,hq,Int.toNat_natCast];exact(Zr6 hS h hpn Wj).up (by unfold ew;rw [if_neg (by omega),if_pos k];omega)
 ·rw [if_neg (by omega),if_neg (by omega),if_pos k];split
  ·exact(Zl0 hS _ _ _ _ hpn (ZbQ.all hS.inn) h (by assumption)).up (by omega)
  ·exact h.up (by omega)
 ·rw [if_neg (by omega),if_neg (by omega),if_neg (by omega),if_pos k];have:=Ziy hp hd k;exact(Zxa hS h hpn (by omega) this.1 this.2).up (by omega)
 ·rw [if_neg (by omega),if_neg (by omega),if_neg (by omega),if_neg (by omega)];exact(ZAr h hb x).up (by unfold ew;rw [if_neg (by omega),if_neg (by omega),if_pos k];omega)
theorem ZnZ (hS:XO s) (h:Gd s B σ) (ha:a < mm s) (hb:b < mm s) (hl:σ.ld (li s a b) < (σ.sn (li s a b)).length) (hx:ZzU s b (hd σ (li s a b))) (hd:ZuW s (hd σ (li s a b)) σ):Gd s B (Zch s a b σ):=by
 obtain⟨h1,h2⟩:=ZsA h (Ua ha hb) hl;exact(Zxc hS h2 hb hx hd).up (by omega)
theorem ZEr {xs ys:List Zd} (h:xs.length + ys.length <=1000000):app 56 xs ys=some (xs ++ ys):=Zgo h (by decide)
theorem Zqb (h:Gd s B σ) (hB:B <=700000) (hp:p < mm s * mm s) (hl:σ.ld p < (σ.sn p).length):
 Y4 (Y4 (tab (mm s * mm s) (KT σ)) (p:Int) ⟨(KT σ p).ZQ,(fl σ p).drop 1⟩) (p:Int) ⟨YA ((KT σ p).ZQ + 1),(fl σ p).drop 1⟩=tab (mm s * mm s) (KT (drop1 p σ)):=by
 have hs:= (h.wf.few (by omega)).sn p hp;rw [QI,QI,ZtT];refine U2 fun j hj=>?_
 by_cases e:j=p
 ·subst e;rw [Zq];show _= (⟨((ZY σ.ld j _ j:Nat):Int),(σ.sn j).drop (ZY σ.ld j _ j)⟩:Zn);rw [Zq,show(KT σ j).ZQ= (σ.ld j:Int) from rfl,Qw (by omega)];unfold fl;rw [List.drop_drop]
 ·rw [ZA e];show _= (⟨((ZY σ.ld p _ j:Nat):Int),(σ.sn j).drop (ZY σ.ld p _ j)⟩:Zn);rw [ZA e];rfl
theorem ZE8 (hl:σ.ld p < (σ.sn p).length):ZM (KT σ p).kG 0=some (hd σ p):=by
 show ZM (fl σ p) 0=_;rw [ZlX hl];rfl
theorem ZE7 (h:Gd s B σ) (hB:B <=700000) (hp:p < mm s * mm s) (hl:σ.ld p < (σ.sn p).length):slL (KT σ p).kG 1 (((KT σ p).kG.length:Nat):Int)=some ((fl σ p).drop 1)∧((fl σ p).drop 1).length <=800000:=by
 have hs:= (h.wf.few (by omega)).sn p hp;refine⟨?_,by unfold fl;rw [List.length_drop,List.length_drop];omega⟩;show slL (fl σ p) ((1:Nat):Int) (((fl σ p).length:Nat):Int)=_;exact ZrF (by unfold fl;rw [List.length_drop];omega)
theorem Zop (hF:1000000 <=F) (hS:XO s) (h:Gd s B σ) (hB:B <=700000) (hp:p < nn s) (h0:¬ inn s (p:Int) < 0) (h3:σ.st p=3) (hn:(p:Int) ∉ σ.kn (inn s (p:Int)).toNat) (hx:x.kV= (p:Int)) (hm:x.qX.length=mm s * mm s):
 Zox F (hal s σ) x=some (hal s (Zcf s p x.qX σ)):=by
 obtain⟨eq,hq⟩:=QB hS hp h0;have k3:=U7 hS h.kn hp h0 h3 hn x.qX;have w3:Wf s B (Yy s p x.qX σ):=Zap h.wf;have h16:=Zir hS;unfold Zox;rw [hx];show(ZM s.Ze (p:Int)).bind _=_;rw [Xi hp];simp only [Bq0];obtain⟨q,hqe⟩:∃ q,q= (inn s (p:Int)).toNat:= ⟨_,rfl⟩
 rw [← hqe] at eq hq hn;rw [Q6,eq];have hl:=h.kn.len hS hq;rw [show(hal s σ).Za.qZ=tab (nn s) σ.kn from rfl,Yu hq];simp only [Bq0];rw [Zkp (by omega) (by omega) (h.kn.srt q hq) hn];simp only [Bq0,Bool.not_false,Cq1];rw [insert_eq (by omega)];simp only [Bq0];rw [QI];unfold ZeH;rw [Q6,eq,show(hal s σ).Za.qX=Zdl s σ.ma from rfl,ZkD hq];simp only [Bq0];rw [Zey (by omega) (by omega) hm];simp only [Bq0]
 have e4:tab (nn s) (ZY σ.kn q (ins (p:Int) (σ.kn q)))=tab (nn s) (Yy s p x.qX σ).kn:=by
  show _=tab (nn s) (ZY σ.kn (inn s (p:Int)).toNat _);rw [← hqe]
 have e3:Zdl s (ZY σ.ma q (mx (σ.ma q) x.qX))=tab (nn s) fun j=>tab (mm s * mm s) ((Yy s p x.qX σ).ma j):=by
  show _=tab (nn s) fun j=>tab (mm s * mm s) (ZY σ.ma (inn s (p:Int)).toNat _ j)
  rw [← hqe];rfl
 rw [ZfD,e3,e4,show(hal s σ).Za.qV=tab (nn s) σ.st from rfl,Yu hq];simp only [Bq0];have e5:ZC.mk (Zi.mk (tab (nn s) σ.st) (tab (nn s) fun j=>tab (mm s * mm s) ((Yy s p x.qX σ).ma j)) (tab (nn s) (Yy s p x.qX σ).kn) (hal s σ).Za.Zl (hal s σ).Za.Zu (hal s σ).Za.kQ (hal s σ).Za.kK) (hal s σ).qK (hal s σ).kU=hal s (Yy s p x.qX σ):=rfl;rw [e5,Xa];unfold Zcf WA;rw [← hqe];have e6:(Yy s p x.qX σ).st q=σ.st q:=rfl;have h8:nn s <=8:=hS.p2;by_cases h2:σ.st q=2
 ·rw [decide_eq_true h2,QO,ZdX (by omega) hS hq (by have:=k3.len hS hq;omega)];by_cases hA:Alo s (Yy s p x.qX σ) q
  ·rw [ZF hA];simp only [Bq0,Bool.and_self,Cq1];unfold ZyF;rw [ZoL hF hS _ _ _ F (by omega) hq (ZcF hS hq) w3 hB k3 (by rw [e6,h2];decide),ZF ⟨by rw [e6];exact h2,hA⟩];rfl
  ·rw [ZE hA];simp only [Bq0,Bool.and_false,Cq0];rw [ZE fun z=>hA z.2];rfl
 ·rw [decide_eq_false h2,UL];simp only [Bq0,Bool.false_and,Cq0];rw [ZE fun z=>h2 (by rw [← e6];exact z.1)];rfl
theorem ZtL (hF:1000000 <=F) (hS:XO s) (h:Gd s B σ) (hB:B <=600000) (ha:a < mm s) (hb:b < mm s) (hl:σ.ld (li s a b) < (σ.sn (li s a b)).length) (hx:ZzU s b (hd σ (li s a b))) (hd:ZuW s (hd σ (li s a b)) σ):ZyJ F (hal s σ) (a:Int) (b:Int)=some (hal s (Zch s a b σ)):=by
 have hi:=Ua ha hb;obtain⟨_,g'⟩:=ZsA h hi hl;have fw:=g'.wf.few (by omega);obtain⟨t1,t2⟩:=ZE7 h (by omega) hi hl;unfold ZyJ;show(ZM (tab (mm s * mm s) (KT σ)) (YA (YA ((a:Int) * s.qG) + (b:Int)))).bind _=_;rw [Zce hS ha hb,Yu hi];simp only [Bq0];rw [ZE8 hl];simp only [Bq0];rw [t1];simp only [Bq0];unfold ZsN;rw [ZEr (by rw [List.length_nil];omega)];simp only [Bq0,List.nil_append]
 have el:∀ (β:Type) (f:List Zn ->β),f (Y4 (Y4 (hal s σ).Za.kQ (YA ((YA ((a:Int) * (hal s σ).qK.qG)) + (b:Int))) (Zn.mk (KT σ (li s a b)).ZQ ((fl σ (li s a b)).drop 1))) (YA ((YA ((a:Int) * (hal s σ).qK.qG)) + (b:Int))) (Zn.mk (YA ((KT σ (li s a b)).ZQ + 1)) ((fl σ (li s a b)).drop 1)))=f (tab (mm s * mm s) (KT (drop1 (li s a b) σ))):=fun β f=>by
  rw [show(hal s σ).qK.qG=s.qG from rfl,Zce hS ha hb,show(hal s σ).Za.kQ=tab (mm s * mm s) (KT σ) from rfl,Zqb h (by omega) hi hl]
 have el:=el _ id;simp only [id] at el;rw [el];have e5:ZC.mk (Zi.mk (hal s σ).Za.qV (hal s σ).Za.qX (hal s σ).Za.qZ (hal s σ).Za.Zl (hal s σ).Za.Zu (tab (mm s * mm s) (KT (drop1 (li s a b) σ))) (hal s σ).Za.kK) (hal s σ).qK (hal s σ).kU=hal s (drop1 (li s a b) σ):=rfl;rw [e5];unfold Zch Zeu;obtain⟨y,hy⟩:∃ y,y=Proofs.YtcnahmgekicbdaaGreat.hd σ (li s a b):= ⟨_,rfl⟩
 rw [← hy] at hx hd ⊢;obtain⟨p,hp,hpn,c⟩:=hx;simp only [Xa];rcases c with⟨k,q,hq,Wj⟩ | ⟨k,q,hq,Wj⟩ | k | ⟨k,h0,hm⟩ | ⟨k,e,hm,q,hq,Wj⟩
 ·rw [decide_eq_true k,Cq1,if_pos k,Znu fw hq Wj,hp,hq,Int.toNat_natCast,Int.toNat_natCast]
  rfl
 ·rw [decide_eq_false (by omega),Cq0,decide_eq_true k,Cq1,if_neg (by omega),if_pos k,ZkC hS fw hp hq hpn Wj,hp,hq,Int.toNat_natCast,Int.toNat_natCast]
  rfl
 ·rw [decide_eq_false (by omega),Cq0,decide_eq_false (by omega),Cq0,decide_eq_true k,Cq1,if_neg (by omega),if_neg (by omega),if_pos k,hp,Int.toNat_natCast];show(ZM (tab (nn s) σ.st) (p:Int)).bind _=_;rw [Yu hpn];simp only [Bq0];by_cases e:σ.st p=1
  ·rw [decide_eq_true e,Cq1,if_pos (show(drop1 (li s a b) σ).st p=1 from e)];unfold ZyL;have h8:nn s <=8:=hS.p2;rw [ZkJ hF hS (nn s) _ _ F _ (by omega) hpn (ZbQ.all hS.inn) g' (by omega) e];rfl
  ·rw [decide_eq_false e,Cq0,if_neg (show ¬ (drop1 (li s a b) σ).st p=1 from e)];rfl
 ·have hD:=Ziy hp hd k;rw [decide_eq_false (by omega),Cq0,decide_eq_false (by omega),Cq0,decide_eq_false (by omega),Cq0,decide_eq_true k,Cq1,if_neg (by omega),if_neg (by omega),if_neg (by omega),if_pos k,Zop hF hS g' (by omega) hpn (by omega) hD.1 hD.2 hp hm,hp,Int.toNat_natCast];rfl
 ·rw [decide_eq_false (by omega),Cq0,decide_eq_false (by omega),Cq0,decide_eq_false (by omega),Cq0,decide_eq_false (by omega),Cq0,decide_eq_true k,Cq1,if_neg (by omega),if_neg (by omega),if_neg (by omega),if_neg (by omega)];unfold ZsM;rw [hp,UR hS hpn,e];simp only [Bq0];rw [Zkk fw hb];rfl
end
end
section
section
variable {s:Zb} {σ:TS} {F B a b p q:Nat} {x:Zd} {l:List Int}
end
end
section
noncomputable section
def dep (s:Zb) (q:Nat):Nat:=@dite _ (∃ m,m <=nn s∧up s (m + 1) (q:Int) < 0∧∀ k,k < m ->¬ up s (k + 1) (q:Int) < 0) (Classical.propDecidable _) (fun h=>Classical.choose h) (fun _=>0)
def rdy (s:Zb) (ld:Nat ->Nat) (w:Nat) (x:Zd):Prop:=∀ b:Nat,b < mm s ->b ≠ w ->x.qX.getD (li s b w) 0 <= (ld (li s b w):Int)
def Kb (s:Zb) (x:Zd):Nat:=dep s x.kX.toNat
def Qj (s:Zb) (ld:Nat ->Nat) (w:Nat) (l:List Zd):Nat ->Option Nat
 | 0=>none
 | k + 1=>ifc (rdy s ld w (l.getD k default)∧∀ j,Qj s ld w l k=some j ->Kb s (l.getD j default) < Kb s (l.getD k default)) (some k) (Qj s ld w l k)
def ZbN {α:Type} (l:List α) (i:Nat):List α:=l.take i ++ l.drop (i + 1)
def rung (s:Zb) (w i:Nat) (σ:TS):TS:=
 if σ.st ((σ.be w).getD i default).kV.toNat=1 then tell 4 ((σ.be w).getD i default).kV ((σ.be w).getD i default).kX 0 {σ with be:=ZY σ.be w (ZbN (σ.be w) i)} else{σ with be:=ZY σ.be w (ZbN (σ.be w) i)}
def UH (s:Zb) (w:Nat):Nat ->TS ->TS
 | 0,σ=>σ
 | n + 1,σ=>match Qj s σ.ld w (σ.be w) (σ.be w).length with
   | none=>σ
   | some i=>UH s w n (rung s w i σ)
end
def BeS (s:Zb) (x:Zd):Prop:= (∃ p:Nat,x.kV= (p:Int)∧p < nn s)∧(∃ q:Nat,x.kX= (q:Int)∧q < nn s)∧x.qX.length=mm s * mm s
section
variable {s:Zb} {σ:TS} {F B a b p q w:Nat} {x:Zd} {l:List Zd}
theorem Zjf (hS:XO s) (hq:q < nn s):dep s q <=nn s∧up s (dep s q + 1) (q:Int) < 0∧∀ k,k < dep s q ->¬ up s (k + 1) (q:Int) < 0:=by
 have h:∃ m,m <=nn s∧up s (m + 1) (q:Int) < 0∧∀ k,k < m ->¬ up s (k + 1) (q:Int) < 0:=
  KJ (c:=fun k=>up s (k + 1) (q:Int) < 0) (n:=nn s) (Jr (hS.inn.acy q hq) (by unfold nn;omega))
 unfold dep;rw [dif_pos h];exact Classical.choose_spec h
theorem Zjg {β:Type} (hF:1000 <=F) (hS:XO s) (hq:q < nn s) {r:Int ->Option β} {body:Int×Int ->(Int×Int ->Option β) ->Option β}
 (hb:∀ v n next,body (v,n) next=bif decide (v >=0) then(ZM s.Ze v).bind fun x=>next (x.Uv,YA (n + 1)) else r n):loop F body (inn s (q:Int),0)=r (dep s q:Int):=by
 obtain⟨h1,h2,h3⟩:=Zjf hS hq;have h8:nn s <=8:=hS.p2;refine Y9 (fun k=>(up s (k + 1) (q:Int),(k:Int))) (by show(up s (0 + 1) (q:Int),((0:Nat):Int))=_;rw [up1];rfl) (n:=dep s q) (by omega) (fun k hk next=>?_) (fun next=>?_)
 ·have h:=h3 k hk;obtain⟨j,e,hj⟩:=K3 (hS.inn.up (q:= (q:Int)) ⟨by omega,by unfold nn at hq;omega⟩ (k + 1)) h;rw [hb,JB s (k + 1),if_neg h,e,Zbc,Cq1,Xi hj];simp only [Bq0];rw [Q6,Qw (by omega)]
 ·rw [hb,decide_eq_false (by omega),Cq0]
theorem ZpN (hF:1000 <=F) (hS:XO s) (hw:w < mm s) (hx:x.qX.length=mm s * mm s):Zow F (hal s σ) (w:Int) x=ifc (rdy s σ.ld w x) (some true) (some false):=by
 have h4:=hS.mm.2.2;unfold Zow
 exact Za4 (body:=ZeG (hal s σ) (w:Int) x) (r1:=some false) (r2:=some true) (s0:= (0:Int)) (fun k=>(k:Int)) rfl (fun k:Nat=>k ≠ w ->x.qX.getD (li s k w) 0 <= (σ.ld (li s k w):Int)) (n:=mm s) (F:=F) (by omega) (fun k hk next=>by
  unfold ZeG;rw [show(hal s σ).qK.qG=s.qG from rfl,ZfE hS hk,Cq1];by_cases e:k=w
  ·subst e;rw [show(((k:Int)) != ((k:Int)))=false by simp,Cq0,ZF (fun z=>absurd rfl z),Qw (by omega)]
  ·have e1:(((k:Int)) != ((w:Int)))=true:=by rw [Zbi];exact decide_eq_true (by omega)
   have hi:=Ua hk hw;rw [e1,Cq1,Zce hS hk hw,show(hal s σ).Za.kQ=tab (mm s * mm s) (KT σ) from rfl,Yu hi];simp only [Bq0];rw [Qr 0 (by rw [hx];exact hi)];simp only [Bq0];rw [show(KT σ (li s k w)).ZQ= (σ.ld (li s k w):Int) from rfl];by_cases c:x.qX.getD (li s k w) 0 <= (σ.ld (li s k w):Int)
   ·rw [decide_eq_false (by omega),Cq0,ZF (fun _=>c),Qw (by omega)]
   ·rw [decide_eq_true (by omega),Cq1,ZE (fun z=>c (z e))]) (fun next=>by
  unfold ZeG;rw [show(hal s σ).qK.qG=s.qG from rfl,Zlw hS,Cq0])
theorem W9 {ld:Nat ->Nat}:∀ k j,Qj s ld w l k=some j ->j < k:=by
 intro k
 induction k with
 | zero=>intro j h;cases h
 | succ k ih=>
   intro j h;rw [Qj] at h;by_cases c:rdy s ld w (l.getD k default)∧∀ j,Qj s ld w l k=some j ->Kb s (l.getD j default) < Kb s (l.getD k default)
   ·rw [ZF c] at h;cases h;omega
   ·rw [ZE c] at h;have:=ih j h;omega
def pI (o:Option Nat):Int:=match o with | none=>-1 | some j=>(j:Int)
noncomputable def pD (s:Zb) (l:List Zd) (o:Option Nat):Int:=match o with | none=>0 | some j=>(Kb s (l.getD j default):Int)
theorem Zkz (hF:1000000 <=F) (hS:XO s) (hw:w < mm s) (hl:l.length <=700000) (hx:∀ x ∈ l,BeS s x):
 ZiW F (w:Int) (tab (nn s) σ.st) (tab (nn s) fun p=>tab (mm s * mm s) (σ.ma p)) (tab (nn s) σ.kn) (tab (nn s) σ.wa) (tab (mm s) σ.be) (tab (mm s * mm s) (KT σ)) σ.sd s.qG s.Ze σ.ev l=some (pI (Qj s σ.ld w l l.length)):=by
 unfold ZiW;refine Y9 (fun k=>(pI (Qj s σ.ld w l k),pD s l (Qj s σ.ld w l k),(k:Int))) rfl (n:=l.length) (by omega) (fun k hk next=>?_) (fun next=>?_)
 ·unfold Zl8;dsimp only;rw [YN hk,Cq1,Qr default hk];simp only [Bq0];obtain⟨x,ex⟩:∃ x,x=l.getD k default:= ⟨_,rfl⟩
  obtain⟨_,⟨q,hq,Wj⟩,hm⟩:=hx _ (Xe (d:=default) hk);rw [← ex] at hq hm ⊢;rw [ZlF,ZpN (by omega) hS hw hm,hq];have ed:Kb s x=dep s q:=by unfold Kb;rw [hq,Int.toNat_natCast]
  rw [Qj,← ex];have j0:∀ (a b:Int),Zcp (k:Int) next (a,b)=next (a,b,((k + 1:Nat):Int)):=fun a b=>by unfold Zcp;dsimp only;rw [Qw (by omega)]
  by_cases r:rdy s σ.ld w x
  ·rw [ZF r];simp only [Bq0,Bool.true_and];cases hpk:Qj s σ.ld w l k with
   | none=>
     rw [show decide (pI none < 0)=true from rfl,Bool.not_true,Cq0,Cq1];unfold Zl5;simp only [Bq0];rw [Xi Wj];simp only [Bq0];rw [Q6,Zjg (r:=fun n=>ZfT (k:Int) next n) (by omega) hS Wj (fun v n nx=>by unfold ZqH;dsimp only;rw [Bool.not_true,Cq0]),ZF ⟨r,fun j z=>by cases z⟩];unfold ZfT;rw [j0];show _=next ((k:Int),(Kb s (l.getD k default):Int),_);rw [← ex,ed]
   | some j=>
     rw [show decide (pI (some j) < 0)=false from decide_eq_false (by simp [pI]),Bool.not_false,Cq1];unfold Zl7;simp only [Bq0];rw [Xi Wj];simp only [Bq0];rw [Q6,Zjg (r:=fun n=>ZfV F s.Ze (pI (some j)) (pD s l (some j)) (k:Int) next x true n) (by omega) hS Wj (fun v n nx=>by unfold ZqI;dsimp only;rw [Bool.not_true,Cq0])];unfold ZfV;rw [Bool.true_and];by_cases c:Kb s (l.getD j default) < Kb s x
     ·rw [decide_eq_true (show(dep s q:Int) > pD s l (some j) by show(dep s q:Int) > (Kb s (l.getD j default):Int);omega),Cq1];unfold Zl6;simp only [Bq0];rw [hq,Xi Wj];simp only [Bq0];rw [Q6,Zjg (r:=fun n=>ZfU (k:Int) next n) (by omega) hS Wj (fun v n nx=>by unfold ZqJ;dsimp only;rw [Bool.not_true,Cq0]),ZF ⟨r,fun j' z=>by cases z;exact c⟩];unfold ZfU;rw [j0];show _=next ((k:Int),(Kb s (l.getD k default):Int),_);rw [← ex,ed]
     ·rw [decide_eq_false (show ¬ (dep s q:Int) > pD s l (some j) by show ¬ (dep s q:Int) > (Kb s (l.getD j default):Int);omega),Cq0,ZE (fun z=>c (z.2 j rfl)),j0]
  ·rw [ZE r,ZE (fun z=>r z.1)];simp only [Bq0,Bool.false_and,Cq0];rw [j0]
 ·unfold Zl8;dsimp only;rw [Y1,Cq0]
end
end
section
noncomputable def rings (s:Zb):Nat ->TS ->TS
 | 0,σ=>σ
 | k + 1,σ=>UH s k ((rings s k σ).be k).length (rings s k σ)
def BeA (s:Zb) (σ:TS):Prop:=∀ w,w < mm s ->∀ x ∈ σ.be w,BeS s x
section
variable {s:Zb} {σ:TS} {F B a b p q w i n:Nat} {x:Zd} {l:List Zd}
theorem ZeR {α:Type} {l:List α} {i:Nat} (h:i < l.length):(ZbN l i).length + 1=l.length:=by
 unfold ZbN;rw [List.length_append,List.length_take,List.length_drop];omega
theorem ZaE {α:Type} {l:List α} {i:Nat} {x:α} (h:x ∈ ZbN l i):x ∈ l:=by
 unfold ZbN at h;rcases List.mem_append.1 h with h | h
 ·exact List.mem_of_mem_take h
 ·exact List.mem_of_mem_drop h
theorem Qp (s:Zb) (w i:Nat) (σ:TS):(rung s w i σ).be=ZY σ.be w (ZbN (σ.be w) i)∧(rung s w i σ).ld=σ.ld∧(rung s w i σ).st=σ.st∧(rung s w i σ).kn=σ.kn∧(rung s w i σ).ma=σ.ma∧(rung s w i σ).sn=σ.sn∧(rung s w i σ).wa=σ.wa∧(rung s w i σ).sd=σ.sd:=by
 unfold rung;split <;> exact⟨rfl,rfl,rfl,rfl,rfl,rfl,rfl,rfl⟩
theorem ZrL (h:Gd s B σ) (hw:w < mm s) (hi:i < (σ.be w).length):Gd s B (rung s w i σ):=by
 have hb:=h.wf.pot;have h1:(σ.be w).length <=Pot s σ:=by have:=UE (f:=fun m=>(σ.be m).length) hw;unfold Pot;omega
 have hp:=ZpZ (s:=s) (σ:=σ) hw (ZbN (σ.be w) i);have hc:=ZeR hi;have w1:Wf s (B - 1) {σ with be:=ZY σ.be w (ZbN (σ.be w) i)}:= ⟨by omega,h.wf.ld,h.wf.ws⟩
 unfold rung;split
 ·exact⟨(w1.tell _ _ _ _).up (by omega),⟨h.kn.srt,h.kn.rng⟩⟩
 ·exact⟨w1.up (by omega),⟨h.kn.srt,h.kn.rng⟩⟩
theorem Znx (h:BeA s σ):BeA s (rung s w i σ):=fun v hv x hx=>by
 rw [(Qp s w i σ).1] at hx;by_cases e:v=w
 ·subst e;rw [Zq] at hx;exact h v hv x (ZaE hx)
 ·rw [ZA e] at hx;exact h v hv x hx
theorem ZAL (hw:w < mm s):∀ (n:Nat) (σ:TS),Gd s B σ ->BeA s σ ->Gd s B (UH s w n σ)∧BeA s (UH s w n σ):=by
 intro n
 induction n with
 | zero=>intro σ h hb;exact⟨h,hb⟩
 | succ n ih=>
   intro σ h hb;rw [UH];cases hpk:Qj s σ.ld w (σ.be w) (σ.be w).length with
   | none=>exact⟨h,hb⟩
   | some i=>exact ih _ (ZrL h hw (W9 _ _ hpk)) (Znx hb)
theorem Zh0 (h:Gd s B σ) (hb:BeA s σ):∀ k,k <=mm s ->Gd s B (rings s k σ)∧BeA s (rings s k σ):=by
 intro k
 induction k with
 | zero=>intro _;exact⟨h,hb⟩
 | succ k ih=>
   intro hk;obtain⟨h1,h2⟩:=ih (by omega);exact ZAL (by omega) _ _ h1 h2
theorem del_eq (hi:i < l.length) (hl:l.length <=700000):Zov l (i:Int) (YA ((i:Int) + 1))=some (ZbN l i):=by
 unfold Zov;rw [Qw (by omega)]
 have e1:slL l (i:Int) ((i + 1:Nat):Int)=some ((l.take (i + 1)).drop i):=by
  unfold slL;rw [decide_eq_true (show(0:Int) <= (i:Int) by omega),decide_eq_true (show(i:Int) <= ((i + 1:Nat):Int) by omega),decide_eq_true (show((i + 1:Nat):Int) <= (l.length:Int) by omega)]
  rfl
 rw [e1];simp only [Bq0];rw [Xa,decide_eq_false (by omega),Cq0,ZAH (by omega)];simp only [Bq0];rw [ZrF (by omega)];simp only [Bq0];rw [ZEr (by rw [List.length_take,List.length_drop];omega)];rfl
theorem Ztm (hF:1000000 <=F) (hS:XO s) (hB:B <=600000) (hw:w < mm s):∀ (n F':Nat) (σ:TS),n < F' ->(σ.be w).length <=n ->Gd s B σ ->BeA s σ ->loop F' (ZdN F (w:Int)) (Wv s σ)=some (hal s (UH s w n σ)):=by
 intro n
 induction n with
 | zero=>
   intro F' σ hn hl h hb;cases F' with
   | zero=>omega
   | succ F'=>
     rw [Uu];unfold ZdN Wv;dsimp only;rw [Yu hw];simp only [Bq0];rw [Zkz hF hS hw (by omega) (hb w hw)];have:(σ.be w).length=0:=by omega
     simp only [Bq0];rw [this,show decide (pI (Qj s σ.ld w (σ.be w) 0) < 0)=true from rfl,Cq1];rfl
 | succ n ih=>
   intro F' σ hn hl h hb;cases F' with
   | zero=>omega
   | succ F'=>
     rw [Uu];generalize hnx:loop F' (ZdN F (w:Int))=nx;have hlen:= (h.wf.few (by omega)).be w hw;unfold ZdN;rw [show Wv s σ= (tab (nn s) σ.st,(tab (nn s) fun j=>tab (mm s * mm s) (σ.ma j)),tab (nn s) σ.kn,tab (nn s) σ.wa,tab (mm s) σ.be,tab (mm s * mm s) (KT σ),σ.sd,s.qG,s.Ze,σ.ev) from rfl];dsimp only;have hl7:(σ.be w).length <=600000:=by have:=h.wf.pot;have:=UE (f:=fun m=>(σ.be m).length) hw;unfold Pot at *;omega
     rw [Yu hw];simp only [Bq0];rw [Zkz hF hS hw (by omega) (hb w hw),UH];simp only [Bq0];cases hpk:Qj s σ.ld w (σ.be w) (σ.be w).length with
     | none=>rw [show decide (pI none < 0)=true from rfl,Cq1];rfl
     | some i=>
       have hi:=W9 _ _ hpk;rw [decide_eq_false (show ¬ pI (some i) < 0 by simp [pI]),Cq0,show pI (some i)= (i:Int) from rfl,Qr default hi];simp only [Bq0];rw [del_eq hi (by omega)];simp only [Bq0];obtain⟨⟨p,hp,hpn⟩,_,_⟩:=hb w hw _ (Xe (d:=default) hi);rw [hp,Yu hpn];simp only [Bq0];have gr:=ZrL h hw hi;have br:=Znx (w:=w) (i:=i) hb;have lr:((rung s w i σ).be w).length <=n:=by rw [(Qp s w i σ).1,Zq];have:=ZeR hi;omega
       have hih:=ih F' (rung s w i σ) (by omega) lr gr br;rw [hnx] at hih;refine Eq.trans ?_ hih;unfold rung;rw [hp,Int.toNat_natCast,Xa,QI];by_cases e:σ.st p=1
       ·rw [decide_eq_true e,Cq1,if_pos e,show ZC.mk (Zi.mk (tab (nn s) σ.st) (tab (nn s) fun j=>tab (mm s * mm s) (σ.ma j)) (tab (nn s) σ.kn) (tab (nn s) σ.wa) (tab (mm s) (ZY σ.be w (ZbN (σ.be w) i))) (tab (mm s * mm s) (KT σ)) σ.sd) (Zb.mk s.qG s.Ze) σ.ev=hal s {σ with be:=ZY σ.be w (ZbN (σ.be w) i)} from rfl];have hpb:=ZpZ (s:=s) (σ:=σ) hw (ZbN (σ.be w) i);have:=ZeR hi;have:=h.wf.pot;have w1:Wf s B {σ with be:=ZY σ.be w (ZbN (σ.be w) i)}:= ⟨by omega,h.wf.ld,h.wf.ws⟩
        rw [Kk (w1.few (by omega))]
        rfl
       ·rw [decide_eq_false e,Cq0,if_neg e];rfl
end
end
section
noncomputable section
variable (s:Zb)
def Qm (p:Nat) (σ:TS):TS:=
 if inn s (p:Int) < 0 then Z6 s p σ
 else if pl s (inn s (p:Int)).toNat=pl s p then Yy s p (J9 s (Z6 s p σ) p) (Z6 s p σ)
 else send s (pl s p) (pl s (inn s (p:Int)).toNat) ⟨4,(p:Int),0,0,J9 s (Z6 s p σ) p⟩ (Z6 s p σ)
def kK (p q:Nat) (σ:TS):TS:=tell 1 p q σ.sd {σ with sd:=σ.sd + 1}
inductive Act:TS ->TS ->Prop
 | fall {σ:TS} {p:Nat} (hp:p < nn s) (h:σ.st p=1):Act σ (Jw p σ)
 | UG {σ:TS} {p k:Nat} (hp:p < nn s) (hk:k < nn s) (hi:inn s (k:Int)= (p:Int)) (h:σ.st p ≠ 1) (hr:pl s k ≠ pl s p) (hn:(k:Int) ∉ σ.kn p):Act σ (send s (pl s p) (pl s k) ⟨3,(k:Int),0,0,[]⟩ σ)
 | die {σ:TS} {p:Nat} (hp:p < nn s) (h:σ.st p=2) (ha:Alo s σ p):Act σ (Qm s p σ)
 | ZaW {σ:TS} {p q:Nat} (hp:p < nn s) (hq:q < nn s) (h:σ.st p=1) (e:pl s p=pl s q):Act σ (see q p σ.sd (kK p q σ))
 | ZaV {σ:TS} {p q:Nat} (hp:p < nn s) (hq:q < nn s) (h:σ.st p=1) (e:pl s p ≠ pl s q):Act σ (send s (pl s p) (pl s q) ⟨1,(p:Int),(q:Int),σ.sd,[]⟩ (kK p q σ))
 | ZaQ {σ:TS} {p q:Nat} (hp:p < nn s) (hq:q < nn s) (h:σ.st p=1) (e:pl s p=pl s q):Act σ (note s p q (tell 3 p q 0 σ))
 | ZaP {σ:TS} {p q:Nat} (hp:p < nn s) (hq:q < nn s) (h:σ.st p=1) (e:pl s p ≠ pl s q):Act σ (send s (pl s p) (pl s q) ⟨2,(p:Int),(q:Int),0,[]⟩ (tell 3 p q 0 σ))
 | Za5 {σ:TS} {a b p q:Nat} (ha:a < mm s) (hb:b < mm s) (hl:σ.ld (li s a b) < (σ.sn (li s a b)).length) (hk:(hd σ (li s a b)).kW=1) (hp:(hd σ (li s a b)).kV= (p:Int)) (hq:(hd σ (li s a b)).kX= (q:Int)) (hpn:p < nn s) (Wj:q < nn s):Act σ (see q p (hd σ (li s a b)).n (drop1 (li s a b) σ))
 | Za8 {σ:TS} {a b p q:Nat} (ha:a < mm s) (hb:b < mm s) (hl:σ.ld (li s a b) < (σ.sn (li s a b)).length) (hk:(hd σ (li s a b)).kW=2) (hp:(hd σ (li s a b)).kV= (p:Int)) (hq:(hd σ (li s a b)).kX= (q:Int)) (hpn:p < nn s) (Wj:q < nn s):Act σ (note s p q (drop1 (li s a b) σ))
 | Za6 {σ:TS} {a b p:Nat} (ha:a < mm s) (hb:b < mm s) (hl:σ.ld (li s a b) < (σ.sn (li s a b)).length) (hk:(hd σ (li s a b)).kW=3) (hp:(hd σ (li s a b)).kV= (p:Int)) (hpn:p < nn s):Act σ (drop1 (li s a b) σ)
 | Zah {σ:TS} {a b p:Nat} (ha:a < mm s) (hb:b < mm s) (hl:σ.ld (li s a b) < (σ.sn (li s a b)).length) (hk:(hd σ (li s a b)).kW=4) (hp:(hd σ (li s a b)).kV= (p:Int)) (hpn:p < nn s) (h0:0 <=inn s (p:Int)) (hm:(hd σ (li s a b)).qX.length=mm s * mm s) (h3:σ.st p=3) (hn:(p:Int) ∉ σ.kn (inn s (p:Int)).toNat):Act σ (Yy s p (hd σ (li s a b)).qX (drop1 (li s a b) σ))
 | Za7 {σ:TS} {a b:Nat} (ha:a < mm s) (hb:b < mm s) (hl:σ.ld (li s a b) < (σ.sn (li s a b)).length) (hk:(hd σ (li s a b)).kW=5):Act σ (wait b (hd σ (li s a b)) (drop1 (li s a b) σ))
 | ring {σ:TS} {w i:Nat} (hw:w < mm s) (h:Qj s σ.ld w (σ.be w) (σ.be w).length=some i):Act σ (rung s w i σ)
inductive QT:TS ->TS ->Prop
 | refl {σ:TS}:QT σ σ
 | tail {σ τ υ:TS}:QT σ τ ->Act s τ υ ->QT σ υ
def Zbo (x:Zx) (σ:TS):Prop:=
 (x.act=1∧∃ p q:Nat,x.a= (p:Int)∧x.b= (q:Int)∧p < nn s∧q < nn s∧σ.st p=1)∨
 (x.act=2∧∃ p q:Nat,x.a= (p:Int)∧x.b= (q:Int)∧p < nn s∧q < nn s∧σ.st p=1)∨
 (x.act=3∧∃ p:Nat,x.a= (p:Int)∧p < nn s∧σ.st p=1)∨
 (x.act=4∧∃ a b:Nat,x.a= (a:Int)∧x.b= (b:Int)∧a < mm s∧b < mm s∧σ.ld (li s a b) < (σ.sn (li s a b)).length)
def WN (x:Zx) (σ:TS):TS:=
 if x.act=1 then(if pl s x.a.toNat=pl s x.b.toNat then see x.b.toNat x.a.toNat σ.sd (kK x.a.toNat x.b.toNat σ) else send s (pl s x.a.toNat) (pl s x.b.toNat) ⟨1,x.a,x.b,σ.sd,[]⟩ (kK x.a.toNat x.b.toNat σ))
 else if x.act=2 then(if pl s x.a.toNat=pl s x.b.toNat then note s x.a.toNat x.b.toNat (tell 3 x.a x.b 0 σ) else send s (pl s x.a.toNat) (pl s x.b.toNat) ⟨2,x.a,x.b,0,[]⟩ (tell 3 x.a x.b 0 σ))
 else if x.act=3 then Q8 s (nn s) x.a.toNat σ
 else Zch s x.a.toNat x.b.toNat σ
def stepW (x:Zx) (σ:TS):TS:=rings s (mm s) (WN s x σ)
end
section
variable {s:Zb} {σ τ υ:TS} {F B a b p q w i n d:Nat} {x:Zd}
theorem QT.trans (h:QT s σ τ) (h':QT s τ υ):QT s σ υ:=by
 induction h' with
 | refl=>exact h
 | tail _ a ih=>exact .tail ih a
theorem QT.one (h:Act s σ τ):QT s σ τ:= .tail .refl h
theorem QT.keep {P:TS ->Prop} (hP:∀ σ τ,P σ ->Act s σ τ ->P τ) (h:QT s σ τ) (h0:P σ):P τ:=by
 induction h with
 | refl=>exact h0
 | tail _ a ih=>exact hP _ _ ih a
theorem UM {α:Type} (f:TS ->α ->TS) (Q:TS ->Prop):∀ (l:List α) (σ:TS),Q σ ->(∀ σ x,x ∈ l ->Q σ ->Q (f σ x)) ->Q (l.foldl f σ):=by
 intro l
 induction l with
 | nil=>intro σ h _;exact h
 | cons x l ih=>intro σ h hf;exact ih _ (hf σ x (by simp) h) fun σ y hy=>hf σ y (by simp [hy])
theorem X6 (p q:Nat) (n:Int) (σ:TS):(see p q n σ).st=σ.st∧(see p q n σ).kn=σ.kn∧(see p q n σ).ma=σ.ma∧(see p q n σ).ld=σ.ld∧(see p q n σ).sn=σ.sn∧(see p q n σ).be=σ.be∧(see p q n σ).wa=σ.wa∧(see p q n σ).sd=σ.sd:=by
 unfold see;split <;> exact⟨rfl,rfl,rfl,rfl,rfl,rfl,rfl,rfl⟩
theorem Y8 (p q:Nat) (σ:TS):(note s p q σ).st=σ.st∧(note s p q σ).kn=σ.kn∧(note s p q σ).ma=σ.ma∧(note s p q σ).ld=σ.ld∧(note s p q σ).sd=σ.sd∧(note s p q σ).ev=σ.ev:=by
 unfold note;split
 ·have:=Zbj (s:=s) p q σ;exact⟨this.1,this.2.1,this.2.2.1,this.2.2.2.1,this.2.2.2.2.1,this.2.2.2.2.2.1⟩
 ·exact⟨rfl,rfl,rfl,rfl,rfl,rfl⟩
theorem ZmD (p:Nat) (σ:TS):(Qm s p σ).st=ZY σ.st p 3:=by
 have e:= (Qg (s:=s) p σ).1;unfold Qm;split
 ·exact e
 ·split
  ·exact e
  ·exact e
theorem Zog {f:Nat ->Int} {k j:Nat} {v:Int} (hv:v ≠ 1) (h:f j ≠ 1):ZY f k v j ≠ 1:=by
 unfold ZY;by_cases e:j=k
 ·rw [if_pos e];exact hv
 ·rw [if_neg e];exact h
theorem ZJd (h:Act s σ τ) (hp:σ.st p ≠ 1):τ.st p ≠ 1:=by
 cases h with
 | fall hq h=>exact Zog (by decide) hp
 | UG=>exact hp
 | die hq h ha=>rw [ZmD];exact Zog (by decide) hp
 | ZaW=>rw [(X6 _ _ _ _).1];exact hp
 | ZaV=>exact hp
 | ZaQ=>rw [(Y8 _ _ _).1];exact hp
 | ZaP=>exact hp
 | Za5=>rw [(X6 _ _ _ _).1];exact hp
 | Za8=>rw [(Y8 _ _ _).1];exact hp
 | Za6=>exact hp
 | Zah=>exact hp
 | Za7=>exact hp
 | ring=>rw [(Qp _ _ _ _).2.2.1];exact hp
theorem ZCS (h:QT s σ τ) (hp:σ.st p ≠ 1):τ.st p ≠ 1:=h.keep (P:=fun σ=>σ.st p ≠ 1) (fun _ _ h a=>ZJd a h) hp
theorem ZoM (hS:XO s):∀ (d p:Nat) (σ:TS),p < nn s ->up s d (p:Int) < 0 ->σ.st p=2 ->Alo s σ p ->QT s σ (Zgb s d p σ):=by
 intro d
 induction d with
 | zero=>intro p σ hp hu _ _;exact absurd hu (by show ¬ ((p:Int)) < 0;omega)
 | succ d ih=>
   intro p σ hp hu h2 hA;have h1:QT s σ (Qm s p σ):= .one (.die hp h2 hA);show QT s σ (Zje s (Zgb s d) p (Z6 s p σ));unfold Zje;unfold Qm at h1;by_cases h0:inn s (p:Int) < 0
   ·rw [if_pos h0] at h1 ⊢;exact h1
   ·rw [if_neg h0] at h1 ⊢;obtain⟨eq,hq⟩:=QB hS hp h0;by_cases e:pl s (inn s (p:Int)).toNat=pl s p
    ·rw [if_pos e] at h1 ⊢;unfold WA;by_cases c:(Yy s p (J9 s (Z6 s p σ) p) (Z6 s p σ)).st (inn s (p:Int)).toNat=2∧Alo s (Yy s p (J9 s (Z6 s p σ) p) (Z6 s p σ)) (inn s (p:Int)).toNat
     ·rw [ZF c];exact h1.trans (ih _ _ hq (by rw [← eq];exact ZvB hp hu) c.1 c.2)
     ·rw [ZE c];exact h1
    ·rw [if_neg e] at h1 ⊢;exact h1
theorem ZkK (hS:XO s):∀ (d p:Nat) (σ:TS),p < nn s ->ZbQ s d p ->σ.st p=1 ->QT s σ (Q8 s d p σ):=by
 intro d
 induction d with
 | zero=>intro p σ hp hs _;exact absurd rfl (hs p hp 0 (Nat.le_refl _))
 | succ d ih=>
   intro p σ hp hs h1;have h0:QT s σ (Jw p σ):= .one (.fall hp h1);have hne:(Jw p σ).st p ≠ 1:=by show ZY σ.st p 2 p ≠ 1;rw [Zq];decide
   have hk:QT s σ (fk s (Q8 s d) p (nn s) (Jw p σ))∧(fk s (Q8 s d) p (nn s) (Jw p σ)).st p ≠ 1:=by
    refine UM _ (fun τ=>QT s σ τ∧τ.st p ≠ 1) _ _ ⟨h0,hne⟩ (fun τ k hk ⟨ha,hτ⟩=>?_);obtain⟨hkn,hki⟩:=Zxh.1 (show k ∈ ZGQ s p from hk)
    have:QT s τ (ZeB s (Q8 s d) p τ k):=by
     unfold ZeB;by_cases e:pl s k=pl s p
     ·rw [if_pos e];by_cases e1:τ.st k=1
      ·rw [if_pos e1];exact ih k τ hkn (hs.kid hki) e1
      ·rw [if_neg e1];exact .refl
     ·rw [if_neg e];by_cases e1:(k:Int) ∈ τ.kn p
      ·rw [if_pos e1];exact .refl
      ·rw [if_neg e1];exact .one (.UG hp hkn hki hτ e e1)
    exact⟨ha.trans this,ZCS this hτ⟩
   show QT s σ (ZiP s p (fk s (Q8 s d) p (nn s) (Jw p σ)));unfold ZiP;by_cases c:(fk s (Q8 s d) p (nn s) (Jw p σ)).st p=2∧Alo s (fk s (Q8 s d) p (nn s) (Jw p σ)) p
   ·rw [ZF c];exact hk.1.trans (ZoM hS _ _ _ hp (ZcF hS hp) c.1 c.2)
   ·rw [ZE c];exact hk.1
theorem Ztn (hw:w < mm s):∀ (n:Nat) (σ:TS),QT s σ (UH s w n σ):=by
 intro n
 induction n with
 | zero=>intro σ;exact .refl
 | succ n ih=>
   intro σ;rw [UH];cases hpk:Qj s σ.ld w (σ.be w) (σ.be w).length with
   | none=>exact .refl
   | some i=>exact(QT.one (.ring hw hpk)).trans (ih _)
theorem ZdD:∀ k,k <=mm s ->QT s σ (rings s k σ):=by
 intro k
 induction k with
 | zero=>intro _;exact .refl
 | succ k ih=>intro hk;exact(ih (by omega)).trans (Ztn (by omega) _ _)
theorem ZtM (hS:XO s) (ha:a < mm s) (hb:b < mm s) (hl:σ.ld (li s a b) < (σ.sn (li s a b)).length) (hx:ZzU s b (hd σ (li s a b))) (hD:ZuW s (hd σ (li s a b)) σ):QT s σ (Zch s a b σ):=by
 obtain⟨p,hp,hpn,c⟩:=hx;unfold Zch Zeu;rcases c with⟨k,q,hq,Wj⟩ | ⟨k,q,hq,Wj⟩ | k | ⟨k,h0,hm⟩ | ⟨k,e,hm,q,hq,Wj⟩
 ·rw [if_pos k,hp,hq,Int.toNat_natCast,Int.toNat_natCast];exact .one (.Za5 ha hb hl k hp hq hpn Wj)
 ·rw [if_neg (by omega),if_pos k,hp,hq,Int.toNat_natCast,Int.toNat_natCast];exact .one (.Za8 ha hb hl k hp hq hpn Wj)
 ·rw [if_neg (by omega),if_neg (by omega),if_pos k,hp,Int.toNat_natCast];have h1:QT s σ (drop1 (li s a b) σ):= .one (.Za6 ha hb hl k hp hpn);by_cases e:(drop1 (li s a b) σ).st p=1
  ·rw [if_pos e];exact h1.trans (ZkK hS _ _ _ hpn (ZbQ.all hS.inn) e)
  ·rw [if_neg e];exact h1
 ·rw [if_neg (by omega),if_neg (by omega),if_neg (by omega),if_pos k,hp,Int.toNat_natCast];obtain⟨h3,hn⟩:=Ziy hp hD k;obtain⟨eq,hq⟩:=QB hS hpn (by omega);have h1:QT s σ (Yy s p (hd σ (li s a b)).qX (drop1 (li s a b) σ)):= .one (.Zah ha hb hl k hp hpn h0 hm h3 hn);unfold Zcf WA;by_cases c:(Yy s p (hd σ (li s a b)).qX (drop1 (li s a b) σ)).st (inn s (p:Int)).toNat=2∧Alo s (Yy s p (hd σ (li s a b)).qX (drop1 (li s a b) σ)) (inn s (p:Int)).toNat
  ·rw [ZF c];exact h1.trans (ZoM hS _ _ _ hq (ZcF hS hq) c.1 c.2)
  ·rw [ZE c];exact h1
 ·rw [if_neg (by omega),if_neg (by omega),if_neg (by omega),if_neg (by omega)];exact .one (.Za7 ha hb hl k)
end
end
section
def ZzV (s:Zb) (a b:Nat) (x:Zd):Prop:=∃ p:Nat,x.kV= (p:Int)∧p < nn s∧x.qX.length <=16∧
 ((x.kW=1∧pl s p=a∧∃ q:Nat,x.kX= (q:Int)∧q < nn s∧pl s q=b)∨(x.kW=2∧pl s p=a∧∃ q:Nat,x.kX= (q:Int)∧q < nn s∧pl s q=b)∨(x.kW=3∧pl s p=b∧0 <=inn s (p:Int)∧pl s (inn s (p:Int)).toNat=a)∨(x.kW=4∧0 <=inn s (p:Int)∧x.qX.length=mm s * mm s∧pl s p=a∧pl s (inn s (p:Int)).toNat=b)∨(x.kW=5∧pl s p=b∧x.qX.length=mm s * mm s∧∃ q:Nat,x.kX= (q:Int)∧q < nn s∧pl s q=a))
theorem ZzV.s {s:Zb} {a b:Nat} {x:Zd} (h:ZzV s a b x):ZzU s b x:=by
 obtain⟨p,hp,hpn,_,c⟩:=h;refine⟨p,hp,hpn,?_⟩;rcases c with⟨k,_,q,hq,Wj,_⟩ | ⟨k,_,q,hq,Wj,_⟩ | ⟨k,_⟩ | ⟨k,h0,hm,_⟩ | ⟨k,e,hm,q,hq,Wj,_⟩
 ·exact .inl ⟨k,q,hq,Wj⟩
 ·exact .inr (.inl ⟨k,q,hq,Wj⟩)
 ·exact .inr (.inr (.inl k))
 ·exact .inr (.inr (.inr (.inl ⟨k,h0,hm⟩)))
 ·exact .inr (.inr (.inr (.inr ⟨k,e,hm,q,hq,Wj⟩)))
structure P1 (s:Zb) (σ:TS):Prop where
 lets:∀ a b,a < mm s ->b < mm s ->∀ x ∈ σ.sn (li s a b),ZzV s a b x
 self:∀ a,a < mm s ->σ.sn (li s a a)= []
 bea:∀ w,w < mm s ->∀ x ∈ σ.be w,BeS s x∧x.kW=5
 ws:∀ q,q < nn s ->∀ x ∈ σ.wa q,∃ k:Nat,x= (k:Int)∧k < nn s
section
variable {s:Zb} {σ τ υ:TS} {F B a b p q w i n d:Nat} {x:Zd}
theorem Zqc {a b a' b':Nat} (hb:b < mm s) (hb':b' < mm s) (h:li s a b=li s a' b'):a=a'∧b=b':=by
 obtain⟨e1,e2⟩:= (Wu hb).1 (show li s a b=a * mm s + b from rfl);obtain⟨e3,e4⟩:= (Wu hb').1 (show li s a' b'=a' * mm s + b' from rfl);rw [h] at e1 e2;exact⟨by omega,by omega⟩
theorem P1.congr (h:P1 s σ) (h1:τ.sn=σ.sn) (h2:τ.be=σ.be) (h3:τ.wa=σ.wa):P1 s τ:= ⟨by rw [h1];exact h.lets,by rw [h1];exact h.self,by rw [h2];exact h.bea,by rw [h3];exact h.ws⟩
theorem P1.send (h:P1 s σ) (ha:a < mm s) (hb:b < mm s) (hne:a ≠ b) (hx:ZzV s a b x):P1 s (Proofs.YtcnahmgekicbdaaGreat.send s a b x σ):=by
 refine⟨fun a' b' ha' hb' y hy=>?_,fun a' ha'=>?_,h.bea,h.ws⟩
 ·by_cases e:li s a' b'=li s a b
  ·obtain⟨rfl,rfl⟩:=Zqc hb' hb e;rw [ZaU] at hy;rcases List.mem_append.1 hy with hy | hy
   ·exact h.lets _ _ ha' hb' y hy
   ·rw [List.mem_singleton.1 hy];exact hx
  ·rw [Jj e] at hy;exact h.lets _ _ ha' hb' y hy
 ·rw [Jj (fun e=>hne (by obtain⟨e1,e2⟩:=Zqc ha' hb e;omega))];exact h.self a' ha'
theorem P1.wait (h:P1 s σ) (hx:BeS s x∧x.kW=5):P1 s (Proofs.YtcnahmgekicbdaaGreat.wait a x σ):=by
 refine⟨h.lets,h.self,fun w hw y hy=>?_,h.ws⟩;have hy:y ∈ ZY σ.be a (σ.be a ++ [x]) w:=hy;by_cases e:w=a
 ·subst e;rw [Zq] at hy;rcases List.mem_append.1 hy with hy | hy
  ·exact h.bea w hw y hy
  ·rw [List.mem_singleton.1 hy];exact hx
 ·rw [ZA e] at hy;exact h.bea w hw y hy
theorem P1.Y5 (hS:XO s) (h:P1 s σ) (hp:p < nn s) (hq:q < nn s):P1 s (Proofs.YtcnahmgekicbdaaGreat.Y5 s p q σ):=by
 unfold Proofs.YtcnahmgekicbdaaGreat.Y5;by_cases e:pl s p=pl s q
 ·rw [if_pos e];exact h.wait ⟨⟨⟨p,rfl,hp⟩,⟨q,rfl,hq⟩,Qo⟩,rfl⟩
 ·rw [if_neg e];exact h.send (hS.pl hq).2 (hS.pl hp).2 (fun z=>e z.symm) ⟨p,rfl,hp,(by show(tab _ _).length <=16;rw [Qo];exact Zir hS),.inr (.inr (.inr (.inr ⟨rfl,rfl,Qo,q,rfl,hq,rfl⟩)))⟩
theorem P1.see (h:P1 s σ) (p q:Nat) (n:Int):P1 s (Proofs.YtcnahmgekicbdaaGreat.see p q n σ):=by
 have e:=X6 p q n σ;exact h.congr e.2.2.2.2.1 e.2.2.2.2.2.1 e.2.2.2.2.2.2.1
theorem P1.note (hS:XO s) (h:P1 s σ) (hp:p < nn s) (hq:q < nn s):P1 s (Proofs.YtcnahmgekicbdaaGreat.note s p q σ):=by
 unfold Proofs.YtcnahmgekicbdaaGreat.note;by_cases e:σ.st q=3
 ·rw [if_pos e];exact h.Y5 hS hp hq
 ·rw [if_neg e];refine⟨h.lets,h.self,h.bea,fun j hj y hy=>?_⟩;have hy:y ∈ ZY σ.wa q (σ.wa q ++ [(p:Int)]) j:=hy;by_cases e1:j=q
  ·subst e1;rw [Zq] at hy;rcases List.mem_append.1 hy with hy | hy
   ·exact h.ws j hj y hy
   ·rw [List.mem_singleton.1 hy];exact⟨p,rfl,hp⟩
  ·rw [ZA e1] at hy;exact h.ws j hj y hy
theorem P1.Jm (h:P1 s σ) (p:Nat):P1 s (Proofs.YtcnahmgekicbdaaGreat.Jm p σ):=by
 refine⟨h.lets,h.self,h.bea,fun j hj y hy=>?_⟩;have hy:y ∈ ZY σ.wa p [] j:=hy;by_cases e1:j=p
 ·subst e1;rw [Zq] at hy;cases hy
 ·rw [ZA e1] at hy;exact h.ws j hj y hy
theorem P1.Zu (hS:XO s) (h:P1 s σ) (hp:p < nn s) (l:List Int) (hl:∀ x ∈ l,∃ k:Nat,x= (k:Int)∧k < nn s):P1 s (Proofs.YtcnahmgekicbdaaGreat.Zu s p l σ):=
 UM _ (P1 s) l σ h fun τ x hx hτ=>by
  obtain⟨k,e,hk⟩:=hl x hx;rw [e,Int.toNat_natCast];exact hτ.Y5 hS hk hp
theorem P1.Z6 (hS:XO s) (h:P1 s σ) (hp:p < nn s):P1 s (Proofs.YtcnahmgekicbdaaGreat.Z6 s p σ):= ((h.Jm p).Zu hS hp _ (h.ws p hp)).congr rfl rfl rfl
theorem P1.Qm (hS:XO s) (h:P1 s σ) (hp:p < nn s):P1 s (Proofs.YtcnahmgekicbdaaGreat.Qm s p σ):=by
 have hA:=h.Z6 hS hp;unfold Proofs.YtcnahmgekicbdaaGreat.Qm;by_cases h0:inn s (p:Int) < 0
 ·rw [if_pos h0];exact hA
 ·rw [if_neg h0];obtain⟨eq,hq⟩:=QB hS hp h0;by_cases e:pl s (inn s (p:Int)).toNat=pl s p
  ·rw [if_pos e];exact hA.congr rfl rfl rfl
  ·rw [if_neg e];exact hA.send (hS.pl hp).2 (hS.pl hq).2 (fun z=>e z.symm) ⟨p,rfl,hp,(by show(tab _ _).length <=16;rw [Qo];exact Zir hS),.inr (.inr (.inr (.inl ⟨rfl,by omega,Qo,rfl,rfl⟩)))⟩
theorem Zbb (h:σ.ld i < (σ.sn i).length):hd σ i ∈ σ.sn i:=Xe h
theorem P1.act (hS:XO s) (h:P1 s σ) (ac:Act s σ τ):P1 s τ:=by
 cases ac with
 | fall=>exact h.congr rfl rfl rfl
 | @UG p k hp hk hi h1 hr hn=>
   exact h.send (hS.pl hp).2 (hS.pl hk).2 (fun z=>hr z.symm) ⟨k,rfl,hk,(by show 0 <=16;omega),.inr (.inr (.inl ⟨rfl,rfl,by omega,by rw [hi,Int.toNat_natCast]⟩))⟩
 | die hp=>exact h.Qm hS hp
 | ZaW hp hq h1 e=>exact(h.congr (τ:=kK _ _ σ) rfl rfl rfl).see _ _ _
 | @ZaV p q hp hq h1 e=>exact(h.congr (τ:=kK _ _ σ) rfl rfl rfl).send (hS.pl hp).2 (hS.pl hq).2 e ⟨p,rfl,hp,(by show 0 <=16;omega),.inl ⟨rfl,rfl,q,rfl,hq,rfl⟩⟩
 | ZaQ hp hq h1 e=>exact(h.congr (τ:=tell _ _ _ _ σ) rfl rfl rfl).note hS hp hq
 | @ZaP p q hp hq h1 e=>exact(h.congr (τ:=tell _ _ _ _ σ) rfl rfl rfl).send (hS.pl hp).2 (hS.pl hq).2 e ⟨p,rfl,hp,(by show 0 <=16;omega),.inr (.inl ⟨rfl,rfl,q,rfl,hq,rfl⟩)⟩
 | Za5=>exact(h.congr (τ:=drop1 _ σ) rfl rfl rfl).see _ _ _
 | Za8 ha hb hl hk hp hq hpn Wj=>exact(h.congr (τ:=drop1 _ σ) rfl rfl rfl).note hS hpn Wj
 | Za6=>exact h.congr rfl rfl rfl
 | Zah=>exact h.congr rfl rfl rfl
 | @Za7 a b ha hb hl hk=>
   have hm:=Zbb hl;obtain⟨p,hp,hpn,_,c⟩:=h.lets a b ha hb _ hm;refine(h.congr (τ:=drop1 _ σ) rfl rfl rfl).wait ⟨?_,hk⟩;rcases c with⟨k,_⟩ | ⟨k,_⟩ | ⟨k,_⟩ | ⟨k,_⟩ | ⟨k,e,hm,q,hq,Wj,_⟩
   ·omega
   ·omega
   ·omega
   ·omega
   ·exact⟨⟨p,hp,hpn⟩,⟨q,hq,Wj⟩,hm⟩
 | @ring w i hw hpk=>
   have e:=Qp s w i σ;refine⟨by rw [e.2.2.2.2.2.1];exact h.lets,by rw [e.2.2.2.2.2.1];exact h.self,fun v hv y hy=>?_,by rw [e.2.2.2.2.2.2.1];exact h.ws⟩;rw [e.1] at hy;by_cases z:v=w
   ·subst z;rw [Zq] at hy;exact h.bea v hv y (ZaE hy)
   ·rw [ZA z] at hy;exact h.bea v hv y hy
def SnM (σ τ:TS):Prop:=∀ i,(σ.sn i).length <= (τ.sn i).length
theorem SnM.refl' (h:τ.sn=σ.sn):SnM σ τ:=fun i=>by rw [h];exact Nat.le_refl _
theorem SnM.trans (h:SnM σ τ) (h':SnM τ υ):SnM σ υ:=fun i=>Nat.le_trans (h i) (h' i)
theorem SnM.send (x:Zd):SnM σ (Proofs.YtcnahmgekicbdaaGreat.send s a b x σ):=fun i=>by
 by_cases e:i=li s a b
 ·subst e;rw [ZaU,List.length_append];omega
 ·rw [Jj e];exact Nat.le_refl _
theorem SnM.Y5 (p q:Nat):SnM σ (Proofs.YtcnahmgekicbdaaGreat.Y5 s p q σ):=by
 unfold Proofs.YtcnahmgekicbdaaGreat.Y5;split
 ·exact .refl' rfl
 ·exact .send _
theorem SnM.Zu (p:Nat) (l:List Int):SnM σ (Proofs.YtcnahmgekicbdaaGreat.Zu s p l σ):=UM _ (SnM σ) l σ (.refl' rfl) fun τ x _ h=>h.trans (.Y5 _ _)
theorem SnM.note (p q:Nat):SnM σ (Proofs.YtcnahmgekicbdaaGreat.note s p q σ):=by
 unfold Proofs.YtcnahmgekicbdaaGreat.note;split
 ·exact .Y5 _ _
 ·exact .refl' rfl
theorem SnM.Z6 (p:Nat):SnM σ (Proofs.YtcnahmgekicbdaaGreat.Z6 s p σ):= (SnM.Zu (σ:=Proofs.YtcnahmgekicbdaaGreat.Jm p σ) p (σ.wa p)).trans (.refl' rfl)
structure P2 (s:Zb) (σ:TS):Prop where
 ld:∀ i,σ.ld i <= (σ.sn i).length
 kn:Kn s σ
theorem P2.of (h:P2 s σ) (h1:τ.ld=σ.ld) (h2:SnM σ τ) (h3:τ.kn=σ.kn) (h4:∀ k,σ.st k=3 ->τ.st k=3):P2 s τ:=
 ⟨fun i=>by rw [h1];exact Nat.le_trans (h.ld i) (h2 i),fun q hq=>by rw [h3];exact h.kn.srt q hq,fun q hq x hx=>by
   rw [h3] at hx;obtain⟨k,a,b,c,d⟩:=h.kn.rng q hq x hx;exact⟨k,a,b,c,h4 k d⟩⟩
theorem P2.drop (h:P2 s σ) (hl:σ.ld i < (σ.sn i).length):P2 s (drop1 i σ):= ⟨fun j=>by
 show ZY σ.ld i (σ.ld i + 1) j <= (σ.sn j).length;by_cases e:j=i
 ·subst e;rw [Zq];exact hl
 ·rw [ZA e];exact h.ld j,⟨h.kn.srt,h.kn.rng⟩⟩
theorem ZH2 {f:Nat ->Int} {k j:Nat} (h:f j=3):ZY f k 3 j=3:=by
 unfold ZY;by_cases e:j=k
 ·rw [if_pos e]
 ·rw [if_neg e];exact h
theorem P2.Z6 (h:P2 s σ) (p:Nat):P2 s (Proofs.YtcnahmgekicbdaaGreat.Z6 s p σ):=by
 have sA:=Qg (s:=s) p σ;exact h.of sA.2.2.1 (.Z6 p) sA.2.1 fun k hk=>by rw [sA.1];exact ZH2 hk
theorem P2.not_mem (h:P2 s σ) {q:Nat} (hq:q < nn s) (h2:σ.st p ≠ 3):(p:Int) ∉ σ.kn q:=fun hm=>by
 obtain⟨k,e1,_,_,e4⟩:=h.kn.rng q hq _ hm;have:k=p:=by omega
 subst this;exact h2 e4
theorem P2.act (hS:XO s) (h:P2 s σ) (ac:Act s σ τ):P2 s τ:=by
 cases ac with
 | @fall p hp h1=>
   refine h.of rfl (.refl' rfl) rfl fun k hk=>?_
   show ZY σ.st p 2 k=3;rw [ZA (fun z=>by subst z;rw [h1] at hk;cases hk)];exact hk
 | UG=>exact h.of rfl (.send _) rfl fun _ z=>z
 | @die p hp h2 hA=>
   have hD:=h.Z6 p;have sA:=Qg (s:=s) p σ;unfold Qm;by_cases h0:inn s (p:Int) < 0
   ·rw [if_pos h0];exact hD
   ·rw [if_neg h0];obtain⟨eq,hq⟩:=QB hS hp h0;by_cases e:pl s (inn s (p:Int)).toNat=pl s p
    ·rw [if_pos e];exact⟨hD.ld,U7 hS hD.kn hp h0 (by rw [sA.1,Zq]) (by rw [sA.2.1];exact h.not_mem hq (by rw [h2];decide)) _⟩
    ·rw [if_neg e];exact hD.of rfl (.send _) rfl fun _ z=>z
 | @ZaW p q=>have e:=X6 q p σ.sd (kK p q σ);exact h.of e.2.2.2.1 (.refl' e.2.2.2.2.1) e.2.1 fun k z=>by rw [e.1];exact z
 | @ZaV p q=>exact h.of rfl (SnM.trans (.refl' (τ:=kK p q σ) rfl) (.send _)) rfl fun _ z=>z
 | @ZaQ p q=>have e:=Y8 (s:=s) p q (tell 3 p q 0 σ);exact h.of e.2.2.2.1 (SnM.trans (.refl' (τ:=tell 3 p q 0 σ) rfl) (.note _ _)) e.2.1 fun k z=>by rw [e.1];exact z
 | @ZaP p q=>exact h.of rfl (SnM.trans (.refl' (τ:=tell 3 p q 0 σ) rfl) (.send _)) rfl fun _ z=>z
 | @Za5 a b p q ha hb hl=>have e:=X6 q p (hd σ (li s a b)).n (drop1 (li s a b) σ);exact(h.drop hl).of e.2.2.2.1 (.refl' e.2.2.2.2.1) e.2.1 fun k z=>by rw [e.1];exact z
 | @Za8 a b p q ha hb hl=>have e:=Y8 (s:=s) p q (drop1 (li s a b) σ);exact(h.drop hl).of e.2.2.2.1 (.note _ _) e.2.1 fun k z=>by rw [e.1];exact z
 | Za6 ha hb hl=>exact h.drop hl
 | Zah ha hb hl hk hp hpn h0 hm h3 hn=>exact⟨(h.drop hl).ld,U7 hS (h.drop hl).kn hpn (by omega) h3 hn _⟩
 | Za7 ha hb hl=>exact(h.drop hl).of rfl (.refl' rfl) rfl fun _ z=>z
 | @ring w i=>have e:=Qp s w i σ;exact h.of e.2.1 (.refl' e.2.2.2.2.2.1) e.2.2.2.1 fun k z=>by rw [e.2.2.1];exact z
structure KI (s:Zb) (σ:TS):Prop where
 k1:∀ (i j:Nat) (x:Zd),(σ.sn i)[j]? =some x ->x.kW=4 ->∃ k:Nat,x.kV= (k:Int)∧k < nn s∧σ.st k=3∧((k:Int) ∈ σ.kn (inn s (k:Int)).toNat↔j < σ.ld i)
 k2:∀ (i i' j j':Nat) (x x':Zd),(σ.sn i)[j]? =some x ->(σ.sn i')[j']? =some x' ->x.kW=4 ->x'.kW=4 ->x.kV=x'.kV ->i=i'∧j=j'
 k3:∀ p,p < nn s ->σ.st p=3 ->0 <=inn s (p:Int) ->(p:Int) ∈ σ.kn (inn s (p:Int)).toNat∨∃ (i j:Nat) (x:Zd),(σ.sn i)[j]? =some x∧x.kW=4∧x.kV= (p:Int)
 k4:∀ p,p < nn s ->σ.st p=3 ->Alo s σ p
def S4 (σ τ:TS):Prop:=∀ (i j:Nat) (x:Zd),x.kW=4 ->((τ.sn i)[j]? =some x↔(σ.sn i)[j]? =some x)
theorem S4.refl' (h:τ.sn=σ.sn):S4 σ τ:=fun i j x _=>by rw [h]
theorem S4.trans (h:S4 σ τ) (h':S4 τ υ):S4 σ υ:=fun i j x hx=>(h' i j x hx).trans (h i j x hx)
theorem Xj {x y:Zd} {j:Nat}:((send s a b x σ).sn i)[j]? =some y↔(σ.sn i)[j]? =some y∨(i=li s a b∧j= (σ.sn i).length∧y=x):=by
 by_cases e:i=li s a b
 ·subst e;rw [ZaU];rcases Nat.lt_trichotomy j (σ.sn (li s a b)).length with h | h | h
  ·rw [List.getElem?_append_left h];exact⟨.inl,fun z=>z.elim id fun w=>absurd w.2.1 (by omega)⟩
  ·subst h;rw [List.getElem?_append_right (Nat.le_refl _),Nat.sub_self]
   constructor
   ·intro z;simp at z;exact .inr ⟨rfl,rfl,z.symm⟩
   ·rintro(z | ⟨_,_,z⟩)
    ·rw [List.getElem?_eq_none (Nat.le_refl _)] at z;cases z
    ·simp [z]
  ·constructor
   ·intro z;have:= (Li0 z).1;rw [List.length_append,List.length_singleton] at this;omega
   ·rintro(z | ⟨_,z,_⟩)
    ·have:= (Li0 z).1;omega
    ·omega
 ·rw [Jj e];exact⟨.inl,fun z=>z.elim id fun w=>absurd w.1 e⟩
theorem S4.send (hx:x.kW ≠ 4):S4 σ (Proofs.YtcnahmgekicbdaaGreat.send s a b x σ):=fun i j y hy=>by
 rw [Xj];exact⟨fun z=>z.elim id fun w=>absurd (w.2.2 ▸ hy) hx,.inl⟩
theorem S4.Y5 (p q:Nat):S4 σ (Proofs.YtcnahmgekicbdaaGreat.Y5 s p q σ):=by
 unfold Proofs.YtcnahmgekicbdaaGreat.Y5;split
 ·exact .refl' rfl
 ·exact .send (by show(5:Int) ≠ 4;decide)
theorem S4.Zu (p:Nat) (l:List Int):S4 σ (Proofs.YtcnahmgekicbdaaGreat.Zu s p l σ):=UM _ (S4 σ) l σ (.refl' rfl) fun τ x _ h=>h.trans (.Y5 _ _)
theorem S4.note (p q:Nat):S4 σ (Proofs.YtcnahmgekicbdaaGreat.note s p q σ):=by
 unfold Proofs.YtcnahmgekicbdaaGreat.note;split
 ·exact .Y5 _ _
 ·exact .refl' rfl
theorem S4.Z6 (p:Nat):S4 σ (Proofs.YtcnahmgekicbdaaGreat.Z6 s p σ):= (S4.Zu (σ:=Proofs.YtcnahmgekicbdaaGreat.Jm p σ) p (σ.wa p)).trans (.refl' rfl)
theorem KI.same (h:KI s σ) (h1:∀ p,τ.st p=3↔σ.st p=3) (h2:τ.kn=σ.kn) (h3:τ.ld=σ.ld) (h4:S4 σ τ):KI s τ:=by
 refine⟨fun i j x hx hk=>?_,fun i i' j j' x x' hx hx' hk hk' e=>h.k2 i i' j j' x x' ((h4 i j x hk).1 hx) ((h4 i' j' x' hk').1 hx') hk hk' e,fun p hp h3' h0=>?_,fun p hp h3'=>?_⟩
 ·obtain⟨k,e1,e2,e3,e4⟩:=h.k1 i j x ((h4 i j x hk).1 hx) hk;exact⟨k,e1,e2,(h1 k).2 e3,by rw [h2,h3];exact e4⟩
 ·rw [h2];exact(h.k3 p hp ((h1 p).1 h3') h0).imp id fun⟨i,j,x,a,b,c⟩=>⟨i,j,x,(h4 i j x b).2 a,b,c⟩
 ·intro k hk e;rw [h2];exact h.k4 p hp ((h1 p).1 h3') k hk e
theorem KI.drop (h:KI s σ) (hl:σ.ld i < (σ.sn i).length) (hk:(hd σ i).kW ≠ 4):KI s (drop1 i σ):=by
 refine⟨fun i' j x hx hk'=>?_,h.k2,h.k3,h.k4⟩;obtain⟨k,e1,e2,e3,e4⟩:=h.k1 i' j x hx hk';refine⟨k,e1,e2,e3,e4.trans ?_⟩;show j < σ.ld i'↔j < ZY σ.ld i (σ.ld i + 1) i';by_cases e:i'=i
 ·subst e;rw [Zq]
  have:j ≠ σ.ld i':=fun z=>hk (by
   subst z;have hx:(σ.sn i')[σ.ld i']? =some x:=hx;unfold hd;rw [List.getD_eq_getElem?_getD,hx];exact hk')
  omega
 ·rw [ZA e]
theorem ZOw {f:Nat ->Int} {k j:Nat} {v:Int} (hv:v ≠ 3) (h:f k ≠ 3):ZY f k v j=3↔f j=3:=by
 unfold ZY;by_cases e:j=k
 ·subst e;rw [if_pos rfl];exact⟨fun z=>absurd z hv,fun z=>absurd z h⟩
 ·rw [if_neg e]
theorem KI.die (hS:XO s) (hP:P2 s σ) (h:KI s σ) (hp:p < nn s) (h2:σ.st p=2) (hA:Alo s σ p):KI s (Qm s p σ):=by
 have sA:=Qg (s:=s) p σ;have h4:=S4.Z6 (s:=s) (σ:=σ) p
 have no4:∀ (i j:Nat) (x:Zd),(σ.sn i)[j]? =some x ->x.kW=4 ->x.kV ≠ (p:Int):=fun i j x hx hk e=>by
  obtain⟨k,e1,_,e3,_⟩:=h.k1 i j x hx hk;have:k=p:=by omega
  subst this;rw [h2] at e3;cases e3
 have st3:∀ k,σ.st k=3 ->ZY σ.st p 3 k=3:=fun k hk=>by
  unfold ZY;by_cases e:k=p
  ·rw [if_pos e]
  ·rw [if_neg e];exact hk
 have Ztj:∀ k,ZY σ.st p 3 k=3 ->k=p∨σ.st k=3:=fun k hk=>by
  by_cases e:k=p
  ·exact .inl e
  ·rw [ZA e] at hk;exact .inr hk
 unfold Qm;by_cases h0:inn s (p:Int) < 0
 ·rw [if_pos h0];refine⟨fun i j x hx hk=>?_,fun i i' j j' x x' hx hx' hk hk' e=>h.k2 i i' j j' x x' ((h4 i j x hk).1 hx) ((h4 i' j' x' hk').1 hx') hk hk' e,fun k hk h3' h0'=>?_,fun k hk h3'=>?_⟩
  ·obtain⟨k,e1,e2,e3,e4⟩:=h.k1 i j x ((h4 i j x hk).1 hx) hk;exact⟨k,e1,e2,by rw [sA.1];exact st3 k e3,by rw [sA.2.1,sA.2.2.1];exact e4⟩
  ·rw [sA.1] at h3';rcases Ztj k h3' with e | e
   ·subst e;omega
   ·rw [sA.2.1];exact(h.k3 k hk e h0').imp id fun⟨i,j,x,a,b,c⟩=>⟨i,j,x,(h4 i j x b).2 a,b,c⟩
  ·rw [sA.1] at h3';intro j hj e;rw [sA.2.1];rcases Ztj k h3' with z | z
   ·subst z;exact hA j hj e
   ·exact h.k4 k hk z j hj e
 ·rw [if_neg h0];obtain⟨eq,hq⟩:=QB hS hp h0;by_cases e:pl s (inn s (p:Int)).toNat=pl s p
  ·rw [if_pos e]
   have kne:∀ (k q':Nat),k ≠ p ->(((k:Int)) ∈ ZY (Z6 s p σ).kn (inn s (p:Int)).toNat (ins (p:Int) ((Z6 s p σ).kn (inn s (p:Int)).toNat)) q'↔(k:Int) ∈ σ.kn q'):=fun k q' hne=>by
    rw [sA.2.1];by_cases z:q'= (inn s (p:Int)).toNat
    ·subst z;rw [Zq,Wi];exact⟨fun w=>w.elim (fun w=>absurd (by omega) hne) id,.inr⟩
    ·rw [ZA z]
   refine⟨fun i j x hx hk=>?_,fun i i' j j' x x' hx hx' hk hk' e=>h.k2 i i' j j' x x' ((h4 i j x hk).1 hx) ((h4 i' j' x' hk').1 hx') hk hk' e,fun k hk h3' h0'=>?_,fun k hk h3'=>?_⟩
   ·have hx':= (h4 i j x hk).1 hx;obtain⟨k,e1,e2,e3,e4⟩:=h.k1 i j x hx' hk;have hne:k ≠ p:=fun z=>no4 i j x hx' hk (by rw [e1,z])
    refine⟨k,e1,e2,by show(Z6 s p σ).st k=3;rw [sA.1];exact st3 k e3,?_⟩;refine(kne k _ hne).trans ?_;show _↔j < (Z6 s p σ).ld i;rw [sA.2.2.1];exact e4
   ·have h3':(Z6 s p σ).st k=3:=h3';rw [sA.1] at h3';rcases Ztj k h3' with z | z
    ·subst z;left;show _ ∈ ZY _ _ _ _;rw [Zq];exact Wi.2 (.inl rfl)
    ·have hne:k ≠ p:=fun w=>by subst w;rw [h2] at z;cases z
     refine(h.k3 k hk z h0').imp (fun w=>(kne k _ hne).2 w) fun⟨i,j,x,a,b,c⟩=>⟨i,j,x,(h4 i j x b).2 a,b,c⟩
   ·have h3':(Z6 s p σ).st k=3:=h3';rw [sA.1] at h3';intro j hj ej
    have hold:(j:Int) ∈ σ.kn k:=by
     rcases Ztj k h3' with z | z
     ·subst z;exact hA j hj ej
     ·exact h.k4 k hk z j hj ej
    show _ ∈ ZY _ _ _ _;rw [sA.2.1];by_cases z:k= (inn s (p:Int)).toNat
    ·subst z;rw [Zq];exact Wi.2 (.inr hold)
    ·rw [ZA z];exact hold
  ·rw [if_neg e];obtain⟨y,hy⟩:∃ y:Zd,y= ⟨4,(p:Int),0,0,J9 s (Z6 s p σ) p⟩:= ⟨_,rfl⟩
   rw [← hy];have yk:y.kW=4:=by rw [hy]
   have yp:y.kV= (p:Int):=by rw [hy]
   refine⟨fun i j x hx hk=>?_,fun i i' j j' x x' hx hx' hk hk' e=>?_,fun k hk h3' h0'=>?_,fun k hk h3'=>?_⟩
   ·rcases Xj.1 hx with hx | ⟨e1,e2,e3⟩
    ·obtain⟨k,e1,e2,e3,e4⟩:=h.k1 i j x ((h4 i j x hk).1 hx) hk
     exact⟨k,e1,e2,by show(Z6 s p σ).st k=3;rw [sA.1];exact st3 k e3,by
      show _ ∈ (Z6 s p σ).kn _↔_ < (Z6 s p σ).ld i;rw [sA.2.1,sA.2.2.1];exact e4⟩
    ·refine⟨p,by rw [e3];exact yp,hp,by show(Z6 s p σ).st p=3;rw [sA.1,Zq],?_⟩;show _ ∈ (Z6 s p σ).kn _↔_ < (Z6 s p σ).ld i;rw [sA.2.1,e2,e1];have:= (hP.Z6 p).ld (li s (pl s p) (pl s (inn s (p:Int)).toNat));exact⟨fun w=>absurd w (hP.not_mem hq (by rw [h2];decide)),fun w=>by omega⟩
   ·rcases Xj.1 hx with hx | ⟨a1,a2,a3⟩ <;> rcases Xj.1 hx' with hx' | ⟨b1,b2,b3⟩
    ·exact h.k2 i i' j j' x x' ((h4 i j x hk).1 hx) ((h4 i' j' x' hk').1 hx') hk hk' e
    ·exact absurd (by rw [e,b3,yp]) (no4 i j x ((h4 i j x hk).1 hx) hk)
    ·exact absurd (by rw [← e,a3,yp]) (no4 i' j' x' ((h4 i' j' x' hk').1 hx') hk')
    ·have:i=i':=by rw [a1,b1]
     subst this;exact⟨rfl,by rw [a2,b2]⟩
   ·have h3':(Z6 s p σ).st k=3:=h3';rw [sA.1] at h3';rcases Ztj k h3' with z | z
    ·subst z;exact .inr ⟨_,_,y,Xj.2 (.inr ⟨rfl,rfl,rfl⟩),yk,yp⟩
    ·refine(h.k3 k hk z h0').imp (fun w=>by show _ ∈ (Z6 s p σ).kn _;rw [sA.2.1];exact w) fun⟨i,j,x,a,b,c⟩=>⟨i,j,x,Xj.2 (.inl ((h4 i j x b).2 a)),b,c⟩
   ·have h3':(Z6 s p σ).st k=3:=h3';rw [sA.1] at h3';intro j hj ej;show _ ∈ (Z6 s p σ).kn k;rw [sA.2.1];rcases Ztj k h3' with z | z
    ·subst z;exact hA j hj ej
    ·exact h.k4 k hk z j hj ej
theorem KI.Zah (hS:XO s) (h:KI s σ) (hl:σ.ld i < (σ.sn i).length) (hk:(hd σ i).kW=4) (hp:(hd σ i).kV= (p:Int)) (hpn:p < nn s) (l:List Int):KI s (Yy s p l (drop1 i σ)):=by
 have hh:(σ.sn i)[σ.ld i]? =some (hd σ i):=by
  unfold hd;rw [List.getD_eq_getElem?_getD,List.getElem?_eq_getElem hl];rfl
 have kne:∀ (k q':Nat),k ≠ p ->(((k:Int)) ∈ ZY σ.kn (inn s (p:Int)).toNat (ins (p:Int) (σ.kn (inn s (p:Int)).toNat)) q'↔(k:Int) ∈ σ.kn q'):=fun k q' hne=>by
  by_cases z:q'= (inn s (p:Int)).toNat
  ·subst z;rw [Zq,Wi];exact⟨fun w=>w.elim (fun w=>absurd (by omega) hne) id,.inr⟩
  ·rw [ZA z]
 have kup:∀ (k q':Nat),(k:Int) ∈ σ.kn q' ->((k:Int)) ∈ ZY σ.kn (inn s (p:Int)).toNat (ins (p:Int) (σ.kn (inn s (p:Int)).toNat)) q':=fun k q' hm=>by
  by_cases e:k=p
  ·by_cases z:q'= (inn s (p:Int)).toNat
   ·subst z;rw [Zq];exact Wi.2 (.inr hm)
   ·rw [ZA z];exact hm
  ·exact(kne k q' e).2 hm
 refine⟨fun i' j x hx hk'=>?_,h.k2,fun k hk' h3 h0=>(h.k3 k hk' h3 h0).imp (fun w=>kup k _ w) id,fun k hk' h3 j hj e=>kup j k (h.k4 k hk' h3 j hj e)⟩;obtain⟨k,e1,e2,e3,e4⟩:=h.k1 i' j x hx hk';refine⟨k,e1,e2,e3,?_⟩;show(k:Int) ∈ ZY σ.kn (inn s (p:Int)).toNat (ins (p:Int) (σ.kn (inn s (p:Int)).toNat)) (inn s (k:Int)).toNat↔j < ZY σ.ld i (σ.ld i + 1) i';by_cases z:k=p
 ·subst z;obtain⟨a,c⟩:=h.k2 i' i j _ x _ hx hh hk' hk (by rw [e1,hp]);subst a c;rw [Zq,Zq];exact⟨fun _=>by omega,fun _=>Wi.2 (.inl rfl)⟩
 ·rw [kne k _ z];by_cases e:i'=i
  ·subst e;rw [Zq]
   have:j ≠ σ.ld i':=fun w=>by
    subst w;have hx:(σ.sn i')[σ.ld i']? =some x:=hx;rw [hh] at hx;cases hx;rw [hp] at e1;omega
   exact e4.trans (by omega)
  ·rw [ZA e];exact e4
theorem KI.act (hS:XO s) (hP:P2 s σ) (h:KI s σ) (ac:Act s σ τ):KI s τ:=by
 cases ac with
 | @fall p hp h1=>exact h.same (fun k=>ZOw (by decide) (by rw [h1];decide)) rfl rfl (.refl' rfl)
 | UG=>exact h.same (fun _=>Iff.rfl) rfl rfl (.send (by show(3:Int) ≠ 4;decide))
 | die hp h2 hA=>exact h.die hS hP hp h2 hA
 | @ZaW p q=>have e:=X6 q p σ.sd (kK p q σ);exact h.same (fun k=>by rw [e.1];exact Iff.rfl) e.2.1 e.2.2.2.1 (.refl' e.2.2.2.2.1)
 | @ZaV p q=>exact h.same (fun _=>Iff.rfl) rfl rfl (S4.trans (.refl' (τ:=kK p q σ) rfl) (.send (by show(1:Int) ≠ 4;decide)))
 | @ZaQ p q=>have e:=Y8 (s:=s) p q (tell 3 p q 0 σ);exact h.same (fun k=>by rw [e.1];exact Iff.rfl) e.2.1 e.2.2.2.1 (S4.trans (.refl' (τ:=tell 3 p q 0 σ) rfl) (.note _ _))
 | @ZaP p q=>exact h.same (fun _=>Iff.rfl) rfl rfl (S4.trans (.refl' (τ:=tell 3 p q 0 σ) rfl) (.send (by show(2:Int) ≠ 4;decide)))
 | @Za5 a b p q ha hb hl hk=>have e:=X6 q p (hd σ (li s a b)).n (drop1 (li s a b) σ);exact(h.drop hl (by rw [hk];decide)).same (fun k=>by rw [e.1]) e.2.1 e.2.2.2.1 (.refl' e.2.2.2.2.1)
 | @Za8 a b p q ha hb hl hk=>have e:=Y8 (s:=s) p q (drop1 (li s a b) σ);exact(h.drop hl (by rw [hk];decide)).same (fun k=>by rw [e.1]) e.2.1 e.2.2.2.1 (.note _ _)
 | Za6 ha hb hl hk=>exact h.drop hl (by rw [hk];decide)
 | Zah ha hb hl hk hp hpn=>exact h.Zah hS hl hk hp hpn _
 | Za7 ha hb hl hk=>exact(h.drop hl (by rw [hk];decide)).same (fun _=>Iff.rfl) rfl rfl (.refl' rfl)
 | @ring w i=>have e:=Qp s w i σ;exact h.same (fun k=>by rw [e.2.2.1]) e.2.2.2.1 e.2.1 (.refl' e.2.2.2.2.2.1)
end
end
section
def SD (σ:TS):Prop:=0 <=σ.sd∧σ.sd <= (σ.ev.length:Int)
structure Ok (s:Zb) (B:Nat) (σ:TS):Prop where
 gd:Gd s B σ
 p1:P1 s σ
 p2:P2 s σ
 ki:KI s σ
 sd:SD σ
section
variable {s:Zb} {σ τ υ:TS} {F B a b p q w i n d:Nat} {x:Zx}
theorem SD.of (h:SD σ) (h1:τ.sd=σ.sd) (h2:σ.ev.length <=τ.ev.length):SD τ:= ⟨by rw [h1];exact h.1,by rw [h1];have:=h.2;omega⟩
theorem ZvU (p q:Nat) (n:Int) (σ:TS):σ.ev.length <= (see p q n σ).ev.length:=by
 unfold see;split
 ·show _ <= (σ.ev ++ [_]).length;rw [List.length_append];omega
 ·exact Nat.le_refl _
theorem SD.act (h:SD σ) (ac:Act s σ τ):SD τ:=by
 cases ac with
 | fall=>exact h.of rfl (by show _ <= (σ.ev ++ [_]).length;rw [List.length_append];omega)
 | UG=>exact h
 | @die p hp h2 hA=>
   have sA:=Qg (s:=s) p σ;have:SD (Z6 s p σ):=h.of sA.2.2.2.1 (by rw [sA.2.2.2.2.1,List.length_append];omega);unfold Qm;split
   ·exact this
   ·split
    ·exact this
    ·exact this
 | @ZaW p q hp hq=>
   have e:=X6 q p σ.sd (kK p q σ);have e2:=ZvU q p σ.sd (kK p q σ);have e3:(kK p q σ).ev.length=σ.ev.length + 1:=by show(σ.ev ++ [_]).length=_;simp
   refine⟨?_,?_⟩
   ·rw [e.2.2.2.2.2.2.2];show 0 <=σ.sd + 1;have:=h.1;omega
   ·rw [e.2.2.2.2.2.2.2];show σ.sd + 1 <=_;have:=h.2;omega
 | @ZaV p q=>
   have e3:(kK p q σ).ev.length=σ.ev.length + 1:=by show(σ.ev ++ [_]).length=_;simp
   exact⟨by show 0 <=σ.sd + 1;have:=h.1;omega,by show σ.sd + 1 <= ((kK p q σ).ev.length:Int);have:=h.2;omega⟩
 | @ZaQ p q=>
   have e:=Y8 (s:=s) p q (tell 3 p q 0 σ);exact h.of e.2.2.2.2.1 (by rw [e.2.2.2.2.2];show _ <= (σ.ev ++ [_]).length;rw [List.length_append];omega)
 | ZaP=>exact h.of rfl (by show _ <= (σ.ev ++ [_]).length;rw [List.length_append];omega)
 | @Za5 a b p q=>exact h.of (X6 q p (hd σ (li s a b)).n (drop1 (li s a b) σ)).2.2.2.2.2.2.2 (ZvU q p (hd σ (li s a b)).n (drop1 (li s a b) σ))
 | @Za8 a b p q=>have e:=Y8 (s:=s) p q (drop1 (li s a b) σ);exact h.of e.2.2.2.2.1 (by rw [e.2.2.2.2.2];exact Nat.le_refl _)
 | Za6=>exact h
 | Zah=>exact h
 | Za7=>exact h
 | @ring w i=>
   refine h.of (Qp s w i σ).2.2.2.2.2.2.2 ?_;unfold rung;split
   ·show _ <= (σ.ev ++ [_]).length;rw [List.length_append];omega
   ·exact Nat.le_refl _
theorem Ok.acts (hS:XO s) (h:Ok s B σ) (ha:QT s σ τ) {B':Nat} (g:Gd s B' τ):Ok s B' τ:=by
 have:=ha.keep (P:=fun σ=>P1 s σ∧P2 s σ∧KI s σ∧SD σ) (fun _ _ ⟨a,b,c,d⟩ ac=>⟨a.act hS ac,b.act hS ac,c.act hS b ac,d.act ac⟩) ⟨h.p1,h.p2,h.ki,h.sd⟩;exact⟨g,this.1,this.2.1,this.2.2.1,this.2.2.2⟩
theorem Ok.head (h:Ok s B σ) (ha:a < mm s) (hb:b < mm s) (hl:σ.ld (li s a b) < (σ.sn (li s a b)).length):ZzV s a b (hd σ (li s a b))∧ZuW s (hd σ (li s a b)) σ:=by
 have hx:=h.p1.lets a b ha hb _ (Zbb hl);refine⟨hx,fun hk=>?_⟩
 have hh:(σ.sn (li s a b))[σ.ld (li s a b)]? =some (hd σ (li s a b)):=by
  unfold hd;rw [List.getD_eq_getElem?_getD,List.getElem?_eq_getElem hl];rfl
 obtain⟨k,e1,e2,e3,e4⟩:=h.ki.k1 _ _ _ hh hk;rw [e1,Int.toNat_natCast];exact⟨e3,fun m=>absurd (e4.1 m) (Nat.lt_irrefl _)⟩
theorem Zlj (h:Gd s B σ) (p q:Nat):Gd s (B + 1) (kK p q σ):=
 ⟨(Wf.tell (σ:= {σ with sd:=σ.sd + 1}) ⟨h.wf.pot,h.wf.ld,h.wf.ws⟩ 1 p q σ.sd),⟨h.kn.srt,h.kn.rng⟩⟩
theorem Zld (h:Gd s B σ) (d p q n:Int):Gd s (B + 1) (tell d p q n σ):= ⟨h.wf.tell d p q n,⟨h.kn.srt,h.kn.rng⟩⟩
theorem ZrH (h:Gd s B σ) (ha:a < mm s) (hb:b < mm s) (x:Zd):Gd s (B + 1 + ew x) (send s a b x σ):= ⟨h.wf.send ha hb x,⟨h.kn.srt,h.kn.rng⟩⟩
theorem Zhv (hS:XO s) (h:Ok s B σ) (hx:Zbo s x σ):Gd s (B + 4) (WN s x σ)∧QT s σ (WN s x σ):=by
 unfold WN;rcases hx with⟨k,p,q,ep,eq,hp,hq,h1⟩ | ⟨k,p,q,ep,eq,hp,hq,h1⟩ | ⟨k,p,ep,hp,h1⟩ | ⟨k,a,b,ea,eb,ha,hb,hl⟩
 ·rw [if_pos k,ep,eq,Int.toNat_natCast,Int.toNat_natCast];by_cases e:pl s p=pl s q
  ·rw [if_pos e];exact⟨(ZvT (Zlj h.gd p q) q p σ.sd).up (by omega),.one (.ZaW hp hq h1 e)⟩
  ·rw [if_neg e];exact⟨(ZrH (Zlj h.gd p q) (hS.pl hp).2 (hS.pl hq).2 _).up (by show B + 1 + 1 + 1 <=B + 4;omega),.one (.ZaV hp hq h1 e)⟩
 ·rw [if_neg (by omega),if_pos k,ep,eq,Int.toNat_natCast,Int.toNat_natCast];by_cases e:pl s p=pl s q
  ·rw [if_pos e];exact⟨(Zr6 hS (Zld h.gd 3 p q 0) hp hq).up (by omega),.one (.ZaQ hp hq h1 e)⟩
  ·rw [if_neg e];exact⟨(ZrH (Zld h.gd 3 p q 0) (hS.pl hp).2 (hS.pl hq).2 _).up (by show B + 1 + 1 + 2 <=B + 4;omega),.one (.ZaP hp hq h1 e)⟩
 ·rw [if_neg (by omega),if_neg (by omega),if_pos k,ep,Int.toNat_natCast];exact⟨(Zl0 hS _ _ _ _ hp (ZbQ.all hS.inn) h.gd h1).up (by omega),ZkK hS _ _ _ hp (ZbQ.all hS.inn) h1⟩
 ·rw [if_neg (by omega),if_neg (by omega),if_neg (by omega),ea,eb,Int.toNat_natCast,Int.toNat_natCast];obtain⟨hf,hD⟩:=h.head ha hb hl;exact⟨(ZnZ hS h.gd ha hb hl hf.s hD).up (by omega),ZtM hS ha hb hl hf.s hD⟩
theorem Zue (hS:XO s) (h:Ok s B σ) (k:x.act=4) (hx:Zbo s x σ):Gd s B (WN s x σ):=by
 unfold WN;rcases hx with⟨k',_⟩ | ⟨k',_⟩ | ⟨k',_⟩ | ⟨_,a,b,ea,eb,ha,hb,hl⟩
 ·omega
 ·omega
 ·omega
 ·rw [if_neg (by omega),if_neg (by omega),if_neg (by omega),ea,eb,Int.toNat_natCast,Int.toNat_natCast];obtain⟨hf,hD⟩:=h.head ha hb hl;exact ZnZ hS h.gd ha hb hl hf.s hD
theorem P1.ZI0 (h:P1 s σ):BeA s σ:=fun w hw x hx=>(h.bea w hw x hx).1
theorem step_ok (hS:XO s) (h:Ok s B σ) (hx:Zbo s x σ):Ok s (B + 4) (stepW s x σ):=by
 obtain⟨g,ac⟩:=Zhv hS h hx;have o1:=h.acts hS ac g;exact o1.acts hS (ZdD (mm s) (Nat.le_refl _)) (Zh0 g o1.p1.ZI0 (mm s) (Nat.le_refl _)).1
theorem ZvI (hS:XO s) (h:Ok s B σ) (k:x.act=4) (hx:Zbo s x σ):Ok s B (stepW s x σ):=by
 have g:=Zue hS h k hx;have o1:=h.acts hS (Zhv hS h hx).2 g;exact o1.acts hS (ZdD (mm s) (Nat.le_refl _)) (Zh0 g o1.p1.ZI0 (mm s) (Nat.le_refl _)).1
theorem Zfm (hS:XO s) (h:Ok s B σ) (hx:Zbo s x σ):QT s σ (stepW s x σ):= (Zhv hS h hx).2.trans (ZdD (mm s) (Nat.le_refl _))
theorem ZpI (hF:1000000 <=F) (hS:XO s) (hB:B <=600000) (h:Gd s B σ) (hb:BeA s σ):Zbe F (Wv s σ)=some (hal s (rings s (mm s) σ)):=by
 have h4:=hS.mm.2.2;unfold Zbe;rw [show Wv s σ= (tab (nn s) σ.st,(tab (nn s) fun j=>tab (mm s * mm s) (σ.ma j)),tab (nn s) σ.kn,tab (nn s) σ.wa,tab (mm s) σ.be,tab (mm s * mm s) (KT σ),σ.sd,s.qG,s.Ze,σ.ev) from rfl];dsimp only;refine Y9 (fun k=>((k:Int),Wv s (rings s k σ))) rfl (n:=mm s) (by omega) (fun k hk next=>?_) (fun next=>?_)
 ·obtain⟨g1,g2⟩:=Zh0 h hb k (by omega);have hl7:((rings s k σ).be k).length <=600000:=by have:=g1.wf.pot;have:=UE (f:=fun m=>((rings s k σ).be m).length) hk;unfold Pot at *;omega
  unfold Zmd;rw [show Wv s (rings s k σ)= (tab (nn s) (rings s k σ).st,(tab (nn s) fun j=>tab (mm s * mm s) ((rings s k σ).ma j)),tab (nn s) (rings s k σ).kn,tab (nn s) (rings s k σ).wa,tab (mm s) (rings s k σ).be,tab (mm s * mm s) (KT (rings s k σ)),(rings s k σ).sd,s.qG,s.Ze,(rings s k σ).ev) from rfl];dsimp only;rw [ZfE hS hk,Cq1,ZlF];unfold ZBX;rw [show loop F (ZdN F (k:Int)) ((hal s (rings s k σ)).Za.qV,(hal s (rings s k σ)).Za.qX,(hal s (rings s k σ)).Za.qZ,(hal s (rings s k σ)).Za.Zl,(hal s (rings s k σ)).Za.Zu,(hal s (rings s k σ)).Za.kQ,(hal s (rings s k σ)).Za.kK,(hal s (rings s k σ)).qK.qG,(hal s (rings s k σ)).qK.Ze,(hal s (rings s k σ)).kU)=some (hal s (rings s (k + 1) σ)) from Ztm hF hS hB hk _ F (rings s k σ) (by omega) (Nat.le_refl _) g1 g2];simp only [Bq0];rw [Qw (by omega)];rfl
 ·unfold Zmd Wv;dsimp only;rw [Zlw hS,Cq0];rfl
theorem Zkm (hF:1000000 <=F) (hS:XO s) (hB:B <=500000) (h:Ok s B σ) (hx:Zbo s x σ):Zt6 F (hal s σ) x=some (hal s (stepW s x σ)):=by
 obtain⟨g,ac⟩:=Zhv hS h hx;have o1:=h.acts hS ac g;have fin:=ZpI (F:=F) hF hS (by omega) g o1.p1.ZI0;unfold stepW;have fw:=h.gd.wf.few (by omega);have hsd:=h.sd;have hev:=fw.ev;unfold Zt6;simp only [Xa];unfold WN at fin ⊢;rcases hx with⟨k,p,q,ep,eq,hp,hq,h1⟩ | ⟨k,p,q,ep,eq,hp,hq,h1⟩ | ⟨k,p,ep,hp,h1⟩ | ⟨k,a,b,ea,eb,ha,hb,hl⟩
 ·rw [if_pos k,ep,eq,Int.toNat_natCast,Int.toNat_natCast] at fin ⊢;have es:YA (σ.sd + 1)=σ.sd + 1:=Zab (by have:=hsd.1;omega) (by have:=hsd.2;omega);rw [decide_eq_true k,Cq1,show(hal s σ).Za.kK=σ.sd from rfl,Kk fw];simp only [Bq0]
  have e5:ZC.mk (Zi.mk (hal s (tell 1 p q σ.sd σ)).Za.qV (hal s (tell 1 p q σ.sd σ)).Za.qX (hal s (tell 1 p q σ.sd σ)).Za.qZ (hal s (tell 1 p q σ.sd σ)).Za.Zl (hal s (tell 1 p q σ.sd σ)).Za.Zu (hal s (tell 1 p q σ.sd σ)).Za.kQ (YA ((hal s (tell 1 p q σ.sd σ)).Za.kK + 1))) (hal s (tell 1 p q σ.sd σ)).qK (hal s (tell 1 p q σ.sd σ)).kU=hal s (kK p q σ):=by
   rw [show(hal s (tell 1 p q σ.sd σ)).Za.kK=σ.sd from rfl,es];rfl
  have gs:=Zlj h.gd p q;rw [e5,UR hS hp,UR hS hq];simp only [Bq0];rw [show decide (((pl s p:Nat):Int)= ((pl s q:Nat):Int))=decide (pl s p=pl s q) by rw [← Xa];exact ZeO _ _];by_cases e:pl s p=pl s q
  ·rw [if_pos e] at fin ⊢;rw [decide_eq_true e,Cq1,Znu (gs.wf.few (by omega)) rfl hq];exact fin
  ·rw [if_neg e] at fin ⊢;rw [decide_eq_false e,Cq0,Zas hS (gs.wf.few (by omega)) (hS.pl hp).2 (hS.pl hq).2];exact fin
 ·rw [if_neg (by omega),if_pos k,ep,eq,Int.toNat_natCast,Int.toNat_natCast] at fin ⊢;rw [decide_eq_false (by omega),Cq0,decide_eq_true k,Cq1,Kk fw];simp only [Bq0];have gs:=Zld h.gd 3 p q 0;rw [UR hS hp,UR hS hq];simp only [Bq0];rw [show decide (((pl s p:Nat):Int)= ((pl s q:Nat):Int))=decide (pl s p=pl s q) by rw [← Xa];exact ZeO _ _];by_cases e:pl s p=pl s q
  ·rw [if_pos e] at fin ⊢;rw [decide_eq_true e,Cq1,ZkC hS (gs.wf.few (by omega)) rfl rfl hp hq];exact fin
  ·rw [if_neg e] at fin ⊢;rw [decide_eq_false e,Cq0,Zas hS (gs.wf.few (by omega)) (hS.pl hp).2 (hS.pl hq).2];exact fin
 ·rw [if_neg (by omega),if_neg (by omega),if_pos k,ep,Int.toNat_natCast] at fin ⊢;rw [decide_eq_false (by omega),Cq0,decide_eq_false (by omega),Cq0,decide_eq_true k,Cq1];unfold ZyL;have h8:nn s <=8:=hS.p2;rw [ZkJ hF hS (nn s) _ _ F _ (by omega) hp (ZbQ.all hS.inn) h.gd (by omega) h1];exact fin
 ·rw [if_neg (by omega),if_neg (by omega),if_neg (by omega),ea,eb,Int.toNat_natCast,Int.toNat_natCast] at fin ⊢;obtain⟨hf,hD⟩:=h.head ha hb hl;rw [decide_eq_false (by omega),Cq0,decide_eq_false (by omega),Cq0,decide_eq_false (by omega),Cq0,decide_eq_true k,Cq1,ZtL hF hS h.gd (by omega) ha hb hl hf.s hD];exact fin
end
end
section
section
variable {s:Zb} {σ τ υ:TS} {F B a b p q w i n d:Nat} {x:Zx}
theorem Zlp {z:Int} (h:¬ ∃ k:Nat,z= (k:Int)∧k < nn s):(decide (z >=0) && decide (z < (s.Ze.length:Int)))=false:=Bool.eq_false_iff.2 fun e=>h ((ZcR s z).1 e)
theorem ZQ2 (h:σ.ld i <= (σ.sn i).length):decide (((KT σ i).kG.length:Int) > 0)=decide (σ.ld i < (σ.sn i).length):=by
 have e:(KT σ i).kG.length= (σ.sn i).length - σ.ld i:=by show((σ.sn i).drop (σ.ld i)).length=_;rw [List.length_drop]
 rw [e];congr 1;rw [eq_iff_iff];omega
theorem Zer (hS:XO s) {z:Int}:(0 <=z∧z < s.qG)↔∃ k:Nat,z= (k:Int)∧k < mm s:=by
 rw [hS.mm.1]
 constructor
 ·rintro⟨h1,h2⟩;exact⟨z.toNat,by omega,by omega⟩
 ·rintro⟨k,rfl,h⟩;omega
theorem ZmY (hS:XO s) (h:Ok s B σ):ZyO (hal s σ) x=ifc (Zbo s x σ) (some true) (some false):=by
 unfold ZyO ZiY;rw [show(hal s σ).qK=s from rfl];simp only [Bq0]
 obtain⟨L,v,eL,hL⟩:∃ (L:Bool) (v:Int),((gd (decide (x.a >=0) && decide (x.a < (s.Ze.length:Int))) (ZM (hal s σ).Za.qV x.a) default)=some v∧(((decide (x.a >=0) && decide (x.a < (s.Ze.length:Int))) && (v==1))=L))∧(L=true↔∃ p:Nat,x.a= (p:Int)∧p < nn s∧σ.st p=1):=by
  by_cases hp:∃ p:Nat,x.a= (p:Int)∧p < nn s
  ·obtain⟨p,ep,hp⟩:=hp;refine⟨decide (σ.st p=1),σ.st p,⟨?_,?_⟩,?_⟩
   ·rw [ep,Zhc hp,QO];exact Yu hp
   ·rw [ep,Zhc hp,Bool.true_and,Xa]
   ·rw [decide_eq_true_eq]
    constructor
    ·exact fun z=>⟨p,ep,hp,z⟩
    ·rintro⟨p',e,_,z⟩;have:p'=p:=by omega
     subst this;exact z
  ·refine⟨false,default,⟨by rw [Zlp hp];rfl,by rw [Zlp hp];rfl⟩,?_⟩
   constructor
   ·intro z;cases z
   ·rintro⟨p,e,h1,_⟩;exact absurd ⟨p,e,h1⟩ hp
 rw [eL.1];simp only [Bq0]
 have j:∀ v13:Bool,(v13=true↔x.act=1∨x.act=2) ->ZfX (hal s σ) x (decide (x.a >=0) && decide (x.a < (s.Ze.length:Int))) v v13=ifc (Zbo s x σ) (some true) (some false):=fun v13 hv=>by
  unfold ZfX;rw [eL.2];by_cases k12:x.act=1∨x.act=2
  ·rw [hv.2 k12,Cq1];unfold ZiY;rw [show(hal s σ).qK=s from rfl];cases hLb:L with
   | false=>
     rw [UL];simp only [Bq0,Bool.false_and];have:¬ ∃ p:Nat,x.a= (p:Int)∧p < nn s∧σ.st p=1:=fun z=>by have:=hL.2 z;rw [hLb] at this;cases this
     rw [ZE];rintro(⟨_,p,q,e1,_,h1,_,z⟩ | ⟨_,p,q,e1,_,h1,_,z⟩ | ⟨_,p,e1,h1,z⟩ | ⟨k',_⟩)
     ·exact this ⟨p,e1,h1,z⟩
     ·exact this ⟨p,e1,h1,z⟩
     ·exact this ⟨p,e1,h1,z⟩
     ·omega
   | true=>
     rw [QO];simp only [Bq0,Bool.true_and];obtain⟨p,ep,hp,h1⟩:=hL.1 hLb;by_cases hq:∃ q:Nat,x.b= (q:Int)∧q < nn s
     ·obtain⟨q,eq,hq⟩:=hq;rw [eq,Zhc hq,ZF];rcases k12 with k | k
      ·exact .inl ⟨k,p,q,ep,eq,hp,hq,h1⟩
      ·exact .inr (.inl ⟨k,p,q,ep,eq,hp,hq,h1⟩)
     ·rw [Zlp hq,ZE];rintro(⟨_,p',q,_,e1,_,z,_⟩ | ⟨_,p',q,_,e1,_,z,_⟩ | ⟨k',_⟩ | ⟨k',_⟩)
      ·exact hq ⟨q,e1,z⟩
      ·exact hq ⟨q,e1,z⟩
      ·omega
      ·omega
  ·have:v13=false:=Bool.eq_false_iff.2 fun z=>k12 (hv.1 z)
   rw [this,Cq0,Xa,Xa];by_cases k3:x.act=3
   ·rw [decide_eq_true k3,Cq1];cases hLb:L with
    | false=>
      have:¬ ∃ p:Nat,x.a= (p:Int)∧p < nn s∧σ.st p=1:=fun z=>by have:=hL.2 z;rw [hLb] at this;cases this
      rw [ZE];rintro(⟨k',_⟩ | ⟨k',_⟩ | ⟨_,p,e1,h1,z⟩ | ⟨k',_⟩)
      ·omega
      ·omega
      ·exact this ⟨p,e1,h1,z⟩
      ·omega
    | true=>
      obtain⟨p,ep,hp,h1⟩:=hL.1 hLb;rw [ZF (.inr (.inr (.inl ⟨k3,p,ep,hp,h1⟩)))]
   ·rw [decide_eq_false k3,Cq0];by_cases k4:x.act=4
    ·rw [decide_eq_true k4,Cq1,show(hal s σ).qK.qG=s.qG from rfl];by_cases hr:((0 <=x.a∧x.a < s.qG)∧(0 <=x.b∧x.b < s.qG))∧x.a ≠ x.b
     ·have:((decide ((if x.b < x.a then x.b else x.a) >=0)) && (decide ((if x.b > x.a then x.b else x.a) < s.qG)) && (x.a !=x.b))=true:=by
       rw [Zbi,decide_eq_true hr.2,decide_eq_true (by split <;> omega),decide_eq_true (by split <;> omega)];rfl
      rw [this,Cq1];obtain⟨a,ea,ha⟩:= (Zer hS).1 hr.1.1;obtain⟨b,eb,hb⟩:= (Zer hS).1 hr.1.2;have hi:=Ua ha hb;rw [ea,eb,Zce hS ha hb,show(hal s σ).Za.kQ=tab (mm s * mm s) (KT σ) from rfl,Yu hi];simp only [Bq0];rw [ZQ2 (h.p2.ld _)];by_cases hl:σ.ld (li s a b) < (σ.sn (li s a b)).length
      ·rw [decide_eq_true hl,ZF (.inr (.inr (.inr ⟨k4,a,b,ea,eb,ha,hb,hl⟩)))]
      ·rw [decide_eq_false hl,ZE];rintro(⟨k',_⟩ | ⟨k',_⟩ | ⟨k',_⟩ | ⟨_,a',b',e1,e2,_,_,h'⟩)
       ·omega
       ·omega
       ·omega
       ·have:a'=a:=by omega
        have:b'=b:=by omega
        subst a' b';exact hl h'
     ·have:((decide ((if x.b < x.a then x.b else x.a) >=0)) && (decide ((if x.b > x.a then x.b else x.a) < s.qG)) && (x.a !=x.b))=false:=by
       rw [Bool.eq_false_iff];intro z;rw [Ba0,Ba0,decide_eq_true_eq,decide_eq_true_eq,Zbi,decide_eq_true_eq] at z;obtain⟨⟨z1,z2⟩,z3⟩:=z;split at z1 <;> split at z2 <;> (apply hr;omega)
      rw [this,Cq0,ZE];rintro(⟨k',_⟩ | ⟨k',_⟩ | ⟨k',_⟩ | ⟨_,a',b',e1,e2,h1,h2,h'⟩)
      ·omega
      ·omega
      ·omega
      ·refine hr ⟨⟨(Zer hS).2 ⟨a',e1,h1⟩,(Zer hS).2 ⟨b',e2,h2⟩⟩,fun z=>?_⟩;have:a'=b':=by omega
       subst this;rw [h.p1.self a' h1] at h';simp at h'
    ·rw [decide_eq_false k4,Cq0,ZE];rintro(⟨k',_⟩ | ⟨k',_⟩ | ⟨k',_⟩ | ⟨k',_⟩)
     ·omega
     ·omega
     ·omega
     ·omega
 rw [Xa];by_cases k1:x.act=1
 ·rw [decide_eq_true k1,Cq1];exact j true ⟨fun _=>.inl k1,fun _=>rfl⟩
 ·rw [decide_eq_false k1,Cq0,Xa];exact j _ ⟨fun z=>.inr (of_decide_eq_true z),fun z=>decide_eq_true (z.resolve_left k1)⟩
end
end
section
def ts0:TS:= ⟨fun _=>1,fun _ _=>0,fun _=>[],fun _=>[],fun _=>[],fun _=>[],fun _=>0,0,[]⟩
noncomputable def Xf (s:Zb) (l:List Zx):Nat ->TS×List Int
 | 0=>(ts0,[])
 | k + 1=>ifc (Zbo s (l.getD k default) (Xf s l k).1) (stepW s (l.getD k default) (Xf s l k).1,(Xf s l k).2 ++ [(k:Int)]) (Xf s l k)
section
variable {s:Zb} {σ τ υ:TS} {F B a b p q w i n d k:Nat} {l:List Zx}
theorem ZDw (hS:XO s):YA (s.qG * s.qG)= ((mm s * mm s:Nat):Int):=by
 obtain⟨e,h1,h4⟩:=hS.mm;have h16:=Zir hS;rw [e,← Int.natCast_mul];exact Zab (by omega) (by omega)
theorem Zp6 {α:Type} (z:α) {Je n:Nat} (h:Je * n <=100000):mkL z Je (n:Int) (n:Int)=some (tab n fun _=>z):=by
 unfold mkL;rw [decide_eq_true (show(0:Int) <= (n:Int) by omega),decide_eq_true (show(n:Int) <= (n:Int) by omega),Int.toNat_natCast,Nm0 h,ZAD];rfl
theorem Zq8 (hF:1000 <=F) (hS:XO s):ZyR F s=some (hal s ts0):=by
 have h8:nn s <=8:=hS.p2;obtain⟨em,h1,h4⟩:=hS.mm;have h16:=Zir hS;unfold ZyR;refine Y9 (fun k=>((k:Int),tab k (fun _=>(1:Int)),tab k (fun _=>tab (mm s * mm s) fun _=>(0:Int)),tab k (fun _=>([]:List Int)),tab k (fun _=>([]:List Int)))) rfl (n:=nn s) (by omega) (fun k hk next=>?_) (fun next=>?_)
 ·unfold Zmf;dsimp only;rw [show((s.Ze.length:Nat):Int)= ((nn s:Nat):Int) from rfl,YN hk,Cq1,app1 (by rw [Qo];omega) (by decide)];simp only [Bq0];rw [ZDw hS,Zp6 _ (by omega)];simp only [Bq0];rw [app1 (by rw [Qo];omega) (by decide)];simp only [Bq0];rw [app1 (by rw [Qo];omega) (by decide)];simp only [Bq0];rw [Qw (by omega),ZhI,ZhI,ZhI]
 ·unfold Zmf;dsimp only;rw [show((s.Ze.length:Nat):Int)= ((nn s:Nat):Int) from rfl,Y1,Cq0,ZDw hS];have e1:mkL ([]:List Zd) 24 s.qG s.qG=some (tab (mm s) fun _=>[]):=by rw [em];exact Zp6 _ (by omega)
  rw [e1];simp only [Bq0];rw [Zp6 _ (by omega)];rfl
theorem Zfk {n:Nat} {f:Nat ->Nat} (h:∀ k,k < n ->f k=0):Qh n f=0:=by rw [ZaT (g:=fun _=>0) h,ZhJ];simp
theorem ZQV (s:Zb):Pot s ts0=11 * nn s:=by
 have e1:Qh (mm s * mm s) (lw ts0)=0:=Zfk fun k _=>rfl
 have e2:Qh (mm s) (fun m=>(ts0.be m).length)=0:=Zfk fun k _=>rfl
 have e3:Qh (nn s) (fun q=>2 * (ts0.wa q).length)=0:=Zfk fun k _=>rfl
 have e4:Qh (nn s) (fun p=>sw (ts0.st p))=nn s * 11:= (ZaT (g:=fun _=>11) fun k _=>rfl).trans (ZhJ _ _);unfold Pot;rw [e1,e2,e3,e4];show 0 + 0 + 0 + 0 + nn s * 11=_;omega
theorem ok0 (hS:XO s):Ok s 88 ts0:=by
 have h8:nn s <=8:=hS.p2;have nil:∀ {α:Type} (x:α),¬ x ∈ ([]:List α):=fun x h=>by cases h
 have no3:∀ p,¬ ts0.st p=3:=fun p h=>absurd h (by show ¬ ((1:Int)=3);decide)
 have kn:Kn s ts0:= ⟨fun q _=>List.Pairwise.nil,fun q _ x hx=>absurd hx (nil x)⟩
 have k1:KI s ts0:= ⟨fun i j x hx _=>by simp [ts0] at hx,fun i i' j j' x x' hx _ _ _ _=>by simp [ts0] at hx,fun p _ h=>absurd h (no3 p),fun p _ h=>absurd h (no3 p)⟩
 have w:Wf s 88 ts0:= ⟨by rw [ZQV];omega,fun i _=>Nat.le_refl _,fun q _ x hx=>absurd hx (nil x)⟩
 exact⟨⟨w,kn⟩,⟨fun a b _ _ x hx=>absurd hx (nil x),fun a _=>rfl,fun w _ x hx=>absurd hx (nil x),fun q _ x hx=>absurd hx (nil x)⟩,⟨fun i=>Nat.le_refl _,kn⟩,k1,⟨Int.le_refl _,Int.le_refl _⟩⟩
theorem ZcP (hS:XO s):∀ k,Ok s (88 + 4 * k) (Xf s l k).1∧(Xf s l k).2.length <=k∧QT s ts0 (Xf s l k).1:=by
 intro k
 induction k with
 | zero=>exact⟨ok0 hS,Nat.le_refl _,.refl⟩
 | succ k ih=>
   obtain⟨h1,h2,h3⟩:=ih;rw [Xf];by_cases hA:Zbo s (l.getD k default) (Xf s l k).1
   ·rw [ZF hA];refine⟨?_,by rw [List.length_append,List.length_singleton];omega,h3.trans (Zfm hS h1 hA)⟩;have:=step_ok hS h1 hA;exact⟨this.gd.up (by omega),this.p1,this.p2,this.ki,this.sd⟩
   ·rw [ZE hA];exact⟨⟨h1.gd.up (by omega),h1.p1,h1.p2,h1.ki,h1.sd⟩,by omega,h3⟩
theorem Ztv (hF:1000000 <=F) (hS:XO s) (hl:l.length <=100):ZyQ F (hal s ts0) l=some (hal s (Xf s l l.length).1,(Xf s l l.length).2):=by
 unfold ZyQ;refine Y9 (fun k=>((Xf s l k).2,(k:Int),Wv s (Xf s l k).1)) rfl (n:=l.length) (by omega) (fun k hk next=>?_) (fun next=>?_)
 ·obtain⟨h1,h2,_⟩:=ZcP (l:=l) hS k;rw [Xf];obtain⟨σ,hσ⟩:∃ σ,σ= (Xf s l k).1:= ⟨_,rfl⟩
  obtain⟨dn,hd⟩:∃ dn,dn= (Xf s l k).2:= ⟨_,rfl⟩
  rw [← hd] at h2;rw [← hσ] at h1 ⊢;unfold Zme;rw [show Wv s σ= (tab (nn s) σ.st,(tab (nn s) fun j=>tab (mm s * mm s) (σ.ma j)),tab (nn s) σ.kn,tab (nn s) σ.wa,tab (mm s) σ.be,tab (mm s * mm s) (KT σ),σ.sd,s.qG,s.Ze,σ.ev) from rfl];dsimp only;rw [YN hk,Cq1,Qr default hk];simp only [Bq0];rw [ZlF,ZmY hS h1];by_cases hA:Zbo s (l.getD k default) σ
  ·rw [ZF hA,ZF hA];simp only [Bq0,Cq1];rw [Zkm hF hS (by omega) h1 hA];simp only [Bq0];rw [← hd,Zuw (by rw [List.length_singleton];omega)];simp only [Bq0];unfold ZfY;dsimp only;rw [Qw (by omega)];rfl
  ·rw [ZE hA,ZE hA];simp only [Bq0,Cq0];unfold ZfY;dsimp only;rw [Qw (by omega),← hσ];rfl
 ·unfold Zme Wv;dsimp only;rw [Y1,Cq0];rfl
end
end
section
section
variable {s:Zb} {σ τ υ:TS} {F B a b p q w i n d k:Nat}
end
end
section
def opn (s:Zb) (σ:TS) (k:Nat):List Nat:= (List.range k).filter fun i=>decide (σ.ld i < (σ.sn i).length)
def opens (s:Zb) (σ:TS):List Nat:=opn s σ (mm s * mm s)
def Zil (ls:List Nat) (picks:List Int) (r:Nat):Nat:=if r < picks.length then ls.getD ((picks.getD r 0).toNat % ls.length) 0 else ls.getD 0 0
def Zev (s:Zb) (i:Nat):Zx:= ⟨4,((i / mm s:Nat):Int),((i % mm s:Nat):Int)⟩
noncomputable def drK (s:Zb) (picks:List Int) (σ:TS):Nat ->TS
 | 0=>σ
 | r + 1=>if opens s (drK s picks σ r)= [] then drK s picks σ r else stepW s (Zev s (Zil (opens s (drK s picks σ r)) picks r)) (drK s picks σ r)
section
variable {s:Zb} {σ τ υ:TS} {F B a b p q w i n d k r:Nat} {l:List Zx} {picks:List Int}
theorem ZsV:∀ (d p:Nat) (σ:TS),(Zgb s d p σ).ld=σ.ld:=by
 intro d
 induction d with
 | zero=>intro p σ;rfl
 | succ d ih=>
   intro p σ;have e:= (Qg (s:=s) p σ).2.2.1;show(Zje s (Zgb s d) p (Z6 s p σ)).ld=_;unfold Zje;split
   ·exact e
   ·split
    ·unfold WA;by_cases c:(Yy s p (J9 s (Z6 s p σ) p) (Z6 s p σ)).st (inn s (p:Int)).toNat=2∧Alo s (Yy s p (J9 s (Z6 s p σ) p) (Z6 s p σ)) (inn s (p:Int)).toNat
     ·rw [ZF c,ih];exact e
     ·rw [ZE c];exact e
    ·exact e
theorem ZyD:∀ (d p:Nat) (σ:TS),(Q8 s d p σ).ld=σ.ld:=by
 intro d
 induction d with
 | zero=>intro p σ;rfl
 | succ d ih=>
   intro p σ
   have h:(fk s (Q8 s d) p (nn s) (Jw p σ)).ld=σ.ld:=by
    refine UM _ (fun τ=>τ.ld=σ.ld) _ _ rfl fun τ x _ h=>?_
    unfold ZeB;split
    ·split
     ·rw [ih];exact h
     ·exact h
    ·split
     ·exact h
     ·exact h
   show(ZiP s p _).ld=_;unfold ZiP;by_cases c:(fk s (Q8 s d) p (nn s) (Jw p σ)).st p=2∧Alo s (fk s (Q8 s d) p (nn s) (Jw p σ)) p
   ·rw [ZF c,ZsV];exact h
   ·rw [ZE c];exact h
theorem Zxe:(Zch s a b σ).ld=ZY σ.ld (li s a b) (σ.ld (li s a b) + 1):=by
 unfold Zch Zeu;split
 ·rw [(X6 _ _ _ _).2.2.2.1];rfl
 ·split
  ·rw [(Y8 _ _ _).2.2.2.1];rfl
  ·split
   ·split
    ·rw [ZyD];rfl
    ·rfl
   ·split
    ·unfold Zcf WA;by_cases c:(Yy s (hd σ (li s a b)).kV.toNat (hd σ (li s a b)).qX (drop1 (li s a b) σ)).st (inn s ((hd σ (li s a b)).kV.toNat:Int)).toNat=2∧Alo s (Yy s (hd σ (li s a b)).kV.toNat (hd σ (li s a b)).qX (drop1 (li s a b) σ)) (inn s ((hd σ (li s a b)).kV.toNat:Int)).toNat
     ·rw [ZF c,ZsV];rfl
     ·rw [ZE c];rfl
    ·rfl
theorem ZnA (w:Nat):∀ (n:Nat) (σ:TS),(UH s w n σ).ld=σ.ld:=by
 intro n
 induction n with
 | zero=>intro σ;rfl
 | succ n ih=>
   intro σ;rw [UH];split
   ·rfl
   ·rw [ih,(Qp _ _ _ _).2.1]
theorem Zv1:∀ k,(rings s k σ).ld=σ.ld:=by
 intro k
 induction k with
 | zero=>rfl
 | succ k ih=>rw [rings,ZnA,ih]
theorem ZwP:opn s σ (k + 1)=opn s σ k ++ (if σ.ld k < (σ.sn k).length then [k] else []):=by
 unfold opn;rw [List.range_succ,List.filter_append];congr 1;by_cases h:σ.ld k < (σ.sn k).length
 ·rw [if_pos h];simp [h]
 ·rw [if_neg h];simp [h]
theorem ZAU:(opn s σ k).length <=k:=by
 have:=List.length_filter_le (fun i=>decide (σ.ld i < (σ.sn i).length)) (List.range k);rw [List.length_range] at this;exact this
theorem ZcT:i ∈ opens s σ↔i < mm s * mm s∧σ.ld i < (σ.sn i).length:=by unfold opens opn;simp
theorem Zfw {ls:List Nat} (h:ls ≠ []):Zil ls picks r ∈ ls:=by
 have hl:0 < ls.length:=List.length_pos_iff.2 h;unfold Zil;split
 ·exact Xe (Nat.mod_lt _ hl)
 ·exact Xe hl
theorem Ziz (hS:XO s) (h:i ∈ opens s σ):Zbo s (Zev s i) σ:=by
 obtain⟨h1,h2⟩:=ZcT.1 h;have hm:=hS.mm.2.1;obtain⟨_,h1',_⟩:=hS.mm;refine .inr (.inr (.inr ⟨rfl,i / mm s,i % mm s,rfl,rfl,Nat.div_lt_of_lt_mul h1,Nat.mod_lt _ (by omega),?_⟩));have:li s (i / mm s) (i % mm s)=i:=by unfold li;rw [Nat.mul_comm];exact Nat.div_add_mod _ _
 rw [this];exact h2
theorem Zxg (hS:XO s):(stepW s (Zev s i) σ).ld=ZY σ.ld i (σ.ld i + 1):=by
 have:li s (i / mm s) (i % mm s)=i:=by unfold li;rw [Nat.mul_comm];exact Nat.div_add_mod _ _
 unfold stepW;rw [Zv1];unfold WN Zev;rw [if_neg (show ¬ ((4:Int)=1) by decide),if_neg (show ¬ ((4:Int)=2) by decide),if_neg (show ¬ ((4:Int)=3) by decide),Int.toNat_natCast,Int.toNat_natCast,Zxe,this]
def lds (s:Zb) (σ:TS):Nat:=Qh (mm s * mm s) σ.ld
theorem Zjd (hS:XO s) (h:Ok s B σ):∀ r,Ok s B (drK s picks σ r)∧QT s σ (drK s picks σ r):=by
 intro r
 induction r with
 | zero=>exact⟨h,.refl⟩
 | succ r ih=>
   rw [drK];by_cases e:opens s (drK s picks σ r)= []
   ·rw [if_pos e];exact ih
   ·rw [if_neg e];have hA:=Ziz (σ:=drK s picks σ r) hS (Zfw (picks:=picks) (r:=r) e);exact⟨ZvI hS ih.1 rfl hA,ih.2.trans (Zfm hS ih.1 hA)⟩
theorem ZGM (h:Ok s B σ):lds s σ <=B:=by
 have h1:lds s σ <=Qh (mm s * mm s) (lw σ):=ZAE fun k hk=>Nat.le_trans (h.gd.wf.ld k hk) (by unfold lw;omega)
 have:=h.gd.wf.pot;unfold Pot at this;omega
theorem ZsU (hS:XO s):∀ r,(∀ j,j < r ->opens s (drK s picks σ j) ≠ []) ->lds s (drK s picks σ r)=lds s σ + r:=by
 intro r
 induction r with
 | zero=>intro _;rfl
 | succ r ih=>
   intro hj;have e:=ih fun j hjr=>hj j (by omega)
   have hn:=hj r (by omega);rw [drK,if_neg hn];obtain⟨h1,_⟩:=ZcT.1 (Zfw (picks:=picks) (r:=r) hn);unfold lds at *;rw [Zxg hS];have:=Zno (f:= (drK s picks σ r).ld) (v:= (drK s picks σ r).ld (Zil (opens s (drK s picks σ r)) picks r) + 1) h1;omega
theorem ZIy (hS:XO s) (h:Ok s B σ) (picks:List Int):∃ n,n <=B∧opens s (drK s picks σ n)= []∧∀ j,j < n ->opens s (drK s picks σ j) ≠ []:=by
 by_cases hz:∃ n,n < B + 1∧opens s (drK s picks σ n)= []
 ·obtain⟨n,hn,e⟩:=hz;obtain⟨m,hm,c,hlt⟩:=KJ (c:=fun i=>opens s (drK s picks σ i)= []) e;exact⟨m,by omega,c,hlt⟩
 ·have hall:∀ j,j < B + 1 ->opens s (drK s picks σ j) ≠ []:=fun j hj q=>hz ⟨j,hj,q⟩
  have:=ZsU (picks:=picks) (σ:=σ) hS (B + 1) hall;have:=ZGM (Zjd (picks:=picks) hS h (B + 1)).1;omega
theorem ZAO {a b:Nat} (hb:0 < b) (ha:a <=1000000):Ztq (a:Int) (b:Int)=some ((a / b:Nat):Int):=by
 unfold Ztq;rw [beq_eq_false_iff_ne.2 (by omega),Cq0,← Int.ofNat_tdiv];have:=Nat.div_le_self a b;generalize a / b=q at *;exact congrArg some (Zab (by omega) (by omega))
theorem ZrO {a b:Nat} (hb:0 < b):ZnB (a:Int) (b:Int)=some ((a % b:Nat):Int):=by
 unfold ZnB;rw [beq_eq_false_iff_ne.2 (by omega),Cq0];rfl
theorem ZiJ {l:List Nat} (h:k < l.length):ZM (l.map Int.ofNat) (k:Int)=some ((l.getD k 0:Nat):Int):=by
 rw [Qr 0 (by rw [List.length_map];exact h)];simp [List.getD_eq_getElem?_getD,h]
theorem ZwQ (hk:k < mm s * mm s) {β:Type} (next:List Int×Int ->Option β) {l1:List Int×Int ->Option β} (h16:mm s * mm s <=16) (hs:(σ.sn k).length <=800000)
 (e1:∀ v,l1 v=next v):
 ((ZM (tab (mm s * mm s) (KT σ)) (k:Int)).bind fun x=>(bif decide ((x.kG.length:Int) > 0) then(app 8 ((opn s σ k).map Int.ofNat) [(k:Int)]).bind fun z=>l1 (z,YA ((k:Int) + 1)) else l1 ((opn s σ k).map Int.ofNat,YA ((k:Int) + 1))))=next ((opn s σ (k + 1)).map Int.ofNat,((k + 1:Nat):Int)):=by
 have hl:=ZAU (s:=s) (σ:=σ) (k:=k);rw [Yu hk];simp only [Bq0];rw [show(KT σ k).kG= (σ.sn k).drop (σ.ld k) from rfl,List.length_drop,ZwP];by_cases c:σ.ld k < (σ.sn k).length
 ·rw [decide_eq_true (by omega),Cq1,Zuw (by rw [List.length_map,List.length_singleton];omega),if_pos c];simp only [Bq0];rw [e1,Qw (by omega),List.map_append];rfl
 ·rw [decide_eq_false (by omega),Cq0,if_neg c,e1,Qw (by omega),List.append_nil]
theorem ZhT (hF:1000000 <=F) (hS:XO s) (h:Ok s B σ) (hB:B <=500000) (hr:r <=500000) (hp:∀ x ∈ picks,0 <=x) (hpl:picks.length <=100) (next:_ ->Option (Zi×(List Zf)×Int×Int)):
 Zf3 F s picks ((r:Int),Wv s σ) next=if opens s σ= [] then some (vw s σ,σ.ev,(r:Int),0) else next (((r + 1:Nat):Int),Wv s (stepW s (Zev s (Zil (opens s σ) picks r)) σ)):=by
 have h16:=Zir hS;obtain⟨em,h1,h4⟩:=hS.mm;have fw:=h.gd.wf.few (by omega);unfold Zf3 Wv;dsimp only;refine Y9 (fun k=>((opn s σ k).map Int.ofNat,(k:Int))) rfl (n:=mm s * mm s) (by omega) (fun k hk nx=>?_) (fun nx=>?_)
 ·unfold Zmo;dsimp only;rw [Qo,YN hk,Cq1];exact ZwQ hk nx h16 (fw.sn k hk) (l1:=fun v=>nx v) fun v=>rfl
 ·unfold Zmo;dsimp only;rw [Qo,Y1,Cq0,List.length_map];show(bif((((opens s σ).length:Nat):Int)==0) then _ else(ZM ((opens s σ).map Int.ofNat) 0).bind _)=_;by_cases e:opens s σ= []
  ·rw [if_pos e,e];rfl
  ·have hl:0 < (opens s σ).length:=List.length_pos_iff.2 e;rw [if_neg e,beq_eq_false_iff_ne.2 (by omega),Cq0,show(0:Int)= ((0:Nat):Int) from rfl,ZiJ hl];simp only [Bq0];have hm:=Zfw (picks:=picks) (r:=r) e
   have go:∀ v:Nat,v ∈ opens s σ ->Zf2 F s (r:Int) (tab (nn s) σ.st) (tab (nn s) fun j=>tab (mm s * mm s) (σ.ma j)) (tab (nn s) σ.kn) (tab (nn s) σ.wa) (tab (mm s) σ.be) (tab (mm s * mm s) (KT σ)) σ.sd s.qG s.Ze σ.ev next (v:Int)=next (((r + 1:Nat):Int),Wv s (stepW s (Zev s v) σ)):=fun v hv=>by
    have hv1:= (ZcT.1 hv).1;unfold Zf2;rw [em,ZAO (by omega) (by omega),ZrO (by omega)];simp only [Bq0];rw [← em,ZlF,show Zx.mk 4 ((v / mm s:Nat):Int) ((v % mm s:Nat):Int)=Zev s v from rfl,Zkm hF hS hB h (Ziz hS hv)];simp only [Bq0];rw [Qw (by omega)];rfl
   by_cases c:r < picks.length
   ·rw [YN c,Cq1,Qr 0 c];simp only [Bq0];have h0:=hp _ (Xe (d:=0) c);obtain⟨y,hy⟩:∃ y:Nat,picks.getD r 0= (y:Int):= ⟨(picks.getD r 0).toNat,by omega⟩
    show(ZnB (picks.getD r 0) (((opens s σ).length:Nat):Int)).bind _=_;unfold Zil at hm ⊢;rw [if_pos c] at hm ⊢;rw [hy] at hm ⊢;rw [Int.toNat_natCast] at hm ⊢;rw [ZrO hl];simp only [Bq0];show(ZM ((opens s σ).map Int.ofNat) _).bind _=_;rw [ZiJ (Nat.mod_lt _ hl)];simp only [Bq0];exact go _ hm
   ·rw [show decide ((r:Int) < (picks.length:Int))=false from decide_eq_false (by omega),Cq0];unfold Zil at hm ⊢;rw [if_neg c] at hm ⊢;exact go _ hm
end
end
section
section
variable {s:Zb} {σ τ υ:TS} {F B a b p q w i n d k r:Nat} {l:List Zx} {picks:List Int}
theorem ZQq {k:Nat} (h:k < 9223372036854775807):YA ((k:Int) + 1)= ((k + 1:Nat):Int):=Zab (by omega) (by omega)
theorem Zty (hF:picks.length < F) (hl:picks.length <=9223372036854775807):ZqN F picks=ifc (∀ k,k < picks.length ->0 <=picks.getD k 0) (some (decide ((picks.length:Int) <=100))) (some false):=by
 unfold ZqN;refine Za4 (fun k=>(k:Int)) rfl (fun k=>0 <=picks.getD k 0) (n:=picks.length) (by omega) (fun k hk next=>?_) (fun next=>?_)
 ·unfold Zml;rw [YN hk,Cq1,Qr 0 hk];simp only [Bq0];by_cases c:0 <=picks.getD k 0
  ·rw [ZF c,decide_eq_false (by omega),Cq0,ZQq (by omega)]
  ·rw [ZE c,decide_eq_true (by omega),Cq1]
 ·unfold Zml;rw [Y1,Cq0]
theorem Zo8:(∀ k,k < picks.length ->0 <=picks.getD k 0)↔∀ x ∈ picks,0 <=x:=by
 constructor
 ·intro h x hx;obtain⟨k,hk,e⟩:=List.getElem_of_mem hx;have:=h k hk;rw [List.getD_eq_getElem?_getD,List.getElem?_eq_getElem hk] at this;rw [← e];exact this
 ·intro h k hk;exact h _ (Xe hk)
noncomputable def U8 (s:Zb) (l:List Zx) (picks:List Int) (n:Nat):TS:=drK s picks (Xf s l l.length).1 n
theorem ZqS (hF:1000000 <=F) (hS:XO s) (hl:l.length <=100) (hp:∀ x ∈ picks,0 <=x) (hpl:picks.length <=100) {n:Nat} (hn:n <=500000) (he:opens s (U8 s l picks n)= []) (hj:∀ j,j < n ->opens s (U8 s l picks j) ≠ []):
 ZyW F s l picks=some (vw s (U8 s l picks n),(U8 s l picks n).ev,(n:Int),0):=by
 obtain⟨ok,dl,_⟩:=ZcP (l:=l) hS l.length;unfold ZyW;rw [Zjl (by omega),ZF hS];simp only [Bq0,Zen,Bool.false_or];rw [decide_eq_false (by omega),decide_eq_false (by omega)];simp only [Bool.or_self,Bool.not_false,Cq1];refine Y9 (fun k=>(k:Int)) rfl (n:=picks.length) (by omega) (fun k hk next=>?_) (fun next=>?_)
 ·unfold Zmn ZBZ;rw [YN hk,Cq1,Qr 0 hk];simp only [Bq0];rw [decide_eq_false (by have:=hp _ (Xe (d:=0) hk);omega),Cq0,Qw (by omega)]
 ·unfold Zmn;rw [Y1,Cq0];unfold Zi2;rw [show decide ((-1:Int) >=0)=false from rfl,Cq0,Zq8 (by omega) hS];simp only [Bq0];rw [Ztv hF hS hl];simp only [Bq0];refine Y9 (fun k=>((k:Int),Wv s (U8 s l picks k))) rfl (n:=n) (by omega) (fun k hk next=>?_) (fun next=>?_)
  ·have o:= (Zjd (picks:=picks) hS ok k).1;show Zf3 F s picks ((k:Int),Wv s (drK s picks (Xf s l l.length).1 k)) next=_;rw [ZhT hF hS o (by omega) (by omega) hp hpl,if_neg (show ¬ opens s (drK s picks (Xf s l l.length).1 k)= [] from hj k hk)];have:=hj k hk;unfold U8 at *;rw [drK,if_neg this]
  ·have o:= (Zjd (picks:=picks) hS ok n).1;show Zf3 F s picks ((n:Int),Wv s (drK s picks (Xf s l l.length).1 n)) next=_;rw [ZhT hF hS o (by omega) (by omega) hp hpl,if_pos (show opens s (drK s picks (Xf s l l.length).1 n)= [] from he)];rfl
theorem ZCf (hS:XO s) (hl:l.length <=100) (picks:List Int):∃ n,n <=488∧opens s (U8 s l picks n)= []∧(∀ j,j < n ->opens s (U8 s l picks j) ≠ [])∧Ok s 488 (U8 s l picks n)∧QT s ts0 (U8 s l picks n)∧QT s (Xf s l l.length).1 (U8 s l picks n)∧lds s (U8 s l picks n)=lds s (Xf s l l.length).1 + n:=by
 obtain⟨ok,dl,ac⟩:=ZcP (l:=l) hS l.length;have ok:Ok s 488 (Xf s l l.length).1:= ⟨ok.gd.up (by omega),ok.p1,ok.p2,ok.ki,ok.sd⟩
 obtain⟨n,h1,h2,h3⟩:=ZIy hS ok picks;obtain⟨o,a⟩:=Zjd (picks:=picks) hS ok n;exact⟨n,h1,h2,h3,o,ac.trans a,a,ZsU hS n h3⟩
end
end
section
def ZPG (s:Zb) (e:Zf):Prop:= (∃ p:Nat,e.kV= (p:Int)∧p < nn s)∧(∃ q:Nat,e.kX= (q:Int)∧q < nn s)
def EvR (s:Zb) (σ:TS):Prop:=∀ e ∈ σ.ev,ZPG s e
section
variable {s:Zb} {σ τ υ:TS} {F B a b p q w i n d k r:Nat} {l:List Zx} {picks:List Int} {x:Zd}
theorem EvR.add (h:EvR s σ) {e:Zf} (he:ZPG s e) (ht:τ.ev=σ.ev ++ [e]):EvR s τ:=fun y hy=>by
 rw [ht] at hy;rcases List.mem_append.1 hy with hy | hy
 ·exact h y hy
 ·rw [List.mem_singleton.1 hy];exact he
theorem EvR.congr (h:EvR s σ) (ht:τ.ev=σ.ev):EvR s τ:=fun y hy=>h y (by rwa [ht] at hy)
theorem EvR.see (h:EvR s σ) (hp:p < nn s) (hq:q < nn s) (n:Int):EvR s (Proofs.YtcnahmgekicbdaaGreat.see p q n σ):=by
 unfold Proofs.YtcnahmgekicbdaaGreat.see;split
 ·exact h.add ⟨⟨p,rfl,hp⟩,⟨q,rfl,hq⟩⟩ rfl
 ·exact h
theorem EvR.act (hS:XO s) (h1:P1 s σ) (h:EvR s σ) (ac:Act s σ τ):EvR s τ:=by
 cases ac with
 | @fall p hp=>exact h.add ⟨⟨p,rfl,hp⟩,⟨0,rfl,by omega⟩⟩ rfl
 | UG=>exact h
 | @die p hp h2 hA=>
   have:EvR s (Z6 s p σ):=h.add ⟨⟨p,rfl,hp⟩,⟨0,rfl,by omega⟩⟩ (Qg (s:=s) p σ).2.2.2.2.1;unfold Qm;split
   ·exact this
   ·split
    ·exact this
    ·exact this
 | @ZaW p q hp hq=>exact EvR.see (h.add (τ:=kK p q σ) (e:= ⟨1,p,q,σ.sd⟩) ⟨⟨p,rfl,hp⟩,⟨q,rfl,hq⟩⟩ rfl) hq hp _
 | @ZaV p q hp hq=>exact h.add (τ:=kK p q σ) (e:= ⟨1,p,q,σ.sd⟩) ⟨⟨p,rfl,hp⟩,⟨q,rfl,hq⟩⟩ rfl
 | @ZaQ p q hp hq=>exact(h.add (τ:=tell 3 p q 0 σ) (e:= ⟨3,p,q,0⟩) ⟨⟨p,rfl,hp⟩,⟨q,rfl,hq⟩⟩ rfl).congr (Y8 (s:=s) p q (tell 3 p q 0 σ)).2.2.2.2.2
 | @ZaP p q hp hq=>exact h.add (τ:=tell 3 p q 0 σ) (e:= ⟨3,p,q,0⟩) ⟨⟨p,rfl,hp⟩,⟨q,rfl,hq⟩⟩ rfl
 | Za5 ha hb hl hk hp hq hpn Wj=>exact EvR.see (σ:=drop1 _ σ) h Wj hpn _
 | @Za8 a b p q ha hb hl hk hp hq hpn Wj=>exact h.congr (Y8 (s:=s) p q (drop1 (li s a b) σ)).2.2.2.2.2
 | Za6=>exact h
 | Zah=>exact h
 | Za7=>exact h
 | @ring w i hw hpk=>
   have hm:=h1.bea w hw;unfold rung;split
   ·rename_i hst;have hi:i < (σ.be w).length:=W9 _ _ hpk;obtain⟨⟨⟨p,e1,h1'⟩,⟨q,e2,h2'⟩,_⟩,_⟩:=hm _ (Xe (d:=default) hi);exact h.add (τ:=tell 4 _ _ 0 _) (e:= ⟨4,((σ.be w).getD i default).kV,((σ.be w).getD i default).kX,0⟩) ⟨⟨p,e1,h1'⟩,⟨q,e2,h2'⟩⟩ rfl
   ·exact h
theorem ZyZ (hS:XO s) (h:QT s ts0 σ):EvR s σ:=by
 have h0:=ok0 hS;exact(h.keep (P:=fun σ=>P1 s σ∧EvR s σ) (fun _ _ ⟨a,b⟩ ac=>⟨a.act hS ac,b.act hS a ac⟩) ⟨h0.p1,fun e he=>absurd he (by simp [ts0])⟩).2
def Giv (s:Zb) (l:List Zx) (picks:List Int):Prop:=XO s∧l.length <=100∧(∀ x ∈ picks,0 <=x)∧picks.length <=100
theorem Ztz (hF:picks.length < F) (hl:picks.length <=9223372036854775807):ZqN F picks=ifc ((∀ x ∈ picks,0 <=x)∧picks.length <=100) (some true) (some false):=by
 rw [Zty hF hl];by_cases c:∀ k,k < picks.length ->0 <=picks.getD k 0
 ·rw [ZF c];by_cases c2:picks.length <=100
  ·rw [ZF ⟨Zo8.1 c,c2⟩,decide_eq_true (by omega)]
  ·rw [ZE fun q=>c2 q.2,decide_eq_false (by omega)]
 ·rw [ZE c,ZE fun q=>c (Zo8.2 q.1)]
theorem ZnN (hp:p < nn s):Zf1 s (p:Int)=some true:=by
 unfold Zf1;rw [decide_eq_true (by omega),show decide ((p:Int) < (s.Ze.length:Int))=true from decide_eq_true (by show(p:Int) < ((nn s:Nat):Int);omega)];rfl
theorem ZqR (hF:1000000 <=F) (hg:Giv s l picks):∃ n,n <=488∧opens s (U8 s l picks n)= []∧Ok s 488 (U8 s l picks n)∧QT s ts0 (U8 s l picks n)∧QT s (Xf s l l.length).1 (U8 s l picks n)∧lds s (U8 s l picks n)=lds s (Xf s l l.length).1 + n∧
 ZyV F s l picks=some (vw s (U8 s l picks n),(U8 s l picks n).ev,(n:Int),true):=by
 obtain⟨hS,hl,hp,hpl⟩:=hg;obtain⟨n,hn,he,hj,ok,ac,ac2,e2⟩:=ZCf hS hl picks;refine⟨n,hn,he,ok,ac,ac2,e2,?_⟩;have hr:=ZyZ hS ac;have hev:(U8 s l picks n).ev.length <=488:=by have:=ok.gd.wf.pot;unfold Pot at this;omega
 unfold ZyV;rw [ZqS hF hS hl hp hpl (by omega) he hj];simp only [Bq0,Zen,Bool.false_or];rw [show(vw s (U8 s l picks n)).qV=tab (nn s) (U8 s l picks n).st from rfl,Qo,show((nn s:Nat):Int)= ((s.Ze.length:Nat):Int) from rfl,Zen,decide_eq_false (by omega)];simp only [Bool.or_self,Cq0];refine Y9 (fun k=>(k:Int)) rfl (n:= (U8 s l picks n).ev.length) (by omega) (fun k hk next=>?_) (fun next=>?_)
 ·unfold Zmk;dsimp only;rw [YN hk,Cq1,Qr default hk];simp only [Bq0];obtain⟨⟨p,e1,h1⟩,⟨q,e2,h2⟩⟩:=hr _ (Xe (d:=default) hk);rw [e1,e2,ZnN h1];simp only [Bq0,Bool.not_true,Bool.not_false,QO];rw [ZnN h2];simp only [Bq0,Bool.not_true,Bool.or_self,Cq0];rw [Qw (by omega)]
 ·unfold Zmk;dsimp only;rw [Y1,Cq0]
end
end
section
def kc (k:Int) (p q:Nat) (l:List Zd):Nat:=l.countP fun x=>((x.kW==k) && (x.kV== (p:Int))) && (x.kX== (q:Int))
def asks (s:Zb) (σ:TS) (p q:Nat):Nat:=kc 2 p q (fl σ (li s (pl s p) (pl s q)))
def bb (s:Zb) (σ:TS) (p q:Nat):Nat:=kc 5 p q (σ.be (pl s p)) + kc 5 p q (fl σ (li s (pl s q) (pl s p)))
def wat (σ:TS) (p q:Nat):Nat:= (σ.wa q).count (p:Int)
def ec (σ:TS) (d:Int) (p q:Nat):Nat:=c3 σ.ev d p q
structure Bal (s:Zb) (σ:TS):Prop where
 le:∀ p q,p < nn s ->q < nn s ->ec σ 4 p q + bb s σ p q + wat σ p q + asks s σ p q <=ec σ 3 p q
 eq:∀ p q,p < nn s ->q < nn s ->σ.st p=1 ->ec σ 4 p q + bb s σ p q + wat σ p q + asks s σ p q=ec σ 3 p q
 dead:∀ p q,p < nn s ->q < nn s ->0 < ec σ 4 p q + bb s σ p q ->σ.st q=3
 wz:∀ p q,p < nn s ->q < nn s ->σ.st q=3 ->wat σ p q=0
section
variable {s:Zb} {σ τ υ:TS} {F B a b p q w i j n d r p0 q0:Nat} {x:Zd} {k:Int}
def one (c:Prop) [Decidable c]:Nat:=if c then 1 else 0
theorem QK {c:Prop} [Decidable c] (h:c):one c=1:=if_pos h
theorem YL {c:Prop} [Decidable c] (h:¬ c):one c=0:=if_neg h
theorem Zci (l m:List Zd):kc k p q (l ++ m)=kc k p q l + kc k p q m:=by unfold kc;rw [List.countP_append]
theorem K6 (l:List Zd):kc k p q (x::l)=kc k p q l + one (x.kW=k∧x.kV= (p:Int)∧x.kX= (q:Int)):=by
 unfold kc;rw [List.countP_cons];congr 1;by_cases c:x.kW=k∧x.kV= (p:Int)∧x.kX= (q:Int)
 ·rw [QK c,c.1,c.2.1,c.2.2];simp
 ·rw [YL c,if_neg];simp only [Ba0,beq_iff_eq];exact fun z=>c ⟨z.1.1,z.1.2,z.2⟩
theorem ZfH:kc k p q []=0:=rfl
theorem Zqe {l:List Zd} (hi:i < l.length):kc k p q l=kc k p q (ZbN l i) + one ((l.getD i default).kW=k∧(l.getD i default).kV= (p:Int)∧(l.getD i default).kX= (q:Int)):=by
 have e:l=l.take i ++ l.getD i default::l.drop (i + 1):=by
  rw [List.getD_eq_getElem?_getD,List.getElem?_eq_getElem hi];simp
 unfold ZbN
 conv=>lhs;rw [e]
 rw [Zci,K6,Zci];omega
theorem Zc0 (hl:σ.ld (li s a b) <= (σ.sn (li s a b)).length) (j:Nat):kc k p q (fl (send s a b x σ) j)=kc k p q (fl σ j) + (if j=li s a b then one (x.kW=k∧x.kV= (p:Int)∧x.kX= (q:Int)) else 0):=by
 by_cases e:j=li s a b
 ·subst e;rw [if_pos rfl,ZsE hl,Zci,K6,ZfH,Nat.zero_add]
 ·rw [if_neg e,ZiO e];rfl
theorem Za9 (hl:σ.ld i < (σ.sn i).length) (j:Nat):kc k p q (fl σ j)=kc k p q (fl (drop1 i σ) j) + (if j=i then one ((hd σ i).kW=k∧(hd σ i).kV= (p:Int)∧(hd σ i).kX= (q:Int)) else 0):=by
 by_cases e:j=i
 ·subst e;rw [if_pos rfl,ZlX hl,K6];congr 2;show _= (σ.sn j).drop (ZY σ.ld j (σ.ld j + 1) j);rw [Zq]
 ·rw [if_neg e,Nat.add_zero];congr 1;show _= (σ.sn j).drop (ZY σ.ld i (σ.ld i + 1) j);rw [ZA e];rfl
theorem Zbh (l:List Zf) (e:Zf) (d p q:Int):c3 (l ++ [e]) d p q=c3 l d p q + one (e.kZ=d∧e.kV=p∧e.kX=q):=by
 unfold c3;rw [List.countP_append,List.countP_cons,List.countP_nil,Nat.zero_add];congr 1;by_cases c:e.kZ=d∧e.kV=p∧e.kX=q
 ·rw [QK c,c.1,c.2.1,c.2.2];simp
 ·rw [YL c,if_neg];simp only [Ba0,beq_iff_eq];exact fun z=>c ⟨z.1.1,z.1.2,z.2⟩
theorem ZeP (d':Int) (p' q' n:Int):ec (tell d' p' q' n σ) k p q=ec σ k p q + one (d'=k∧p'= (p:Int)∧q'= (q:Int)):=Zbh _ _ _ _ _
theorem Zy3 {e:Zf} (h:τ.ev=σ.ev ++ [e]):ec τ k p q=ec σ k p q + one (e.kZ=k∧e.kV= (p:Int)∧e.kX= (q:Int)):=by unfold ec;rw [h];exact Zbh _ _ _ _ _
theorem ZkV (h:τ.ev=σ.ev):ec τ k p q=ec σ k p q:=by unfold ec;rw [h]
theorem Zs2 (h1:τ.sn=σ.sn) (h2:τ.ld=σ.ld):asks s τ p q=asks s σ p q:=by unfold asks fl;rw [h1,h2]
theorem ZO8 (h1:τ.sn=σ.sn) (h2:τ.ld=σ.ld) (h3:τ.be=σ.be):bb s τ p q=bb s σ p q:=by unfold bb fl;rw [h1,h2,h3]
theorem Zpx (h:τ.wa=σ.wa):wat τ p q=wat σ p q:=by unfold wat;rw [h]
structure Un (s:Zb) (σ τ:TS):Prop where
 a:∀ p q,asks s τ p q=asks s σ p q
 b:∀ p q,bb s τ p q=bb s σ p q
 w:∀ p q,wat τ p q=wat σ p q
 e3:∀ p q,ec τ 3 p q=ec σ 3 p q
 e4:∀ p q,ec τ 4 p q=ec σ 4 p q
theorem Un.trans (h:Un s σ τ) (h':Un s τ υ):Un s σ υ:= ⟨fun p q=>(h'.a p q).trans (h.a p q),fun p q=>(h'.b p q).trans (h.b p q),fun p q=>(h'.w p q).trans (h.w p q),fun p q=>(h'.e3 p q).trans (h.e3 p q),fun p q=>(h'.e4 p q).trans (h.e4 p q)⟩
theorem Bal.un (h:Bal s σ) (u:Un s σ τ) (s1:∀ p,p < nn s ->τ.st p=1 ->σ.st p=1) (s3:∀ p,p < nn s ->(σ.st p=3↔τ.st p=3)):Bal s τ:=
 ⟨fun p q hp hq=>by rw [u.e4,u.b,u.w,u.a,u.e3];exact h.le p q hp hq,fun p q hp hq z=>by rw [u.e4,u.b,u.w,u.a,u.e3];exact h.eq p q hp hq (s1 p hp z),fun p q hp hq z=>by rw [u.e4,u.b] at z;exact(s3 q hq).1 (h.dead p q hp hq z),fun p q hp hq z=>by rw [u.w];exact h.wz p q hp hq ((s3 q hq).2 z)⟩
theorem Un.send (hl:σ.ld (li s a b) <= (σ.sn (li s a b)).length) (h2:x.kW ≠ 2) (h5:x.kW ≠ 5):Un s σ (Proofs.YtcnahmgekicbdaaGreat.send s a b x σ):=by
 refine⟨fun p q=>?_,fun p q=>?_,fun p q=>rfl,fun p q=>rfl,fun p q=>rfl⟩
 ·unfold asks;rw [Zc0 hl,YL (fun z=>h2 z.1)];split <;> rfl
 ·unfold bb;rw [Zc0 hl,YL (fun z=>h5 z.1)];show kc 5 p q (σ.be (pl s p)) + _=_;split <;> rfl
theorem Un.drop (hl:σ.ld i < (σ.sn i).length) (h2:(hd σ i).kW ≠ 2) (h5:(hd σ i).kW ≠ 5):Un s σ (drop1 i σ):=by
 refine⟨fun p q=>?_,fun p q=>?_,fun p q=>rfl,fun p q=>rfl,fun p q=>rfl⟩
 ·have:=Za9 (k:=2) (p:=p) (q:=q) hl (li s (pl s p) (pl s q));rw [YL (fun z=>h2 z.1)] at this;unfold asks;rw [this];split <;> rfl
 ·have:=Za9 (k:=5) (p:=p) (q:=q) hl (li s (pl s q) (pl s p));rw [YL (fun z=>h5 z.1)] at this;unfold bb;rw [this];show kc 5 p q (σ.be (pl s p)) + _=_;split <;> rfl
theorem Un.tell (d' p' q' n:Int) (h3:d' ≠ 3) (h4:d' ≠ 4):Un s σ (Proofs.YtcnahmgekicbdaaGreat.tell d' p' q' n σ):=
 ⟨fun _ _=>rfl,fun _ _=>rfl,fun _ _=>rfl,fun p q=>by rw [ZeP,YL (fun z=>h3 z.1)];rfl,fun p q=>by rw [ZeP,YL (fun z=>h4 z.1)];rfl⟩
theorem Un.see (p q:Nat) (n:Int):Un s σ (Proofs.YtcnahmgekicbdaaGreat.see p q n σ):=by
 unfold Proofs.YtcnahmgekicbdaaGreat.see;split
 ·exact Un.tell _ _ _ _ (by decide) (by decide)
 ·exact⟨fun _ _=>rfl,fun _ _=>rfl,fun _ _=>rfl,fun _ _=>rfl,fun _ _=>rfl⟩
theorem Zs1 (hS:XO s) (hl:∀ i,σ.ld i <= (σ.sn i).length) (hp0:p0 < nn s) (hq0:q0 < nn s) (hp:p < nn s) (hq:q < nn s):
 bb s (Y5 s p0 q0 σ) p q=bb s σ p q + one (p0=p∧q0=q)∧asks s (Y5 s p0 q0 σ) p q=asks s σ p q:=by
 unfold Y5;by_cases e:pl s p0=pl s q0
 ·rw [if_pos e];refine⟨?_,rfl⟩;unfold bb;show kc 5 p q (ZY σ.be (pl s p0) (σ.be (pl s p0) ++ [_]) (pl s p)) + kc 5 p q (fl σ (li s (pl s q) (pl s p)))=_;by_cases e2:pl s p=pl s p0
  ·rw [e2,Zq,Zci,K6,ZfH,Nat.zero_add];by_cases c:p0=p∧q0=q
   ·rw [QK c,QK ⟨rfl,by show((p0:Int))=p;omega,by show((q0:Int))=q;omega⟩];omega
   ·rw [YL c,YL (fun z=>c ⟨by have:((p0:Int))=p:=z.2.1;omega,by have:((q0:Int))=q:=z.2.2;omega⟩)];omega
  ·rw [ZA e2,YL (fun z=>e2 (by rw [z.1]))];omega
 ·rw [if_neg e];refine⟨?_,?_⟩
  ·unfold bb;rw [Zc0 (hl _)];show kc 5 p q (σ.be (pl s p)) + (_ + _)=_;by_cases c:p0=p∧q0=q
   ·obtain⟨rfl,rfl⟩:=c;rw [if_pos rfl,QK ⟨rfl,rfl,rfl⟩,QK ⟨rfl,rfl⟩];omega
   ·rw [YL c,YL (fun z=>c ⟨by have:((p0:Int))=p:=z.2.1;omega,by have:((q0:Int))=q:=z.2.2;omega⟩)];split <;> omega
  ·unfold asks;rw [Zc0 (hl _),YL (fun z=>by have:(5:Int)=2:=z.1;omega)];split <;> rfl
theorem ZCF (hl:∀ i,σ.ld i <= (σ.sn i).length) (p q:Nat):∀ i,(Y5 s p q σ).ld i <= ((Y5 s p q σ).sn i).length:=fun i=>by
 rw [(Zbj (s:=s) p q σ).2.2.2.1];exact Nat.le_trans (hl i) (SnM.Y5 p q i)
theorem ZoU (hS:XO s) (hq0:q0 < nn s) (hp:p < nn s) (hq:q < nn s):∀ (l:List Int) (σ:TS),(∀ i,σ.ld i <= (σ.sn i).length) ->(∀ x ∈ l,∃ k:Nat,x= (k:Int)∧k < nn s) ->
 bb s (Zu s q0 l σ) p q=bb s σ p q + (if q0=q then l.count (p:Int) else 0)∧asks s (Zu s q0 l σ) p q=asks s σ p q:=by
 intro l
 induction l with
 | nil=>intro σ _ _;exact⟨by show bb s σ p q=_;split <;> rfl,rfl⟩
 | cons x l ih=>
   intro σ hl hx;obtain⟨k,rfl,hk⟩:=hx x (by simp);have h1:=ih (Y5 s k q0 σ) (ZCF hl k q0) fun y hy=>hx y (by simp [hy])
   have h2:=Zs1 (p:=p) (q:=q) hS hl hk hq0 hp hq;show bb s (Zu s q0 l (Y5 s ((k:Int)).toNat q0 σ)) p q=_∧asks s (Zu s q0 l (Y5 s ((k:Int)).toNat q0 σ)) p q=_;rw [Int.toNat_natCast,h1.1,h1.2,h2.1,h2.2];refine⟨?_,rfl⟩;rw [List.count_cons];by_cases e:q0=q
   ·rw [if_pos e,if_pos e];by_cases c:k=p
    ·rw [QK ⟨c,e⟩,if_pos (by simp [c])];omega
    ·rw [YL (fun z=>c z.1),if_neg (by simp;omega)];omega
   ·rw [if_neg e,if_neg e,YL (fun z=>e z.2)]
theorem Zr5 (hS:XO s) (hl:∀ i,σ.ld i <= (σ.sn i).length) (hp0:p0 < nn s) (hq0:q0 < nn s) (hp:p < nn s) (hq:q < nn s):
 asks s (note s p0 q0 σ) p q=asks s σ p q∧(σ.st q0=3 ->bb s (note s p0 q0 σ) p q=bb s σ p q + one (p0=p∧q0=q)∧wat (note s p0 q0 σ) p q=wat σ p q)∧
 (σ.st q0 ≠ 3 ->bb s (note s p0 q0 σ) p q=bb s σ p q∧wat (note s p0 q0 σ) p q=wat σ p q + one (p0=p∧q0=q)):=by
 unfold note;by_cases e:σ.st q0=3
 ·rw [if_pos e];have h:=Zs1 (p:=p) (q:=q) hS hl hp0 hq0 hp hq;exact⟨h.2,fun _=>⟨h.1,Zpx (Zbj (s:=s) p0 q0 σ).2.2.2.2.2.2⟩,fun z=>absurd e z⟩
 ·rw [if_neg e];refine⟨rfl,fun z=>absurd z e,fun _=>⟨rfl,?_⟩⟩;unfold wat;show(ZY σ.wa q0 (σ.wa q0 ++ [(p0:Int)]) q).count (p:Int)=_;by_cases c:q=q0
  ·subst c;rw [Zq,List.count_append,List.count_singleton];by_cases c2:p0=p
   ·rw [QK ⟨c2,rfl⟩,if_pos (by simp [c2])]
   ·rw [YL (fun z=>c2 z.1),if_neg (by simp;omega)]
  ·rw [ZA c,YL (fun z=>c z.2.symm)];rfl
end
end
section
def P3 (s:Zb) (σ:TS):Prop:=∀ w,w < mm s ->∀ x ∈ σ.be w,∃ p:Nat,x.kV= (p:Int)∧p < nn s∧pl s p=w
section
variable {s:Zb} {σ τ υ:TS} {F B a b p q w i j n d r p0 q0:Nat} {x:Zd} {k:Int}
theorem P3.congr (h:P3 s σ) (e:τ.be=σ.be):P3 s τ:=fun w hw x hx=>h w hw x (by rwa [e] at hx)
theorem P3.wait (h:P3 s σ) (hx:x.kV= (p:Int)) (hp:p < nn s) (hm:pl s p=a):P3 s (Proofs.YtcnahmgekicbdaaGreat.wait a x σ):=fun w hw y hy=>by
 have hy:y ∈ ZY σ.be a (σ.be a ++ [x]) w:=hy;by_cases e:w=a
 ·subst e;rw [Zq] at hy;rcases List.mem_append.1 hy with hy | hy
  ·exact h w hw y hy
  ·rw [List.mem_singleton.1 hy];exact⟨p,hx,hp,hm⟩
 ·rw [ZA e] at hy;exact h w hw y hy
theorem P3.Y5 (h:P3 s σ) (hp:p < nn s) (q:Nat):P3 s (Proofs.YtcnahmgekicbdaaGreat.Y5 s p q σ):=by
 unfold Proofs.YtcnahmgekicbdaaGreat.Y5;split
 ·exact h.wait rfl hp rfl
 ·exact h.congr rfl
theorem P3.note (h:P3 s σ) (hp:p < nn s) (q:Nat):P3 s (Proofs.YtcnahmgekicbdaaGreat.note s p q σ):=by
 unfold Proofs.YtcnahmgekicbdaaGreat.note;split
 ·exact h.Y5 hp q
 ·exact h.congr rfl
theorem P3.act (h1:P1 s σ) (h:P3 s σ) (ac:Act s σ τ):P3 s τ:=by
 cases ac with
 | fall=>exact h.congr rfl
 | UG=>exact h.congr rfl
 | @die p hp h2 hA=>
   have hA:P3 s (Z6 s p σ):=by
    have:P3 s (Zu s p (σ.wa p) (Jm p σ)):=UM _ (P3 s) (σ.wa p) (Jm p σ) (h.congr rfl) fun τ x hx hτ=>by
     obtain⟨k,rfl,hk⟩:=h1.ws p hp x hx;exact hτ.Y5 (by rw [Int.toNat_natCast];exact hk) p
    exact this.congr rfl
   unfold Qm;split
   ·exact hA
   ·split
    ·exact hA.congr rfl
    ·exact hA.congr rfl
 | @ZaW p q=>exact h.congr (X6 q p σ.sd (kK p q σ)).2.2.2.2.2.1
 | ZaV=>exact h.congr rfl
 | @ZaQ p q hp=>exact(h.congr (τ:=tell 3 p q 0 σ) rfl).note hp q
 | ZaP=>exact h.congr rfl
 | @Za5 a b p q=>exact(h.congr (τ:=drop1 (li s a b) σ) rfl).congr (X6 _ _ _ _).2.2.2.2.2.1
 | @Za8 a b p q ha hb hl hk hp hq hpn Wj=>exact(h.congr (τ:=drop1 (li s a b) σ) rfl).note hpn q
 | Za6=>exact h.congr rfl
 | Zah=>exact h.congr rfl
 | @Za7 a b ha hb hl hk=>
   obtain⟨p,hp,hpn,_,c⟩:=h1.lets a b ha hb _ (Zbb hl);refine(h.congr (τ:=drop1 (li s a b) σ) rfl).wait hp hpn ?_;rcases c with⟨k,_⟩ | ⟨k,_⟩ | ⟨k,_⟩ | ⟨k,_⟩ | ⟨k,e,_⟩
   ·omega
   ·omega
   ·omega
   ·omega
   ·exact e
 | @ring w i hw hpk=>
   have e:=Qp s w i σ;intro v hv y hy;rw [e.1] at hy;by_cases z:v=w
   ·subst z;rw [Zq] at hy;exact h v hv y (ZaE hy)
   ·rw [ZA z] at hy;exact h v hv y hy
theorem ZeU {d:Int} (h:x.kW=d) (hp:x.kV= (p0:Int)) (hq:x.kX= (q0:Int)):one (x.kW=d∧x.kV= (p:Int)∧x.kX= (q:Int))=one (p0=p∧q0=q):=by
 rw [hp,hq];by_cases c:p0=p∧q0=q
 ·rw [QK c,QK ⟨h,by omega,by omega⟩]
 ·rw [YL c,YL (fun z=>c ⟨by have:=z.2.1;omega,by have:=z.2.2;omega⟩)]
theorem Zja (n:Int):ec (tell k p0 q0 n σ) k p q=ec σ k p q + one (p0=p∧q0=q):=by
 rw [ZeP];congr 1;by_cases c:p0=p∧q0=q
 ·rw [QK c,QK ⟨rfl,by omega,by omega⟩]
 ·rw [YL c,YL (fun z=>c ⟨by have:=z.2.1;omega,by have:=z.2.2;omega⟩)]
theorem ZkU (d':Int) (n:Int) (h:d' ≠ k):ec (tell d' p0 q0 n σ) k p q=ec σ k p q:=by
 rw [ZeP,YL (fun z=>h z.1)];rfl
theorem Un.of (h1:τ.sn=σ.sn) (h2:τ.ld=σ.ld) (h3:τ.be=σ.be) (h4:τ.wa=σ.wa) (h5:τ.ev=σ.ev):Un s σ τ:=
 ⟨fun _ _=>Zs2 h1 h2,fun _ _=>ZO8 h1 h2 h3,fun _ _=>Zpx h4,fun _ _=>ZkV h5,fun _ _=>ZkV h5⟩
theorem Bal.Z6 (hS:XO s) (h1:P1 s σ) (h2:P2 s σ) (h:Bal s σ) (hp0:p0 < nn s):Bal s (Proofs.YtcnahmgekicbdaaGreat.Z6 s p0 σ):=by
 have sA:=Qg (s:=s) p0 σ
 have bA:∀ p q,p < nn s ->q < nn s ->bb s (Proofs.YtcnahmgekicbdaaGreat.Z6 s p0 σ) p q=bb s σ p q + (if p0=q then(σ.wa p0).count (p:Int) else 0)∧asks s (Proofs.YtcnahmgekicbdaaGreat.Z6 s p0 σ) p q=asks s σ p q:=fun p q hp hq=>
  ZoU hS hp0 hp hq (σ.wa p0) (Jm p0 σ) h2.ld (h1.ws p0 hp0)
 have wA:∀ p q,wat (Proofs.YtcnahmgekicbdaaGreat.Z6 s p0 σ) p q=if p0=q then 0 else wat σ p q:=fun p q=>by
  unfold wat;rw [sA.2.2.2.2.2];by_cases e:p0=q
  ·subst e;rw [Zq,if_pos rfl];rfl
  ·rw [ZA (fun z=>e z.symm),if_neg e]
 have e3:∀ p q,ec (Proofs.YtcnahmgekicbdaaGreat.Z6 s p0 σ) 3 p q=ec σ 3 p q:=fun p q=>by rw [Zy3 sA.2.2.2.2.1,YL (fun z=>by have:(6:Int)=3:=z.1;omega)];rfl
 have e4:∀ p q,ec (Proofs.YtcnahmgekicbdaaGreat.Z6 s p0 σ) 4 p q=ec σ 4 p q:=fun p q=>by rw [Zy3 sA.2.2.2.2.1,YL (fun z=>by have:(6:Int)=4:=z.1;omega)];rfl
 have tot:∀ p q,p < nn s ->q < nn s ->ec (Proofs.YtcnahmgekicbdaaGreat.Z6 s p0 σ) 4 p q + bb s (Proofs.YtcnahmgekicbdaaGreat.Z6 s p0 σ) p q + wat (Proofs.YtcnahmgekicbdaaGreat.Z6 s p0 σ) p q + asks s (Proofs.YtcnahmgekicbdaaGreat.Z6 s p0 σ) p q=ec σ 4 p q + bb s σ p q + wat σ p q + asks s σ p q:=fun p q hp hq=>by
  obtain⟨b1,b2⟩:=bA p q hp hq;rw [b1,b2,wA,e4];by_cases e:p0=q
  ·rw [if_pos e,if_pos e,e];unfold wat;omega
  ·rw [if_neg e,if_neg e];omega
 refine⟨fun p q hp hq=>by rw [tot p q hp hq,e3];exact h.le p q hp hq,fun p q hp hq z=>?_,fun p q hp hq z=>?_,fun p q hp hq z=>?_⟩
 ·rw [tot p q hp hq,e3];rw [sA.1] at z;refine h.eq p q hp hq ?_;by_cases e:p=p0
  ·subst e;rw [Zq] at z;omega
  ·rwa [ZA e] at z
 ·rw [sA.1];by_cases e:q=p0
  ·subst e;rw [Zq]
  ·rw [ZA e];rw [e4,(bA p q hp hq).1,if_neg (fun z=>e z.symm)] at z;exact h.dead p q hp hq z
 ·rw [wA];by_cases e:p0=q
  ·rw [if_pos e]
  ·rw [if_neg e];rw [sA.1,ZA (fun z=>e z.symm)] at z;exact h.wz p q hp hq z
theorem Bal.act (hS:XO s) (h1:P1 s σ) (h2:P2 s σ) (h3:P3 s σ) (h:Bal s σ) (ac:Act s σ τ):Bal s τ:=by
 have id1:∀ (ρ:TS),ρ.st=σ.st ->∀ p,p < nn s ->ρ.st p=1 ->σ.st p=1:=fun ρ e p _ z=>by rwa [e] at z
 have id3:∀ (ρ:TS),ρ.st=σ.st ->∀ p,p < nn s ->(σ.st p=3↔ρ.st p=3):=fun ρ e p _=>by rw [e]
 cases ac with
 | @fall p0 hp0 hst=>
   refine h.un ((Un.of (s:=s) (σ:=σ) (τ:= {σ with st:=ZY σ.st p0 2}) rfl rfl rfl rfl rfl).trans (Un.tell (σ:= {σ with st:=ZY σ.st p0 2}) 5 p0 0 0 (by decide) (by decide))) (fun p _ z=>?_) (fun p _=>?_)
   ·have z:ZY σ.st p0 2 p=1:=z;by_cases e:p=p0
    ·subst e;exact hst
    ·rwa [ZA e] at z
   ·show _↔ZY σ.st p0 2 p=3;by_cases e:p=p0
    ·subst e;rw [Zq,hst];decide
    ·rw [ZA e]
 | UG=>exact h.un (Un.send (h2.ld _) (show(3:Int) ≠ 2 by decide) (show(3:Int) ≠ 5 by decide)) (id1 _ rfl) (id3 _ rfl)
 | @die p0 hp0 hst hA=>
   have hB:=Bal.Z6 hS h1 h2 h hp0;unfold Qm;split
   ·exact hB
   ·split
    ·exact hB.un ⟨fun _ _=>rfl,fun _ _=>rfl,fun _ _=>rfl,fun _ _=>rfl,fun _ _=>rfl⟩ (fun _ _ z=>z) (fun _ _=>Iff.rfl)
    ·refine hB.un (Un.send ?_ (show(4:Int) ≠ 2 by decide) (show(4:Int) ≠ 5 by decide)) (fun _ _ z=>z) (fun _ _=>Iff.rfl);rw [(Qg (s:=s) p0 σ).2.2.1];exact Nat.le_trans (h2.ld _) (SnM.Z6 p0 _)
 | @ZaW p0 q0 hp hq=>exact h.un (((Un.of (s:=s) (σ:=σ) (τ:= {σ with sd:=σ.sd + 1}) rfl rfl rfl rfl rfl).trans (Un.tell (σ:= {σ with sd:=σ.sd + 1}) 1 p0 q0 σ.sd (by decide) (by decide))).trans (Un.see q0 p0 σ.sd)) (id1 _ (X6 q0 p0 σ.sd (kK p0 q0 σ)).1) (id3 _ (X6 q0 p0 σ.sd (kK p0 q0 σ)).1)
 | @ZaV p0 q0 hp hq=>exact h.un (((Un.of (s:=s) (σ:=σ) (τ:= {σ with sd:=σ.sd + 1}) rfl rfl rfl rfl rfl).trans (Un.tell (σ:= {σ with sd:=σ.sd + 1}) 1 p0 q0 σ.sd (by decide) (by decide))).trans (Un.send (x:= ⟨1,p0,q0,σ.sd,[]⟩) (h2.ld _) (show(1:Int) ≠ 2 by decide) (show(1:Int) ≠ 5 by decide))) (id1 _ rfl) (id3 _ rfl)
 | @ZaQ p0 q0 hp0 hq0 hst e0=>
   have e:=Y8 (s:=s) p0 q0 (tell 3 p0 q0 0 σ);have e3:∀ p q,ec (note s p0 q0 (tell 3 p0 q0 0 σ)) 3 p q=ec σ 3 p q + one (p0=p∧q0=q):=fun p q=>by rw [ZkV e.2.2.2.2.2,Zja]
   have e4:∀ p q,ec (note s p0 q0 (tell 3 p0 q0 0 σ)) 4 p q=ec σ 4 p q:=fun p q=>by rw [ZkV e.2.2.2.2.2,ZkU _ _ (by decide)]
   have nt:=fun p q hp hq=>Zr5 (p:=p) (q:=q) (σ:=tell 3 p0 q0 0 σ) hS h2.ld hp0 hq0 hp hq
   have ta:∀ p q,asks s (tell 3 p0 q0 0 σ) p q=asks s σ p q:=fun _ _=>rfl
   have tb:∀ p q,bb s (tell 3 p0 q0 0 σ) p q=bb s σ p q:=fun _ _=>rfl
   have tw:∀ p q,wat (tell 3 p0 q0 0 σ) p q=wat σ p q:=fun _ _=>rfl
   have ts:(tell 3 p0 q0 0 σ).st q0=σ.st q0:=rfl;refine⟨fun p q hp hq=>?_,fun p q hp hq z=>?_,fun p q hp hq z=>?_,fun p q hp hq z=>?_⟩
   ·have l:=h.le p q hp hq;obtain⟨n1,n2,n3⟩:=nt p q hp hq;rw [e3,e4,n1,ta];by_cases c:σ.st q0=3
    ·obtain⟨m1,m2⟩:=n2 c;rw [m1,m2,tb,tw];omega
    ·obtain⟨m1,m2⟩:=n3 c;rw [m1,m2,tb,tw];omega
   ·rw [e.1] at z;have l:=h.eq p q hp hq z;obtain⟨n1,n2,n3⟩:=nt p q hp hq;rw [e3,e4,n1,ta];by_cases c:σ.st q0=3
    ·obtain⟨m1,m2⟩:=n2 c;rw [m1,m2,tb,tw];omega
    ·obtain⟨m1,m2⟩:=n3 c;rw [m1,m2,tb,tw];omega
   ·rw [e.1];obtain⟨n1,n2,n3⟩:=nt p q hp hq;rw [e4] at z;by_cases c:σ.st q0=3
    ·obtain⟨m1,m2⟩:=n2 c;rw [m1,tb] at z;by_cases cc:p0=p∧q0=q
     ·rw [← cc.2];exact c
     ·rw [YL cc] at z;exact h.dead p q hp hq z
    ·obtain⟨m1,m2⟩:=n3 c;rw [m1,tb] at z;exact h.dead p q hp hq z
   ·rw [e.1] at z;obtain⟨n1,n2,n3⟩:=nt p q hp hq;have l:=h.wz p q hp hq z;by_cases c:σ.st q0=3
    ·obtain⟨m1,m2⟩:=n2 c;rw [m2,tw];exact l
    ·obtain⟨m1,m2⟩:=n3 c;rw [m2,tw,l,YL (fun cc=>c (by rw [cc.2];exact z))]
 | @ZaP p0 q0 hp0 hq0 hst e0=>
   have e3:∀ p q,ec (send s (pl s p0) (pl s q0) ⟨2,p0,q0,0,[]⟩ (tell 3 p0 q0 0 σ)) 3 p q=ec σ 3 p q + one (p0=p∧q0=q):=fun p q=>Zja 0
   have e4:∀ p q,ec (send s (pl s p0) (pl s q0) ⟨2,p0,q0,0,[]⟩ (tell 3 p0 q0 0 σ)) 4 p q=ec σ 4 p q:=fun p q=>ZkU _ _ (by decide)
   have ea:∀ p q,asks s (send s (pl s p0) (pl s q0) ⟨2,p0,q0,0,[]⟩ (tell 3 p0 q0 0 σ)) p q=asks s σ p q + one (p0=p∧q0=q):=fun p q=>by
    unfold asks;rw [Zc0 (σ:=tell 3 p0 q0 0 σ) (h2.ld _),ZeU (x:= ⟨2,p0,q0,0,[]⟩) (d:=2) (p0:=p0) (q0:=q0) rfl rfl rfl];by_cases c:p0=p∧q0=q
    ·rw [if_pos (by rw [c.1,c.2])];rfl
    ·rw [YL c];split <;> rfl
   have eb:∀ p q,bb s (send s (pl s p0) (pl s q0) ⟨2,p0,q0,0,[]⟩ (tell 3 p0 q0 0 σ)) p q=bb s σ p q:=fun p q=>by
    unfold bb;rw [Zc0 (σ:=tell 3 p0 q0 0 σ) (h2.ld _),YL (fun z=>by have:(2:Int)=5:=z.1;omega)];show kc 5 p q (σ.be (pl s p)) + _=_;split <;> rfl
   have ew:∀ p q,wat (send s (pl s p0) (pl s q0) ⟨2,p0,q0,0,[]⟩ (tell 3 p0 q0 0 σ)) p q=wat σ p q:=fun p q=>rfl
   refine⟨fun p q hp hq=>?_,fun p q hp hq z=>?_,fun p q hp hq z=>?_,fun p q hp hq z=>?_⟩
   ·have l:=h.le p q hp hq;rw [e3,e4,ea,eb,ew];omega
   ·have l:=h.eq p q hp hq z;rw [e3,e4,ea,eb,ew];omega
   ·rw [e4,eb] at z;exact h.dead p q hp hq z
   ·rw [ew];exact h.wz p q hp hq z
 | @Za5 a b p0 q0 ha hb hl hk hp hq hpn Wj=>exact h.un ((Un.drop hl (by omega) (by omega)).trans (Un.see q0 p0 _)) (id1 _ (X6 q0 p0 (hd σ (li s a b)).n (drop1 (li s a b) σ)).1) (id3 _ (X6 q0 p0 (hd σ (li s a b)).n (drop1 (li s a b) σ)).1)
 | @Za8 a b p0 q0 ha hb hl hk hpe hqe hp0 hq0=>
   have e:=Y8 (s:=s) p0 q0 (drop1 (li s a b) σ);have hlet:=h1.lets a b ha hb _ (Zbb hl)
   have hpq:pl s p0=a∧pl s q0=b:=by
    obtain⟨p',hp',_,_,c⟩:=hlet;have:p'=p0:=by omega
    subst this;rcases c with⟨k,_⟩ | ⟨k,e1,q',hq',_,e2⟩ | ⟨k,_⟩ | ⟨k,_⟩ | ⟨k,_⟩
    ·omega
    ·have:q'=q0:=by omega
     subst this;exact⟨e1,e2⟩
    ·omega
    ·omega
    ·omega
   have hd2:∀ i,(drop1 (li s a b) σ).ld i <= ((drop1 (li s a b) σ).sn i).length:= (h2.drop hl).ld;have e3:∀ p q,ec (note s p0 q0 (drop1 (li s a b) σ)) 3 p q=ec σ 3 p q:=fun p q=>by rw [ZkV e.2.2.2.2.2];rfl
   have e4:∀ p q,ec (note s p0 q0 (drop1 (li s a b) σ)) 4 p q=ec σ 4 p q:=fun p q=>by rw [ZkV e.2.2.2.2.2];rfl
   have nt:=fun p q hp hq=>Zr5 (p:=p) (q:=q) (σ:=drop1 (li s a b) σ) hS hd2 hp0 hq0 hp hq
   have ta:∀ p q,asks s σ p q=asks s (drop1 (li s a b) σ) p q + one (p0=p∧q0=q):=fun p q=>by
    have:=Za9 (k:=2) (p:=p) (q:=q) hl (li s (pl s p) (pl s q));rw [ZeU (d:=2) (p0:=p0) (q0:=q0) hk hpe hqe] at this;unfold asks;rw [this];by_cases c:p0=p∧q0=q
    ·rw [if_pos (by rw [← c.1,← c.2,hpq.1,hpq.2])]
    ·rw [YL c];split <;> rfl
   have tb:∀ p q,bb s (drop1 (li s a b) σ) p q=bb s σ p q:=fun p q=>by
    have:=Za9 (k:=5) (p:=p) (q:=q) hl (li s (pl s q) (pl s p));rw [YL (fun z=>by have:=z.1;omega)] at this;unfold bb;rw [this];show kc 5 p q (σ.be (pl s p)) + _=_;split <;> rfl
   have tw:∀ p q,wat (drop1 (li s a b) σ) p q=wat σ p q:=fun _ _=>rfl
   have ts:(drop1 (li s a b) σ).st=σ.st:=rfl;refine⟨fun p q hp hq=>?_,fun p q hp hq z=>?_,fun p q hp hq z=>?_,fun p q hp hq z=>?_⟩
   ·have l:=h.le p q hp hq;obtain⟨n1,n2,n3⟩:=nt p q hp hq;rw [e3,e4,n1];rw [ta] at l;by_cases c:σ.st q0=3
    ·obtain⟨m1,m2⟩:=n2 c;rw [m1,m2,tb,tw];omega
    ·obtain⟨m1,m2⟩:=n3 c;rw [m1,m2,tb,tw];omega
   ·rw [e.1] at z;have l:=h.eq p q hp hq z;obtain⟨n1,n2,n3⟩:=nt p q hp hq;rw [e3,e4,n1];rw [ta] at l;by_cases c:σ.st q0=3
    ·obtain⟨m1,m2⟩:=n2 c;rw [m1,m2,tb,tw];omega
    ·obtain⟨m1,m2⟩:=n3 c;rw [m1,m2,tb,tw];omega
   ·rw [e.1];obtain⟨n1,n2,n3⟩:=nt p q hp hq;rw [e4] at z;by_cases c:σ.st q0=3
    ·obtain⟨m1,m2⟩:=n2 c;rw [m1,tb] at z;by_cases cc:p0=p∧q0=q
     ·rw [← cc.2];exact c
     ·rw [YL cc] at z;exact h.dead p q hp hq z
    ·obtain⟨m1,m2⟩:=n3 c;rw [m1,tb] at z;exact h.dead p q hp hq z
   ·rw [e.1] at z;obtain⟨n1,n2,n3⟩:=nt p q hp hq;have l:=h.wz p q hp hq z;by_cases c:σ.st q0=3
    ·obtain⟨m1,m2⟩:=n2 c;rw [m2,tw];exact l
    ·obtain⟨m1,m2⟩:=n3 c;rw [m2,tw,l,YL (fun cc=>c (by rw [cc.2];exact z))]
 | Za6 ha hb hl hk=>exact h.un (Un.drop hl (by omega) (by omega)) (id1 _ rfl) (id3 _ rfl)
 | Zah ha hb hl hk=>exact h.un ((Un.drop hl (by omega) (by omega)).trans ⟨fun _ _=>rfl,fun _ _=>rfl,fun _ _=>rfl,fun _ _=>rfl,fun _ _=>rfl⟩) (id1 _ rfl) (id3 _ rfl)
 | @Za7 a b ha hb hl hk=>
   obtain⟨p0,hpe,hp0,_,c⟩:=h1.lets a b ha hb _ (Zbb hl)
   obtain⟨q0,hqe,hq0,e1,e2⟩:∃ q0:Nat,(hd σ (li s a b)).kX= (q0:Int)∧q0 < nn s∧pl s p0=b∧pl s q0=a:=by
    rcases c with⟨k,_⟩ | ⟨k,_⟩ | ⟨k,_⟩ | ⟨k,_⟩ | ⟨k,e,_,q,h1,h2,h3⟩
    ·omega
    ·omega
    ·omega
    ·omega
    ·exact⟨q,h1,h2,e,h3⟩
   refine h.un ⟨fun p q=>?_,fun p q=>?_,fun _ _=>rfl,fun _ _=>rfl,fun _ _=>rfl⟩ (id1 _ rfl) (id3 _ rfl)
   ·have:=Za9 (k:=2) (p:=p) (q:=q) hl (li s (pl s p) (pl s q));rw [YL (fun z=>by have:=z.1;omega)] at this;show asks s (drop1 (li s a b) σ) p q=_;unfold asks;rw [this];split <;> rfl
   ·have:=Za9 (k:=5) (p:=p) (q:=q) hl (li s (pl s q) (pl s p));rw [ZeU (d:=5) (p0:=p0) (q0:=q0) hk hpe hqe] at this;unfold bb;rw [this];show kc 5 p q (ZY σ.be b (σ.be b ++ [hd σ (li s a b)]) (pl s p)) + kc 5 p q (fl (drop1 (li s a b) σ) (li s (pl s q) (pl s p)))=_;by_cases c:p0=p∧q0=q
    ·rw [if_pos (by rw [← c.1,← c.2,e1,e2]),show pl s p=b by rw [← c.1,e1],Zq,Zci,K6,ZfH,ZeU (d:=5) (p0:=p0) (q0:=q0) hk hpe hqe];omega
    ·rw [YL c]
     have:kc 5 p q (ZY σ.be b (σ.be b ++ [hd σ (li s a b)]) (pl s p))=kc 5 p q (σ.be (pl s p)):=by
      by_cases z:pl s p=b
      ·rw [z,Zq,Zci,K6,ZfH,ZeU (d:=5) (p0:=p0) (q0:=q0) hk hpe hqe,YL c];rfl
      ·rw [ZA z]
     rw [this];split <;> omega
 | @ring w i hw hpk=>
   have e:=Qp s w i σ;have hi:i < (σ.be w).length:=W9 _ _ hpk;obtain⟨x,hx⟩:∃ x,x= (σ.be w).getD i default:= ⟨_,rfl⟩
   have hm:x ∈ σ.be w:=by rw [hx];exact Xe hi
   obtain⟨p0,hpe,hp0,hpw⟩:=h3 w hw x hm;obtain⟨⟨_,⟨q0,hqe,hq0⟩,_⟩,hk⟩:=h1.bea w hw x hm;have ea:∀ p q,asks s (rung s w i σ) p q=asks s σ p q:=fun p q=>Zs2 e.2.2.2.2.2.1 e.2.1
   have ew:∀ p q,wat (rung s w i σ) p q=wat σ p q:=fun p q=>Zpx e.2.2.2.2.2.2.1
   have eb:∀ p q,bb s σ p q=bb s (rung s w i σ) p q + one (p0=p∧q0=q):=fun p q=>by
    have hc:=Zqe (k:=5) (p:=p) (q:=q) hi;rw [← hx,ZeU (d:=5) (p0:=p0) (q0:=q0) hk hpe hqe] at hc;have hf:fl (rung s w i σ)=fl σ:=by unfold fl;rw [e.2.1,e.2.2.2.2.2.1]
    unfold bb;rw [hf,e.1];by_cases z:pl s p=w
    ·rw [z,Zq,hc];omega
    ·rw [ZA z,YL (fun c=>z (by rw [← c.1];exact hpw))];omega
   have e3:∀ p q,ec (rung s w i σ) 3 p q=ec σ 3 p q:=fun p q=>by
    unfold rung;split
    ·rw [ZeP,YL (fun z=>by have:=z.1;omega)];rfl
    ·rfl
   have e4:∀ p q,ec (rung s w i σ) 4 p q=ec σ 4 p q + (if σ.st p0=1 then one (p0=p∧q0=q) else 0):=fun p q=>by
    unfold rung;rw [← hx,hpe,Int.toNat_natCast];split
    ·rw [hqe,Zja];rfl
    ·rfl
   refine⟨fun p q hp hq=>?_,fun p q hp hq z=>?_,fun p q hp hq z=>?_,fun p q hp hq z=>?_⟩
   ·have l:=h.le p q hp hq;rw [eb] at l;rw [e3,e4,ea,ew];split <;> omega
   ·rw [e.2.2.1] at z;have l:=h.eq p q hp hq z;rw [eb] at l;rw [e3,e4,ea,ew];by_cases c:p0=p∧q0=q
    ·rw [if_pos (by rw [c.1];exact z)];omega
    ·rw [YL c] at l ⊢;split <;> omega
   ·rw [e.2.2.1];refine h.dead p q hp hq ?_;rw [eb];rw [e4] at z;split at z <;> omega
   ·rw [ew];rw [e.2.2.1] at z;exact h.wz p q hp hq z
end
end
section
structure MB (s:Zb) (σ:TS):Prop where
 ma:∀ p i,i < mm s * mm s ->σ.ma p i <= ((σ.sn i).length:Int)
 le:∀ j,∀ x ∈ σ.sn j,∀ i,i < mm s * mm s ->x.qX.getD i 0 <= ((σ.sn i).length:Int)
 be:∀ m,∀ x ∈ σ.be m,∀ i,i < mm s * mm s ->x.qX.getD i 0 <= ((σ.sn i).length:Int)
def NoR (s:Zb) (σ:TS):Prop:=∀ w,w < mm s ->Qj s σ.ld w (σ.be w) (σ.be w).length=none
section
variable {s:Zb} {σ τ υ:TS} {F B a b p q w i j n d r p0 q0:Nat} {x:Zd} {k:Int} {l:List Zx} {picks:List Int}
def MX (s:Zb) (σ:TS) (x:Zd):Prop:=∀ i,i < mm s * mm s ->x.qX.getD i 0 <= ((σ.sn i).length:Int)
theorem MB.congr (h:MB s σ) (h1:τ.sn=σ.sn) (h2:τ.be=σ.be) (h3:τ.ma=σ.ma):MB s τ:= ⟨by rw [h1,h3];exact h.ma,by rw [h1];exact h.le,by rw [h1,h2];exact h.be⟩
theorem MB.send (h:MB s σ) (hx:MX s σ x):MB s (Proofs.YtcnahmgekicbdaaGreat.send s a b x σ):=by
 have up:∀ i,(σ.sn i).length <= ((Proofs.YtcnahmgekicbdaaGreat.send s a b x σ).sn i).length:=SnM.send x;refine⟨fun p i hi=>Int.le_trans (h.ma p i hi) (by have:=up i;omega),fun j y hy i hi=>?_,fun m y hy i hi=>Int.le_trans (h.be m y hy i hi) (by have:=up i;omega)⟩;refine Int.le_trans ?_ (Int.ofNat_le.2 (up i));by_cases e:j=li s a b
 ·subst e;rw [ZaU] at hy;rcases List.mem_append.1 hy with hy | hy
  ·exact h.le _ y hy i hi
  ·rw [List.mem_singleton.1 hy];exact hx i hi
 ·rw [Jj e] at hy;exact h.le _ y hy i hi
theorem MB.wait (h:MB s σ) (hx:MX s σ x):MB s (Proofs.YtcnahmgekicbdaaGreat.wait a x σ):=by
 refine⟨h.ma,h.le,fun m y hy i hi=>?_⟩;have hy:y ∈ ZY σ.be a (σ.be a ++ [x]) m:=hy;by_cases e:m=a
 ·subst e;rw [Zq] at hy;rcases List.mem_append.1 hy with hy | hy
  ·exact h.be _ y hy i hi
  ·rw [List.mem_singleton.1 hy];exact hx i hi
 ·rw [ZA e] at hy;exact h.be _ y hy i hi
theorem Za2 (hi:i < mm s * mm s):(J9 s σ p).getD i 0=σ.ma p i:=by
 unfold J9;have:=Yu (f:=σ.ma p) hi;rw [Qr 0 (by rw [Qo];exact hi)] at this;exact Oi0 this
theorem MB.J9 (h:MB s σ) (d p q n:Int) (p':Nat):MX s σ ⟨d,p,q,n,Proofs.YtcnahmgekicbdaaGreat.J9 s σ p'⟩:=fun i hi=>by
 show(Proofs.YtcnahmgekicbdaaGreat.J9 s σ p').getD i 0 <=_;rw [Za2 hi];exact h.ma p' i hi
theorem MX.nil (d p q n:Int):MX s σ ⟨d,p,q,n,[]⟩:=fun i hi=>by show(0:Int) <=_;omega
theorem MB.Y5 (h:MB s σ) (p q:Nat):MB s (Proofs.YtcnahmgekicbdaaGreat.Y5 s p q σ):=by
 unfold Proofs.YtcnahmgekicbdaaGreat.Y5;split
 ·exact h.wait (h.J9 _ _ _ _ _)
 ·exact h.send (h.J9 _ _ _ _ _)
theorem MB.note (h:MB s σ) (p q:Nat):MB s (Proofs.YtcnahmgekicbdaaGreat.note s p q σ):=by
 unfold Proofs.YtcnahmgekicbdaaGreat.note;split
 ·exact h.Y5 _ _
 ·exact h.congr rfl rfl rfl
theorem MB.see (h:MB s σ) (p q:Nat) (n:Int):MB s (Proofs.YtcnahmgekicbdaaGreat.see p q n σ):=by
 have e:=X6 p q n σ;exact h.congr e.2.2.2.2.1 e.2.2.2.2.2.1 e.2.2.1
theorem MB.Z6 (h:MB s σ) (p:Nat):MB s (Proofs.YtcnahmgekicbdaaGreat.Z6 s p σ):=by
 have h1:MB s (Zu s p (σ.wa p) (Jm p σ)):=UM _ (MB s) (σ.wa p) (Jm p σ) (h.congr rfl rfl rfl) fun τ x _ hτ=>hτ.Y5 _ _
 refine⟨fun p' i hi=>?_,h1.le,h1.be⟩;show ZY (Zu s p (σ.wa p) (Jm p σ)).ma p (ZbJ s (Zu s p (σ.wa p) (Jm p σ)) p (mm s)) p' i <=_;by_cases e:p'=p
 ·subst e;rw [Zq];unfold ZbJ;split
  ·exact Int.le_refl _
  ·exact h1.ma _ i hi
 ·rw [ZA e];exact h1.ma _ i hi
theorem MB.learn (h:MB s σ) {l:List Int} (hl:∀ i,i < mm s * mm s ->l.getD i 0 <= ((σ.sn i).length:Int)) (p:Nat):MB s (Yy s p l σ):=by
 refine⟨fun p' i hi=>?_,h.le,h.be⟩;show ZY σ.ma (inn s (p:Int)).toNat (mx (σ.ma (inn s (p:Int)).toNat) l) p' i <= ((σ.sn i).length:Int);by_cases e:p'= (inn s (p:Int)).toNat
 ·rw [e,Zq];have h1:=h.ma (inn s (p:Int)).toNat i hi;have h2:=hl i hi;unfold mx;split <;> omega
 ·rw [ZA e];exact h.ma _ i hi
theorem MB.act (h:MB s σ) (ac:Act s σ τ):MB s τ:=by
 cases ac with
 | fall=>exact h.congr rfl rfl rfl
 | UG=>exact h.send (MX.nil _ _ _ _)
 | @die p hp h2 hA=>
   have hA:=h.Z6 p;unfold Qm;split
   ·exact hA
   ·split
    ·exact hA.learn (fun i hi=>by rw [Za2 hi];exact hA.ma p i hi) p
    ·exact hA.send (hA.J9 _ _ _ _ _)
 | @ZaW p q=>exact(h.congr (τ:=kK p q σ) rfl rfl rfl).see _ _ _
 | @ZaV p q=>exact(h.congr (τ:=kK p q σ) rfl rfl rfl).send (MX.nil _ _ _ _)
 | @ZaQ p q hp=>exact(h.congr (τ:=tell 3 p q 0 σ) rfl rfl rfl).note _ _
 | @ZaP p q=>exact(h.congr (τ:=tell 3 p q 0 σ) rfl rfl rfl).send (MX.nil _ _ _ _)
 | @Za5 a b p q=>exact(h.congr (τ:=drop1 (li s a b) σ) rfl rfl rfl).see _ _ _
 | @Za8 a b p q=>exact(h.congr (τ:=drop1 (li s a b) σ) rfl rfl rfl).note _ _
 | Za6=>exact h.congr rfl rfl rfl
 | @Zah a b p ha hb hl=>exact(h.congr (τ:=drop1 (li s a b) σ) rfl rfl rfl).learn (fun i hi=>h.le _ _ (Zbb hl) i hi) p
 | @Za7 a b ha hb hl=>exact(h.congr (τ:=drop1 (li s a b) σ) rfl rfl rfl).wait (fun i hi=>h.le _ _ (Zbb hl) i hi)
 | @ring w i hw hpk=>
   have e:=Qp s w i σ;refine⟨by rw [e.2.2.2.2.1,e.2.2.2.2.2.1];exact h.ma,by rw [e.2.2.2.2.2.1];exact h.le,fun m y hy j hj=>?_⟩;rw [e.2.2.2.2.2.1];rw [e.1] at hy;by_cases z:m=w
   ·subst z;rw [Zq] at hy;exact h.be _ y (ZaE hy) j hj
   ·rw [ZA z] at hy;exact h.be _ y hy j hj
theorem Zv3 (w:Nat):∀ (n:Nat) (σ:TS),∀ v,v ≠ w ->(UH s w n σ).be v=σ.be v:=by
 intro n
 induction n with
 | zero=>intro σ v _;rfl
 | succ n ih=>
   intro σ v hv;rw [UH];split
   ·rfl
   ·rw [ih _ v hv,(Qp _ _ _ _).1,ZA hv]
theorem ZpL (w:Nat):∀ (n:Nat) (σ:TS),(σ.be w).length <=n ->Qj s (UH s w n σ).ld w ((UH s w n σ).be w) ((UH s w n σ).be w).length=none:=by
 intro n
 induction n with
 | zero=>intro σ h;show Qj s σ.ld w (σ.be w) (σ.be w).length=none;rw [List.length_eq_zero_iff.1 (Nat.le_zero.1 h)];rfl
 | succ n ih=>
   intro σ h;rw [UH];split
   ·rename_i e;exact e
   ·rename_i i e;refine ih _ ?_;rw [(Qp _ _ _ _).1,Zq];have:=ZeR (W9 _ _ e);omega
theorem ZpJ:∀ k w,w < k ->Qj s (rings s k σ).ld w ((rings s k σ).be w) ((rings s k σ).be w).length=none:=by
 intro k
 induction k with
 | zero=>intro w hw;omega
 | succ k ih=>
   intro w hw;rw [rings];by_cases e:w=k
   ·subst e;exact ZpL _ _ _ (Nat.le_refl _)
   ·rw [Zv3 _ _ _ w e,ZnA];exact ih w (by omega)
theorem Znq (y:Zx):NoR s (stepW s y σ):=fun w hw=>ZpJ (mm s) w hw
theorem ZwK:∀ k,NoR s (Xf s l k).1:=by
 intro k
 induction k with
 | zero=>intro w _;rfl
 | succ k ih=>
   rw [Xf];by_cases c:Zbo s (l.getD k default) (Xf s l k).1
   ·rw [ZF c];exact Znq _
   ·rw [ZE c];exact ih
theorem ZCk (h:NoR s σ):∀ r,NoR s (drK s picks σ r):=by
 intro r
 induction r with
 | zero=>exact h
 | succ r ih=>
   rw [drK];split
   ·exact ih
   ·exact Znq _
theorem ZwO {ld:Nat ->Nat} {l:List Zd}:∀ k,0 < k ->(∀ j,j < k ->rdy s ld w (l.getD j default)) ->Qj s ld w l k ≠ none:=by
 intro k
 induction k with
 | zero=>intro h;omega
 | succ k ih=>
   intro _ hr;rw [Qj];by_cases c:rdy s ld w (l.getD k default)∧∀ j,Qj s ld w l k=some j ->Kb s (l.getD j default) < Kb s (l.getD k default)
   ·rw [ZF c];simp
   ·rw [ZE c];by_cases hk:k=0
    ·subst hk;exact absurd ⟨hr 0 (by omega),fun j hj=>by cases hj⟩ c
    ·exact ih (by omega) fun j hj=>hr j (by omega)
theorem ZrM (h:P2 s σ) (he:opens s σ= []) (hi:i < mm s * mm s):σ.ld i= (σ.sn i).length:=by
 have h1:=h.ld i;have h2:¬ i ∈ opens s σ:=by rw [he];simp
 rw [ZcT] at h2;have:¬ σ.ld i < (σ.sn i).length:=fun z=>h2 ⟨hi,z⟩
 omega
theorem ZAM (h2:P2 s σ) (hm:MB s σ) (hn:NoR s σ) (he:opens s σ= []) (hw:w < mm s):σ.be w= []:=by
 by_cases e:σ.be w= []
 ·exact e
 ·exfalso;refine ZwO (σ.be w).length (List.length_pos_iff.2 e) (fun j hj b hb hne=>?_) (hn w hw);have hi:=Ua hb hw;rw [ZrM h2 he hi];exact hm.be w _ (Xe hj) _ hi
theorem ZrN (h2:P2 s σ) (he:opens s σ= []) (hi:i < mm s * mm s):fl σ i= []:=by
 unfold fl;rw [ZrM h2 he hi];simp
theorem ZzB (hS:XO s) (h:QT s ts0 σ):Bal s σ∧MB s σ:=by
 have h0:=ok0 hS
 have hz:= (h.keep (P:=fun σ=>P1 s σ∧P2 s σ∧P3 s σ∧Bal s σ∧MB s σ) (fun _ _ ⟨a,b,c,d,e⟩ ac=>⟨a.act hS ac,b.act hS ac,c.act a ac,d.act hS a b c ac,e.act ac⟩)
  ⟨h0.p1,h0.p2,fun w _ x hx=>by simp [ts0] at hx,⟨fun p q _ _=>Nat.le_refl 0,fun p q _ _ _=>rfl,fun p q _ _ z=>absurd z (Nat.lt_irrefl 0),fun p q _ _ _=>rfl⟩,⟨fun p i _=>by show(0:Int) <=0;omega,fun j x hx=>by simp [ts0] at hx,fun m x hx=>by simp [ts0] at hx⟩⟩)
 exact hz.2.2.2
theorem Zv4 (hS:XO s) (h2:P2 s σ) (hm:MB s σ) (hn:NoR s σ) (he:opens s σ= []) (hB:Bal s σ) (hp:p < nn s) (hq:q < nn s):
 ec σ 4 p q <=ec σ 3 p q∧(0 < ec σ 4 p q ->σ.st q=3)∧(σ.st p=1 ->σ.st q=3 ->ec σ 4 p q=ec σ 3 p q):=by
 have a0:asks s σ p q=0:=by unfold asks;rw [ZrN h2 he (Ua (hS.pl hp).2 (hS.pl hq).2)];rfl
 have b0:bb s σ p q=0:=by unfold bb;rw [ZrN h2 he (Ua (hS.pl hq).2 (hS.pl hp).2),ZAM h2 hm hn he (hS.pl hp).2];rfl
 have l1:=hB.le p q hp hq;refine⟨by omega,fun z=>hB.dead p q hp hq (by omega),fun z1 z3=>?_⟩;have l2:=hB.eq p q hp hq z1;have l3:=hB.wz p q hp hq z3;omega
theorem ZuC (hF:100000 <=F) {l:List Zf} (hl:l.length <=9000) (d p o:Int):Zt8 F l d p o=some ((c3 l d p o:Nat):Int):=by
 unfold Zt8 c3;refine Y9 (fun k=>((((l.take k).countP (fun x=>((x.kZ==d) && (x.kV==p)) && (x.kX==o)):Nat):Int),(k:Int))) rfl (n:=l.length) (by omega) (fun k hk next=>?_) (fun next=>?_)
 ·have hc:=List.countP_le_length (p:=fun x:Zf=>((x.kZ==d) && (x.kV==p)) && (x.kX==o)) (l:=l.take k);rw [List.length_take] at hc;unfold Zmi;dsimp only;rw [YN hk,Cq1,Qr default hk,ZCn hk];simp only [Bq0];unfold Zi1;cases h:((((l.getD k default).kZ==d) && ((l.getD k default).kV==p)) && ((l.getD k default).kX==o)) with
  | true=>rw [Cq1,if_pos rfl,Qw (by omega),Qw (by omega)]
  | false=>rw [Cq0,if_neg (by decide),Qw (by omega)];rfl
 ·unfold Zmi;dsimp only;rw [Y1,Cq0,List.take_length]
end
end
section
structure EvS (s:Zb) (σ:TS):Prop where
 rg:∀ p,p < nn s ->σ.st p=1∨σ.st p=2∨σ.st p=3
 e5:∀ p,p < nn s ->c3 σ.ev 5 p 0=one (σ.st p ≠ 1)
 e6:∀ p,p < nn s ->c3 σ.ev 6 p 0=one (σ.st p=3)
 z5:∀ e ∈ σ.ev,e.kZ=5∨e.kZ=6 ->e.kX=0
section
variable {s:Zb} {σ τ υ:TS} {F B a b p q w i j n d r p0 q0:Nat} {x:Zd} {k:Int} {l:List Zx} {picks:List Int} {e:Zf}
theorem EvS.congr (h:EvS s σ) (h1:τ.st=σ.st) (h2:τ.ev=σ.ev):EvS s τ:= ⟨by rw [h1];exact h.rg,by rw [h1,h2];exact h.e5,by rw [h1,h2];exact h.e6,by rw [h2];exact h.z5⟩
theorem EvS.add (h:EvS s σ) (h1:τ.st=σ.st) (h2:τ.ev=σ.ev ++ [e]) (d5:e.kZ ≠ 5) (d6:e.kZ ≠ 6):EvS s τ:=by
 refine⟨by rw [h1];exact h.rg,fun p hp=>?_,fun p hp=>?_,fun y hy z=>?_⟩
 ·rw [h1,h2,Zbh,YL (fun z=>d5 z.1)];exact h.e5 p hp
 ·rw [h1,h2,Zbh,YL (fun z=>d6 z.1)];exact h.e6 p hp
 ·rw [h2] at hy;rcases List.mem_append.1 hy with hy | hy
  ·exact h.z5 y hy z
  ·rw [List.mem_singleton.1 hy] at z;rcases z with z | z
   ·exact absurd z d5
   ·exact absurd z d6
theorem EvS.see (h:EvS s σ) (p q:Nat) (n:Int):EvS s (Proofs.YtcnahmgekicbdaaGreat.see p q n σ):=by
 unfold Proofs.YtcnahmgekicbdaaGreat.see;split
 ·exact h.add (e:= ⟨2,p,q,n⟩) rfl rfl (by show(2:Int) ≠ 5;decide) (by show(2:Int) ≠ 6;decide)
 ·exact h
theorem EvS.act (h:EvS s σ) (ac:Act s σ τ):EvS s τ:=by
 cases ac with
 | @fall p0 hp0 hst=>
   have ev:(Jw p0 σ).ev=σ.ev ++ [⟨5,(p0:Int),0,0⟩]:=rfl;have st:(Jw p0 σ).st=ZY σ.st p0 2:=rfl;refine⟨fun p hp=>?_,fun p hp=>?_,fun p hp=>?_,fun y hy z=>?_⟩
   ·rw [st];by_cases c:p=p0
    ·subst c;rw [Zq];exact .inr (.inl rfl)
    ·rw [ZA c];exact h.rg p hp
   ·rw [ev,st,Zbh,h.e5 p hp];by_cases c:p=p0
    ·subst c;rw [Zq,YL (fun z=>z hst),QK ⟨rfl,rfl,rfl⟩,QK (by decide)]
    ·rw [ZA c,YL (c:= (5:Int)=5∧(p0:Int)=p∧(0:Int)=0) (fun z=>c (by have:=z.2.1;omega))];rfl
   ·rw [ev,st,Zbh,h.e6 p hp,YL (c:= (5:Int)=6∧(p0:Int)=p∧(0:Int)=0) (fun z=>by have:=z.1;omega)];by_cases c:p=p0
    ·subst c;rw [Zq,YL (by rw [hst];decide),YL (by decide)]
    ·rw [ZA c];rfl
   ·rw [ev] at hy;rcases List.mem_append.1 hy with hy | hy
    ·exact h.z5 y hy z
    ·rw [List.mem_singleton.1 hy]
 | UG=>exact h.congr rfl rfl
 | @die p0 hp0 hst hA=>
   have sA:=Qg (s:=s) p0 σ
   have hA:EvS s (Z6 s p0 σ):=by
    refine⟨fun p hp=>?_,fun p hp=>?_,fun p hp=>?_,fun y hy z=>?_⟩
    ·rw [sA.1];by_cases c:p=p0
     ·subst c;rw [Zq];exact .inr (.inr rfl)
     ·rw [ZA c];exact h.rg p hp
    ·rw [sA.2.2.2.2.1,sA.1,Zbh,h.e5 p hp,YL (c:= (6:Int)=5∧(p0:Int)=p∧(0:Int)=0) (fun z=>by have:=z.1;omega)];by_cases c:p=p0
     ·subst c;rw [Zq,QK (by rw [hst];decide),QK (by decide)]
     ·rw [ZA c];rfl
    ·rw [sA.2.2.2.2.1,sA.1,Zbh,h.e6 p hp];by_cases c:p=p0
     ·subst c;rw [Zq,YL (by rw [hst];decide),QK ⟨rfl,rfl,rfl⟩,QK rfl]
     ·rw [ZA c,YL (c:= (6:Int)=6∧(p0:Int)=p∧(0:Int)=0) (fun z=>c (by have:=z.2.1;omega))];rfl
    ·rw [sA.2.2.2.2.1] at hy;rcases List.mem_append.1 hy with hy | hy
     ·exact h.z5 y hy z
     ·rw [List.mem_singleton.1 hy]
   unfold Qm;split
   ·exact hA
   ·split
    ·exact hA.congr rfl rfl
    ·exact hA.congr rfl rfl
 | @ZaW p q=>exact(h.add (τ:=kK p q σ) (e:= ⟨1,p,q,σ.sd⟩) rfl rfl (by show(1:Int) ≠ 5;decide) (by show(1:Int) ≠ 6;decide)).see _ _ _
 | @ZaV p q=>exact h.add (e:= ⟨1,p,q,σ.sd⟩) rfl rfl (by show(1:Int) ≠ 5;decide) (by show(1:Int) ≠ 6;decide)
 | @ZaQ p q=>have z:=Y8 (s:=s) p q (tell 3 p q 0 σ);exact(h.add (τ:=tell 3 p q 0 σ) (e:= ⟨3,p,q,0⟩) rfl rfl (by show(3:Int) ≠ 5;decide) (by show(3:Int) ≠ 6;decide)).congr z.1 z.2.2.2.2.2
 | @ZaP p q=>exact h.add (e:= ⟨3,p,q,0⟩) rfl rfl (by show(3:Int) ≠ 5;decide) (by show(3:Int) ≠ 6;decide)
 | Za5=>exact EvS.see (σ:=drop1 _ σ) (h.congr rfl rfl) _ _ _
 | @Za8 a b p q=>have z:=Y8 (s:=s) p q (drop1 (li s a b) σ);exact h.congr z.1 z.2.2.2.2.2
 | Za6=>exact h.congr rfl rfl
 | Zah=>exact h.congr rfl rfl
 | Za7=>exact h.congr rfl rfl
 | @ring w i=>
   unfold rung;split
   ·exact h.add (e:= ⟨4,_,_,0⟩) rfl rfl (by show(4:Int) ≠ 5;decide) (by show(4:Int) ≠ 6;decide)
   ·exact h.congr rfl rfl
theorem Zc6 (hS:XO s) (kn:Kn s σ) (ki:KI s σ) (hq:q < nn s) (h3:σ.st q=3):∀ (j p:Nat),p < nn s ->up s j (p:Int)= (q:Int) ->σ.st p=3:=by
 intro j
 induction j with
 | zero=>intro p hp e;have:p=q:=by have:(p:Int)=q:=e;omega
         rw [this];exact h3
 | succ j ih=>
   intro p hp e;have e':(if(p:Int) < 0 then(p:Int) else up s j (inn s (p:Int)))= (q:Int):=e;rw [if_neg (by omega)] at e';by_cases h0:inn s (p:Int) < 0
   ·rw [ZhG h0] at e';omega
   ·obtain⟨eq,hq'⟩:=QB hS hp h0;rw [eq] at e';have h3':=ih _ hq' e';have hk:=ki.k4 _ hq' h3' p hp eq;obtain⟨k,ek,_,_,hd⟩:=kn.rng _ hq' _ hk;have:p=k:=by omega
    rw [this];exact hd
end
end
end Go.Proofs.YtcnahmgekicbdaaGreat
end
