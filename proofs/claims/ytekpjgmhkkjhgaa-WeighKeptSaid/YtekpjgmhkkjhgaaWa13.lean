/- Kept Part 13 of the proof. -/
import Derived.Test.YtekpjgmhkkjhgaaWa12
set_option linter.all false
set_option maxHeartbeats 2000000
section
namespace Go.Proofs.Ytekpjgmhkkjhgaa
open Go.Lf
theorem CI.blank (n:Int):CI (blank n):= .inr ⟨rfl,rfl⟩
theorem Zro {F:Nat} {w:Za} {st:Store} {m:Nat} {n:Int} (s:Ql w st) (u:UK st.cells) (hm:m < w.cells.length) (Yx:U7 (rowOf w m)) (hn:w.notes.length < 1000) (Zv x:Int):∃ st',Zg6 st m n Zv x=some st'∧Ql (XV w m n Zv x) st'∧UK st'.cells:=by
 obtain⟨st',h1,h2⟩:=ZsT s hm Yx hn Zv x (n:=n);refine⟨st',h1,h2,?_⟩;unfold Zg6 ZaP at h1;cases ht:(Zv != (m:Int))
 ·rw [ht,Cq0,Ze7 s hm,Bq0] at h1;cases h1;exact u.YL _ _
 ·rw [ht,Cq1,s.notes,XJ (by simp;omega) (by decide)] at h1;cases h1;exact u
theorem ZsU {w:Za} {m:Nat} {n:Int} (hm:m < w.cells.length) (Yx:U7 (rowOf w m)) (Zv x:Int) (hi:CI (look (rowOf w m) n)):CI (look (rowOf (XV w m n Zv x) m) n):=by
 rcases Zds hm n Zv x with h | h <;> rw [h]
 ·exact hi
 ·rw [Q9 (by rw [ZaM _ Yx,if_pos (by exact(J7 _ _).symm)])];exact hi
theorem ZpX {F:Nat} (hF:100 <=F) {w:Za} {st:Store} (s:Ql w st) (u:UK st.cells) (sm:Small w) {m:Nat} (hm:m < w.cells.length) (hrl:(rowOf w m).length < 900) (hnl:w.notes.length < 900) (x:Zd) (hto:x.Zv= (m:Int)) (Yx:U7 (rowOf w m)) (hi:CI (look (rowOf w m) x.name)) (ha:Asc w.freed) (hf:w.freed.length <=11):
 ∃ st',ZvC F st x=some st'∧Ql (Jc w x) st'∧UK st'.cells:=by
 have hln:=J7 (rowOf w m) x.name;have hat:∀ {d:Zb},d.name=x.name ->At1 (cw w m (put d (rowOf w m))) m x.name:=fun hd=>At1.put sm hm Yx (by omega) (by omega) hd
 have hst:∀ {d:Zb},d.name=x.name ->Ql (cw w m (put d (rowOf w m))) ⟨st.machines,st.names,YL st.cells ⟨m,x.name⟩ d,st.notes,st.freed⟩:=fun hd=>s.put hm Yx hd
 unfold ZvC Jc;rw [hto,Ze7 s hm];simp only [Bq0,Int.toNat_natCast];obtain⟨c,hcc⟩:∃ c,look (rowOf w m) x.name=c:= ⟨_,rfl⟩
 rw [hcc] at hln hi;simp only [hcc]
 have hlt:decide (c.from_ < 0)= (c.from_==-1):=by
  rcases hi with⟨h,_⟩ | ⟨h,_⟩
  ·rw [decide_eq_false (by omega)];symm;simp;omega
  ·rw [decide_eq_true (by omega),h];rfl
 have hge:(decide (c.from_ >=0) && (c.from_==x.via))= ((!c.root && decide (c.from_ >=0)) && (c.from_==x.via)):=by
  rcases hi with⟨h,h2⟩ | ⟨h,_⟩
  ·rw [h2];simp
  ·rw [decide_eq_false (by omega)];simp
 cases hk1:(x.kind==1)
 ·simp only [Cq0];cases hk2:(x.kind==2)
  ·simp only [Cq0];have h1:=hst (d:= ⟨c.name,true,-1,0,ZF (c.out + 16),c.use⟩) hln;have hA:=hat (d:= ⟨c.name,true,-1,0,ZF (c.out + 16),c.use⟩) hln;have u1:=u.YL (⟨m,x.name⟩:Ze) (⟨c.name,true,-1,0,ZF (c.out + 16),c.use⟩:Zb);have hd:(⟨c.name,true,-1,0,ZF (c.out + 16),c.use⟩:Zb).name=x.name:=hln;have hlk:=Q9 (ZiG hm Yx hd);cases hfr:decide (c.from_ >=0)
   ·simp only [Cq0];unfold Zf5;rw [hto];obtain⟨d,hdd⟩:=hA.has;obtain⟨st',q1,q2,q3⟩:=ZaE hF h1 u1 hA.hm (by show w.notes.length < 1000;omega) hdd (by rw [← Q9 hdd,hlk];exact .inr ⟨rfl,rfl⟩) ha hf;rw [show st.notes=w.notes from s.notes,show st.freed=w.freed from s.freed] at q1;rw [show st.notes=w.notes from s.notes,show st.freed=w.freed from s.freed];refine⟨st',(congrArg (fun o=>Option.bind o fun x61=>some x61) q1).trans rfl,?_,q3⟩;rw [Q9 hdd];exact q2
   ·simp only [Cq1];obtain⟨st1,p1,p2,p3⟩:=Zro (F:=F) (n:=x.name) h1 u1 hA.hm hA.Yx (by show w.notes.length < 1000;omega) c.from_ c.has;rw [p1,Bq0];have hbh:=Zv6 hA.sm hA.hm hA.Yx (by have:=Zhs (c:= (⟨c.name,true,-1,0,ZF (c.out + 16),c.use⟩:Zb)) (rowOf w m);rw [JE hm];omega) (by show w.notes.length < 945;omega) c.from_ c.has hA.has;have hci:CI (look (rowOf (XV (cw w m (put (⟨c.name,true,-1,0,ZF (c.out + 16),c.use⟩:Zb) (rowOf w m))) m x.name c.from_ c.has) m) x.name):=ZsU hA.hm hA.Yx _ _ (by rw [hlk];exact .inr ⟨rfl,rfl⟩);obtain⟨d,hdd⟩:=hbh.has
    have hfree:(XV (cw w m (put (⟨c.name,true,-1,0,ZF (c.out + 16),c.use⟩:Zb) (rowOf w m))) m x.name c.from_ c.has).freed=w.freed:=by
     unfold XV;cases (c.from_ != (m:Int)) <;> rfl
    obtain⟨st',q1,q2,q3⟩:=ZaE hF p2 p3 hbh.hm (by have:=hbh.nl;omega) hdd (by rw [← Q9 hdd];exact hci) (by rw [hfree];exact ha) (by rw [hfree];exact hf);unfold Zf5;rw [hto];refine⟨st',(congrArg (fun o=>Option.bind o fun x61=>some x61) q1).trans rfl,?_,q3⟩;rw [Q9 hdd];exact q2
  ·simp only [Cq1];have h1:=hst (d:= ⟨c.name,c.root,c.from_,c.has,ZF (c.out - x.w),c.use⟩) hln;have hd:(⟨c.name,c.root,c.from_,c.has,ZF (c.out - x.w),c.use⟩:Zb).name=x.name:=hln;have u1:=u.YL (⟨m,x.name⟩:Ze) (⟨c.name,c.root,c.from_,c.has,ZF (c.out - x.w),c.use⟩:Zb);obtain⟨st',q1,q2,q3⟩:=ZaE hF h1 u1 (hat hd).hm (by show w.notes.length < 1000;omega) (ZiG hm Yx hd) hi ha hf;exact⟨st',(congrArg (fun o=>Option.bind o fun x61=>some x61) q1).trans rfl,q2,q3⟩
 ·simp only [Cq1];rw [hlt,hge];cases hc1:((!c.root && (c.from_==-1)) && (x.via != (m:Int)))
  ·simp only [Cq0];cases hc2:((!c.root && decide (c.from_ >=0)) && (c.from_==x.via))
   ·simp only [Cq0];have h1:=hst (d:= ⟨c.name,c.root,c.from_,c.has,c.out,true⟩) hln;have hA:=hat (d:= ⟨c.name,c.root,c.from_,c.has,c.out,true⟩) hln;obtain⟨st1,p1,p2,p3⟩:=Zro (F:=F) (n:=x.name) h1 (u.YL _ _) hA.hm hA.Yx (by show w.notes.length < 1000;omega) x.via x.w;exact⟨st1,(congrArg (fun o=>Option.bind o fun x18=>some x18) p1).trans rfl,p2,p3⟩
   ·simp only [Cq1];exact⟨_,rfl,hst (d:= ⟨c.name,c.root,c.from_,ZF (c.has + x.w),c.out,true⟩) hln,u.YL _ _⟩
  ·simp only [Cq1];exact⟨_,rfl,hst (d:= ⟨c.name,c.root,x.via,x.w,c.out,true⟩) hln,u.YL _ _⟩
def ZeF (w:Za) (d:Zn) (m:Nat) (c:Zb):Za:=
 bif decide (c.from_ >=0) && decide (c.has >=2) then sent (cw w m (put ⟨c.name,c.root,c.from_,ZF (c.has - ZF (c.has.tdiv 2)),c.out,c.use⟩ (rowOf w m))) ⟨1,d.Zv,d.name,c.from_,ZF (c.has.tdiv 2)⟩
 else sent (cw w m (put ⟨c.name,c.root,c.from_,c.has,ZF (c.out + 16),c.use⟩ (rowOf w m))) ⟨1,d.Zv,d.name,d.at_,16⟩
theorem ZIS (a:Int):ZrQ a 2=some (ZF (a.tdiv 2)):=rfl
theorem ZtH {w:Za} {st:Store} (s:Ql w st) (u:UK st.cells) {m:Nat} (hm:m < w.cells.length) (Yx:U7 (rowOf w m)) (hnl:w.notes.length < 1000) (d:Zn) (hat:d.at_= (m:Int)) {c:Zb} (hc:Kr (rowOf w m) d.name=some c):
 ∃ st',ZnK st d=some st'∧Ql (ZeF w d m c) st'∧UK st'.cells:=by
 have hn:=Qg hc;unfold ZnK ZeF;rw [hat,Ze7 s hm,Q9 hc,Bq0];simp only [ZIS,Bq0];cases (decide (c.from_ >=0) && decide (c.has >=2))
 ·simp only [Cq0];unfold Zdm;rw [hat];have h1:=s.put hm Yx (c:= ⟨c.name,c.root,c.from_,c.has,ZF (c.out + 16),c.use⟩) hn;obtain⟨st',q1,q2⟩:=h1.sent (by show w.notes.length < 1000;exact hnl) ⟨1,d.Zv,d.name,(m:Int),16⟩;refine⟨st',(congrArg (fun o=>Option.bind o fun x21=>some x21) q1).trans rfl,q2,?_⟩;unfold ZaP at q1;dsimp only at q1;rw [s.notes,XJ (by simp;omega) (by decide)] at q1;cases q1;exact u.YL _ _
 ·simp only [Cq1];unfold Zdm;rw [hat];have h1:=s.put hm Yx (c:= ⟨c.name,c.root,c.from_,ZF (c.has - ZF (c.has.tdiv 2)),c.out,c.use⟩) hn;obtain⟨st',q1,q2⟩:=h1.sent (by show w.notes.length < 1000;exact hnl) ⟨1,d.Zv,d.name,c.from_,ZF (c.has.tdiv 2)⟩;refine⟨st',(congrArg (fun o=>Option.bind o fun x21=>some x21) q1).trans rfl,q2,?_⟩;unfold ZaP at q1;dsimp only at q1;rw [s.notes,XJ (by simp;omega) (by decide)] at q1;cases q1;exact u.YL _ _
theorem KZ {α:Type} {xs:List α} {a b:Nat} (h1:a <=b) (h2:b <=xs.length):slL xs (a:Int) (b:Int)=some ((xs.take b).drop a):=by
 unfold slL;rw [decide_eq_true (by omega),decide_eq_true (by omega),decide_eq_true (by omega)];simp
theorem Zt1 {l:List Zd} {k:Nat} (hk:k < l.length) (hl:l.length < 1000):ZnJ l (k:Int) (ZF ((k:Int) + 1))=some (l.take k ++ l.drop (k + 1)):=by
 unfold ZnJ;have e0:slL l 0 (k:Int)=some ((l.take k).drop 0):=KZ (a:=0) (Nat.zero_le k) (by omega);rw [Xk (by omega),KZ (by omega) (by omega),Bq0,e0,KZ (by omega) (Nat.le_refl _)];have:((k:Int)== ((k + 1:Nat):Int))=false:=by simp;omega
 rw [this,Cq0];simp only [Bq0,List.drop_zero,List.take_length];rw [XJ (by simp;omega) (by decide)]
 rfl
def ZfI (w:Za):Zb:= ⟨w.names,true,-1,0,0,true⟩
def ZeL (w:Za) (m:Nat):Za:= ⟨w.cells.set m (put (ZfI w) (rowOf w m)),w.notes,ZF (w.names + 1),w.freed⟩
theorem Zui {w:Za} {st:Store} (s:Ql w st) (u:UK st.cells) {m:Nat} (hm:m < w.cells.length) (Yx:U7 (rowOf w m)):Ql (ZeL w m) ⟨st.machines,ZF (st.names + 1),YL st.cells ⟨m,w.names⟩ (ZfI w),st.notes,st.freed⟩∧UK (YL st.cells (⟨m,w.names⟩:Ze) (ZfI w)):=by
 have h:=s.put hm Yx (c:=ZfI w) (n:=w.names) rfl;refine⟨⟨?_,by show ZF (st.names + 1)=ZF (w.names + 1);rw [s.n],s.notes,s.freed,?_⟩,u.YL _ _⟩
 ·show st.machines=_;rw [s.m];unfold ZeL;simp
 ·exact h.cells
def ZaR (c:Zb):Zb:= ⟨c.name,c.root,c.from_,c.has,c.out,false⟩
def Zha (w:Za) (m:Nat) (n:Int) (c:Zb):Za:=XD (cw w m (put (ZaR c) (rowOf w m))) m n (ZaR c)
theorem ZsE {F:Nat} (hF:100 <=F) {w:Za} {st:Store} (s:Ql w st) (u:UK st.cells) {m:Nat} (hm:m < w.cells.length) (Yx:U7 (rowOf w m)) (hnl:w.notes.length < 1000) {n:Int} {c:Zb} (hc:Kr (rowOf w m) n=some c) (hi:CI c) (ha:Asc w.freed) (hf:w.freed.length <=11):
 ∃ st',Zg5 F ⟨st.machines,st.names,YL st.cells ⟨m,n⟩ (ZaR c),st.notes,st.freed⟩ m n=some st'∧Ql (Zha w m n c) st'∧UK st'.cells:=by
 have hn:=Qg hc;have h1:=s.put hm Yx (c:=ZaR c) (n:=n) hn;exact ZaE hF h1 (u.YL _ _) (by rw [Yq];exact hm) hnl (ZiG hm Yx (show(ZaR c).name=n from hn)) hi ha hf
def goC (c:Zb) (Zv:Int):Zb:= ⟨c.name,false,Zv,16,c.out,c.use⟩
def goW (w:Za) (d:Zn) (m:Nat) (c:Zb):Za:=sent (cw w m (put (goC c d.Zv) (rowOf w m))) ⟨3,d.Zv,d.name,0,16⟩
theorem Zya {w:Za} {st:Store} (s:Ql w st) (u:UK st.cells) {m:Nat} (hm:m < w.cells.length) (Yx:U7 (rowOf w m)) (hnl:w.notes.length < 1000) (d:Zn) {c:Zb} (hc:Kr (rowOf w m) d.name=some c):
 ∃ st',ZaP ⟨st.machines,st.names,YL st.cells ⟨m,d.name⟩ (goC c d.Zv),st.notes,st.freed⟩ ⟨3,d.Zv,d.name,0,16⟩=some st'∧Ql (goW w d m c) st'∧UK st'.cells:=by
 have hn:=Qg hc;have h1:=s.put hm Yx (c:=goC c d.Zv) (n:=d.name) hn;obtain⟨st',q1,q2⟩:=h1.sent (by show w.notes.length < 1000;exact hnl) ⟨3,d.Zv,d.name,0,16⟩;refine⟨st',q1,q2,?_⟩;unfold ZaP at q1;dsimp only at q1;rw [s.notes,XJ (by simp;omega) (by decide)] at q1;cases q1;exact u.YL _ _
def YS (w:Za) (d:Zn) (m:Nat):Int:=
 bif d.Z6==1 then(bif decide (w.names >=12) then 3 else 0) else bif d.Z6==5 then(bif decide (d.at_ >= (w.notes.length:Int)) then 5 else 0) else
  match Kr (rowOf w m) d.name with
  | none=>7
  | some c=>bif d.Z6==4 then(bif !c.root then 7 else 0) else(bif !c.use then 7 else 0)
theorem ZpT {w:Za} {st:Store} (s:Ql w st) {m:Nat} (hm:m < w.cells.length) (d:Zn) (hat:d.Z6=1∨d.Z6=5∨d.at_= (m:Int)):ZnL st d=some (bif YS w d m==0 then .ok () else .Jq (YS w d m)):=by
 unfold ZnL YS ZaH;rw [Bq0,s.n,s.notes];cases h1:(d.Z6==1)
 ·cases h5:(d.Z6==5)
  ·have ha:d.at_= (m:Int):=by
    rcases hat with h | h | h
    ·rw [h] at h1;cases h1
    ·rw [h] at h5;cases h5
    ·exact h
   rw [ha,s.get hm];simp only [Cq0];cases hf:Kr (rowOf w m) d.name with
   | none=>
     cases (d.Z6==4) <;> rfl
   | some c=>
     cases (d.Z6==4)
     ·cases hu:c.use <;> simp [hu]
     ·cases hr:c.root <;> simp [hr]
  ·simp only [Cq0,Cq1];cases decide (d.at_ >= (w.notes.length:Int)) <;> rfl
 ·simp only [Cq1];cases decide (w.names >=12) <;> rfl
theorem Zxq {F:Nat} (hF:1000 <=F) {w:Za} (sm:Small w):∃ cs,ZiP F w=some ⟨(w.cells.length:Int),w.names,cs,w.notes,w.freed⟩∧UK cs:=by
 have hc:=sm.cells;have hn:=sm.notes;have hf:=sm.freed;unfold ZiP ZpB ZpA;rw [XJ (by simp only [List.length_nil];omega) (by decide),XJ (by simp only [List.length_nil];omega) (by decide)];simp only [Bq0,List.nil_append]
 have inner:∀ (m:Nat) (row:List Zb) (next:Int×(List (Ze×Zb)) ->Option Store) (l:List (Ze×Zb)),w.cells[m]? =some row ->UK l ->∃ l',UK l'∧loop F (Za3 m next row) (0,l)=next (ZF ((m:Int) + 1),l'):=by
  intro m row next l hm hI;have hr:=sm.rows row (List.mem_of_getElem? hm)
  have e:=Y1 row (fun v s=>(v,s)) (Za3 m next row) (fun _ c s nx=>nx (YL s (Ze.mk m c.name) c)) (fun s=>next (ZF ((m:Int) + 1),s)) (by omega) (fun k y s nx hy hk=>by
   simp only [Za3,Z0,hy,hk,decide_true,Cq1,Bq0]) (fun s nx=>by simp only [Za3];rw [decide_eq_false (by omega),Cq0]) (by omega:row.length < F) l
  obtain⟨e2,hJ⟩:=Qo (d:=fun s=>next (ZF ((m:Int) + 1),s)) (g:=fun(_:Nat) (c:Zb) s nx=>nx (YL s (Ze.mk m c.name) c)) (fun _ c s=>YL s (Ze.mk m c.name) c) (fun _ s=>UK s) (l:=row) (i:=0) (s:=l) hI (fun k c s nx hk hJ=>⟨rfl,hJ.YL _ _⟩);exact⟨_,hJ,e.trans e2⟩
 have key:∀ (d m:Nat) (F':Nat) (l:List (Ze×Zb)),m + d=w.cells.length ->d < F' ->UK l ->∃ cs,loop F' (Za4 F w w.notes w.freed) ((m:Int),l)=some ⟨(w.cells.length:Int),w.names,cs,w.notes,w.freed⟩∧UK cs:=by
  intro d
  induction d with
  | zero=>
    intro m F' l hm hF' hI;obtain⟨F',rfl⟩:=Ne0 (n:=F') (by omega);refine⟨l,?_,hI⟩;rw [Yl];simp only [Za4];rw [decide_eq_false (by omega),Cq0]
  | succ d ih=>
    intro m F' l hm hF' hI;obtain⟨F',rfl⟩:=Ne0 (n:=F') (by omega);have hr:=Qz (w:=w) (m:=m) (by omega);obtain⟨l',q1,q2⟩:=inner m _ (loop F' (Za4 F w w.notes w.freed)) l hr hI;obtain⟨cs,q3,q4⟩:=ih (m + 1) F' l' (by omega) (by omega) q1;refine⟨cs,?_,q4⟩;rw [Yl];simp only [Za4];rw [decide_eq_true (by omega),Cq1,Z0,hr,Bq0,q2,Xk (by omega),q3]
 exact key w.cells.length 0 F [] (by omega) (by omega) UK.nil
def YW (w:Za) (n:Int):CV:=fun a=>if 0 <=a∧a < (w.cells.length:Int) then cellOf w a.toNat n else none
def QB (w:Za) (n:Int):List Zd:=w.notes.filter fun x=>x.name==n
def Mst (M:Nat) (cv:CV) (ns:List Zd):Prop:=∀ a:Int,0 <=a ->a < M ->JX cv ns a <=1000000
structure Rt (w:Za):Prop where
 c1:1 <=w.cells.length
 c6:w.cells.length <=6
 n0:0 <=w.names
 n12:w.names <=12
 nts:w.notes.length <=80
 fr:w.freed.Pairwise (· < ·)
 frr:∀ x ∈ w.freed,0 <=x∧x < w.names
 Yx:∀ m,m < w.cells.length ->U7 (rowOf w m)
 cn:∀ m,m < w.cells.length ->∀ c ∈ rowOf w m,Yn w c.name=true∧(c.use=true∨c.out ≠ 0)
 nn:∀ x ∈ w.notes,Yn w x.name=true
 nm:∀ n,Yn w n=true ->∃ h,Nm w.cells.length n (YW w n) (QB w n) h∧Mst w.cells.length (YW w n) (QB w n)
section
variable {w:Za} {n:Int}
theorem Jb {m:Nat} (hm:m < w.cells.length) (n:Int):YW w n (m:Int)=cellOf w m n:=by
 unfold YW;rw [if_pos (by omega)]
 rfl
theorem X6 {a:Int} {c:Zb} (h:YW w n a=some c):(0 <=a∧a < (w.cells.length:Int))∧cellOf w a.toNat n=some c:=by
 unfold YW at h;split at h
 ·rename_i z;exact⟨z,h⟩
 ·cases h
theorem ZdX (w:Za) (m n:Int):YD (Yu m) (QB w n)=16 * (ZcG w m n:Int):=by
 unfold QB ZcG
 induction w.notes with
 | nil=>rfl
 | cons x l ih=>
   rw [List.countP_cons,List.filter_cons];by_cases hn:x.name=n
   ·have:(x.name==n)=true:=by simp [hn]
    rw [this,if_pos rfl];simp only [YD,ih,Bool.and_true];unfold Yu;by_cases z:x.kind=3∧x.Zv=m
    ·rw [if_pos z,if_pos (by simp [z.1,z.2])];omega
    ·rw [if_neg z,if_neg (by simpa using z)];omega
   ·have:(x.name==n)=false:=by simp [hn]
    rw [this,if_neg (by simp),ih];simp
theorem Zaj (w:Za) {m:Nat} (hm:m < w.cells.length) (n:Int):Ya w m n=ZF (JX (YW w n) (QB w n) m):=by
 unfold Ya JX;rw [ZdX,Jb hm];unfold Zqv XP;congr 1;cases cellOf w m n <;> dsimp only <;> omega
theorem Zpi (m n:Int) (l:List Zd) (t:Int):l.foldl (fun s x=>ZgZ m n x s) (ZF t)=ZF (t + YD (Ju m) (l.filter fun x=>x.name==n)):=by
 induction l generalizing t with
 | nil=>simp [YD]
 | cons x l ih=>
   rw [List.foldl_cons,List.filter_cons];by_cases hn:x.name=n
   ·have hb:(x.name==n)=true:=by simp [hn]
    rw [hb,if_pos rfl];unfold ZgZ;rw [hb,Bool.true_and];simp only [YD];rw [show Ju m x=if(x.kind=1∧x.via=m)∨(x.kind=2∧x.Zv=m) then x.w else 0 from rfl];by_cases z:(x.kind=1∧x.via=m)∨(x.kind=2∧x.Zv=m)
    ·have:((x.kind==1) && (x.via==m) || (x.kind==2) && (x.Zv==m))=true:=by simpa using z
     rw [this,Cq1,Zhq,if_pos z];refine(ih _).trans ?_;congr 1;omega
    ·have:((x.kind==1) && (x.via==m) || (x.kind==2) && (x.Zv==m))=false:=by
      rw [← Bool.not_eq_true];simpa using z
     rw [this,Cq0,if_neg z];refine(ih _).trans ?_;congr 1;omega
   ·have hb:(x.name==n)=false:=by simp [hn]
    rw [hb,if_neg (by simp)];have:ZgZ m n x (ZF t)=ZF t:=by unfold ZgZ;rw [hb];rfl
    rw [this];exact ih t
theorem Zpj (w:Za) (m n:Int) {M:Nat} (hM:M <=w.cells.length):(List.range M).foldl (fun s k=>Znq w m n k s) 0=ZF (U3 (fun k=>JW m (YW w n k)) M):=by
 induction M with
 | zero=>rfl
 | succ M ih=>
   rw [List.range_succ,List.foldl_append,ih (by omega)];simp only [List.foldl_cons,List.foldl_nil,U3];rw [Jb (by omega)];unfold Znq JW;cases cellOf w M n with
   | none=>simp
   | some c=>
     dsimp only;by_cases z:c.from_=m
     ·rw [if_pos z,show(c.from_==m)=true by simp [z],Cq1,Zhq]
     ·rw [if_neg z,show(c.from_==m)=false by simp [z],Cq0];simp
theorem ZfR (w:Za) (m n:Int):Xv w m n=ZF (QE w.cells.length (YW w n) (QB w n) m):=by
 unfold Xv QE QB;rw [Zpj w m n (Nat.le_refl _),Zpi]
theorem ZhY {f:Zd ->Int} {l:List Zd} {B:Int} (h:∀ x ∈ l,0 <=f x∧f x <=B):0 <=YD f l∧YD f l <=B * (l.length:Int):=by
 induction l with
 | nil=>simp [YD]
 | cons x l ih=>
   have h1:=h x (by simp);have h2:=ih fun y hy=>h y (by simp [hy])
   simp only [YD,List.length_cons]
   have:B * ((l.length + 1:Nat):Int)=B * (l.length:Int) + B:=by
    rw [Int.natCast_add,Int.mul_add];simp
   omega
theorem ZoE {f:Nat ->Int} {B:Int} {M:Nat} (h:∀ m,m < M ->0 <=f m∧f m <=B):0 <=U3 f M∧U3 f M <=B * (M:Int):=by
 induction M with
 | zero=>simp [U3]
 | succ M ih=>
   have h1:=h M (by omega);have h2:=ih fun m hm=>h m (by omega)
   simp only [U3]
   have:B * ((M + 1:Nat):Int)=B * (M:Int) + B:=by
    rw [Int.natCast_add,Int.mul_add];simp
   omega
theorem KR {m:Int} {c:Zb} (h:Wx w m c=true):Yn w c.name=true∧(-16 <=c.out∧c.out <=1000000)∧(c.use=true∨c.out ≠ 0)∧
 ((c.root=false∧0 <=c.from_∧c.from_ < (w.cells.length:Int)∧c.from_ ≠ m∧1 <=c.has∧c.has <=1000000)∨(c.from_=-1∧c.has=0)):=by
 unfold Wx K9 at h;rw [Ba0,Ba0,Ba0] at h;obtain⟨⟨⟨h1,h2⟩,h3⟩,h4⟩:=h;refine⟨h1,by simpa using h2,?_,?_⟩
 ·simpa using h3
 ·cases hr:(c.root || c.from_==-1)
  ·rw [hr,Cq0] at h4;simp at h4 hr;exact .inl ⟨hr.1,by omega,by omega,h4.1.2,by omega,by omega⟩
  ·rw [hr,Cq1] at h4;simp at h4;exact .inr h4
theorem Zv1 {m:Int} {c:Zb} (h1:Yn w c.name=true) (h2:-16 <=c.out∧c.out <=1000000) (h3:c.use=true∨c.out ≠ 0)
 (h4:(c.root=false∧0 <=c.from_∧c.from_ < (w.cells.length:Int)∧c.from_ ≠ m∧1 <=c.has∧c.has <=1000000)∨(c.from_=-1∧c.has=0)):Wx w m c=true:=by
 unfold Wx K9;rw [Ba0,Ba0,Ba0];refine⟨⟨⟨h1,by simpa using h2⟩,by simpa using h3⟩,?_⟩;rcases h4 with⟨q1,q2,q3,q4,q5,q6⟩ | ⟨q1,q2⟩
 ·have:(c.root || c.from_==-1)=false:=by simp [q1];omega
  rw [this,Cq0];simp;exact⟨⟨⟨q2,q3⟩,q4⟩,q5,q6⟩
 ·have:(c.root || c.from_==-1)=true:=by simp [q1]
  rw [this,Cq1];simp [q1,q2]
theorem Zbd {x:Zd} (h:Wj w x=true):(0 <=x.Zv∧x.Zv < (w.cells.length:Int))∧Yn w x.name=true∧(1 <=x.w∧x.w <=1000000)∧
 ((x.kind=1∧0 <=x.via∧x.via < (w.cells.length:Int))∨(x.kind=2∧x.via=0)∨(x.kind=3∧x.via=0∧x.w=16)):=by
 unfold Wj K9 at h;rw [Ba0,Ba0,Ba0] at h;obtain⟨⟨⟨h1,h2⟩,h3⟩,h4⟩:=h;refine⟨by simpa using h1,h2,by simpa using h3,?_⟩;cases k1:(x.kind==1)
 ·rw [k1,Cq0] at h4;cases k2:(x.kind==2)
  ·rw [k2,Cq0] at h4;simp at h4;exact .inr (.inr ⟨h4.1.1,h4.1.2,h4.2⟩)
  ·rw [k2,Cq1] at h4;exact .inr (.inl ⟨by simpa using k2,by simpa using h4⟩)
 ·rw [k1,Cq1] at h4;exact .inl ⟨by simpa using k1,by simpa using h4⟩
theorem Zt7 {x:Zd} (h1:0 <=x.Zv∧x.Zv < (w.cells.length:Int)) (h2:Yn w x.name=true) (h3:1 <=x.w∧x.w <=1000000)
 (h4:(x.kind=1∧0 <=x.via∧x.via < (w.cells.length:Int))∨(x.kind=2∧x.via=0)∨(x.kind=3∧x.via=0∧x.w=16)):Wj w x=true:=by
 unfold Wj K9;rw [Ba0,Ba0,Ba0];refine⟨⟨⟨by simpa using h1,h2⟩,by simpa using h3⟩,?_⟩;rcases h4 with⟨k,v⟩ | ⟨k,v⟩ | ⟨k,v,u⟩
 ·rw [k];simpa using v
 ·rw [k];simpa using v
 ·rw [k];simp [v,u]
theorem Shp.ZgL (sh:Shp w) {m:Nat} (hm:m < w.cells.length) (n:Int):Ya w m n=JX (YW w n) (QB w n) m:=by
 rw [Zaj w hm];have h1:=ZhY (f:=Yu (m:Int)) (l:=QB w n) (B:=16) (fun x _=>by unfold Yu;split <;> omega);have h2:(QB w n).length <=w.notes.length:=List.length_filter_le _ _;have h3:=sh.notes
 have h4:-16 <=XP (YW w n m)∧XP (YW w n m) <=1000000:=by
  rw [Jb hm];cases e:cellOf w m n with
  | none=>simp [XP]
  | some c=>
    obtain⟨row,k,r1,r2⟩:=Zaq e;exact(KR (sh.cell m row k c r1 r2).1).2.1
 unfold JX;rw [YX] <;> omega
theorem Shp.Zh0 (sh:Shp w) {m:Nat} (hm:m < w.cells.length) (n:Int):Xv w m n=QE w.cells.length (YW w n) (QB w n) m:=by
 rw [ZfR w]
 have h1:=ZhY (f:=Ju (m:Int)) (l:=QB w n) (B:=1000000) (fun x hx=>by
  have:=Zbd (sh.note x (List.mem_filter.1 hx).1);unfold Ju;split <;> omega)
 have h2:(QB w n).length <=w.notes.length:=List.length_filter_le _ _;have h3:=sh.notes
 have h4:=ZoE (f:=fun k=>JW (m:Int) (YW w n k)) (B:=1000000) (M:=w.cells.length) (fun k hk=>by
  rw [Jb hk];cases e:cellOf w k n with
  | none=>simp [JW]
  | some c=>
    obtain⟨row,j,r1,r2⟩:=Zaq e;have:= (KR (sh.cell k row j c r1 r2).1).2.2.2;unfold JW;dsimp only;split <;> omega)
 have:=sh.c6;unfold QE;rw [YX] <;> omega
theorem Kl (n h:Int) (k:Nat):Xg w n h k h=true:=by cases k <;> simp [Xg]
theorem ZgW {h:Int}:∀ {k:Nat} {a:Int},Xg w n h k a=true ->Xg w n h (k + 1) a=true
 | 0,a,q=>by
   have:a=h:=by simpa [Xg] using q
   subst this;exact Kl _ _ _
 | k + 1,a,q=>by
   rw [Xg] at q ⊢;cases e:(a==h)
   ·rw [e,Cq0] at q;rw [Cq0];cases ec:cellOf w a.toNat n with
    | none=>rw [ec] at q;cases q
    | some c=>
      rw [ec] at q;dsimp only at q ⊢;cases ef:decide (c.from_ < 0)
      ·rw [ef,Cq0] at q;exact ZgW q
      ·rw [ef] at q;cases q
   ·rfl
theorem Zlp {h:Int} {k:Nat} {a:Int} (q:Xg w n h k a=true):a=h∨cellOf w a.toNat n ≠ none:=by
 by_cases e:a=h
 ·exact .inl e
 ·right;intro z;cases k with
  | zero=>exact e (by simpa [Xg] using q)
  | succ k=>
    rw [Xg,z,show(a==h)=false by simp [e]] at q;cases q
theorem UQ {h:Int} {k:Nat} {a:Int} {c:Zb} (ha:a ≠ h) (hc:cellOf w a.toNat n=some c):Xg w n h (k + 1) a= (!decide (c.from_ < 0) && Xg w n h k c.from_):=by
 rw [Xg,hc,show(a==h)=false by simp [ha],Cq0];dsimp only;cases decide (c.from_ < 0) <;> rfl
theorem Zgp {α:Type} {p q:α ->Bool} {l:List α} (h:∀ x ∈ l,p x=true ->q x=true) {x:α} (hx:x ∈ l) (h1:p x=false) (h2:q x=true):l.countP p < l.countP q:=by
 induction l with
 | nil=>simp at hx
 | cons y l ih=>
   rw [List.countP_cons,List.countP_cons];have hm:l.countP p <=l.countP q:=List.countP_mono_left fun z hz=>h z (by simp [hz])
   have hy:=h y (by simp);rcases List.mem_cons.1 hx with rfl | hx
   ·rw [h1,h2];simp;omega
   ·have:=ih (fun z hz=>h z (by simp [hz])) hx;cases ep:p y
    ·simp;omega
    ·rw [hy ep];simp;omega
theorem switch {f:Nat ->Bool}:∀ {K:Nat},f 0=false ->f (K + 1)=true ->∃ j,j <=K∧f j=false∧f (j + 1)=true
 | 0,h0,h1=>⟨0,Nat.le_refl _,h0,h1⟩
 | K + 1,h0,h1=>by
   cases e:f (K + 1) with
   | false=>exact⟨K + 1,Nat.le_refl _,e,h1⟩
   | true=>
     obtain⟨j,j1,j2⟩:=switch h0 e;exact⟨j,by omega,j2⟩
theorem ZxB {h:Int} (sh:Shp w) (L:Km w n h=true):∃ dep:Int ->Nat,∀ m c,YW w n m=some c ->m ≠ h ->0 <=c.from_∧(YW w n c.from_ ≠ none∨c.from_=h)∧dep c.from_ < dep m:=by
 have all:∀ m:Nat,m < w.cells.length ->cellOf w m n ≠ none ->Xg w n h w.cells.length m=true:=by
  intro m hm hc;unfold Km at L;rw [Bool.not_eq_true',List.any_eq_false] at L;have:=L m (List.mem_range.2 hm);cases e:Xg w n h w.cells.length m with
  | true=>rfl
  | false=>
    exfalso;apply this;rw [e];cases ec:cellOf w m n with
    | none=>exact absurd ec hc
    | some c=>rfl
 refine⟨fun a=>(List.range (w.cells.length + 1)).countP fun k=>!Xg w n h k a,fun m c hc hm=>?_⟩;obtain⟨hr,hc'⟩:=X6 hc;have hmn:((m.toNat:Nat):Int)=m:=by omega
 have q:=all m.toNat (by omega) (by rw [hc'];simp);rw [hmn] at q;have hM:=sh.c1;obtain⟨K,hK⟩:=Ne0 (n:=w.cells.length) (by omega);rw [hK,UQ hm hc',Ba0] at q;have hf:0 <=c.from_:=by have:=q.1;simp at this;omega
 have hfr:=sh.from_ hc' (by omega);refine⟨hf,?_,?_⟩
 ·rcases Zlp q.2 with z | z
  ·exact .inr z
  ·left;unfold YW;rw [if_pos hfr];exact z
 ·have hp:w.cells.length=K + 1:=hK
  obtain⟨j,j1,j2,j3⟩:=switch (f:=fun k=>Xg w n h k m) (K:=K) (by simp [Xg,hm]) (by
   show Xg w n h (K + 1) m=true;rw [UQ hm hc',Ba0];exact q)
  rw [UQ hm hc',Ba0] at j3;refine Zgp (x:=j) (fun k hk hp=>?_) (List.mem_range.2 (by omega)) (by rw [j3.2];rfl) (by rw [j2];rfl);rw [Bool.not_eq_true'] at hp ⊢;cases k with
  | zero=>simp [Xg,hm]
  | succ k=>
    rw [UQ hm hc',Bool.and_eq_false_iff];right;cases e:Xg w n h k c.from_ with
    | false=>rfl
    | true=>rw [ZgW e] at hp;cases hp
theorem ZxA {h:Int} (L:∃ dep:Int ->Nat,∀ m c,YW w n m=some c ->m ≠ h ->0 <=c.from_∧(YW w n c.from_ ≠ none∨c.from_=h)∧dep c.from_ < dep m):Km w n h=true:=by
 obtain⟨dep,L⟩:=L
 let S:Int ->Nat ->Bool:=fun a k=>(YW w n (k:Int)).isSome && decide (dep k < dep a)
 let rk:Int ->Nat:=fun a=>(List.range w.cells.length).countP (S a)
 have key:∀ k a c,rk a <=k ->YW w n a=some c ->Xg w n h (k + 1) a=true:=by
  intro k
  induction k with
  | zero=>
    intro a c hk hc;by_cases ha:a=h
    ·subst ha;exact Kl _ _ _
    ·obtain⟨l1,l2,l3⟩:=L a c hc ha;rw [UQ ha (X6 hc).2,Ba0];refine⟨by simp;omega,?_⟩;by_cases z:c.from_=h
     ·rw [z];exact Kl _ _ _
     ·exfalso;have l2:YW w n c.from_ ≠ none:=by rcases l2 with q | q;exact q;exact absurd q z
      obtain⟨d,hd⟩:=Option.ne_none_iff_exists'.1 l2;have hr:= (X6 hd).1;have hf:((c.from_.toNat:Nat):Int)=c.from_:=by omega
      have:0 < rk a:=by
       refine List.countP_pos_iff.2 ⟨c.from_.toNat,List.mem_range.2 (by omega),?_⟩;show((YW w n ((c.from_.toNat:Nat):Int)).isSome && decide (dep ((c.from_.toNat:Nat):Int) < dep a))=true
       rw [hf,hd];simpa using l3
      omega
  | succ k ih=>
    intro a c hk hc;by_cases ha:a=h
    ·subst ha;exact Kl _ _ _
    ·obtain⟨l1,l2,l3⟩:=L a c hc ha;rw [UQ ha (X6 hc).2,Ba0];refine⟨by simp;omega,?_⟩;by_cases z:c.from_=h
     ·rw [z];exact Kl _ _ _
     ·have l2:YW w n c.from_ ≠ none:=by rcases l2 with q | q;exact q;exact absurd q z
      obtain⟨d,hd⟩:=Option.ne_none_iff_exists'.1 l2;have hr:= (X6 hd).1;have hf:((c.from_.toNat:Nat):Int)=c.from_:=by omega
      refine ih c.from_ d ?_ hd
      have:rk c.from_ < rk a:=by
       refine Zgp (x:=c.from_.toNat) (fun j hj hp=>?_) (List.mem_range.2 (by omega)) ?_ ?_
       ·have hp:((YW w n (j:Int)).isSome && decide (dep j < dep c.from_))=true:=hp;show((YW w n (j:Int)).isSome && decide (dep j < dep a))=true;rw [Ba0,decide_eq_true_eq] at hp ⊢;exact⟨hp.1,by omega⟩
       ·show((YW w n ((c.from_.toNat:Nat):Int)).isSome && decide (dep ((c.from_.toNat:Nat):Int) < dep c.from_))=false
        rw [hf];simp
       ·show((YW w n ((c.from_.toNat:Nat):Int)).isSome && decide (dep ((c.from_.toNat:Nat):Int) < dep a))=true
        rw [hf,hd];simpa using l3
      omega
 unfold Km;rw [Bool.not_eq_true',List.any_eq_false];intro m hm;rw [List.mem_range] at hm;rw [Bool.not_eq_true];cases e:cellOf w m n with
 | none=>rfl
 | some c=>
   have hc:YW w n m=some c:=by rw [Jb hm];exact e
   have:rk m < w.cells.length:=by
    have:=Zgp (p:=S m) (q:=fun _=>true) (l:=List.range w.cells.length) (fun _ _ _=>rfl) (x:=m) (List.mem_range.2 hm) (by show((YW w n (m:Int)).isSome && decide (dep m < dep m))=false;simp) rfl
    simpa [rk] using this
   obtain⟨K,hK⟩:=Ne0 (n:=w.cells.length) (by omega);have:=key K m c (by omega) hc;rw [hK,this];rfl
end
end Go.Proofs.Ytekpjgmhkkjhgaa
end
section
namespace Go.Proofs.Ytekpjgmhkkjhgaa
open Go.Lf
theorem Zrp {α:Type} [Inhabited α] (f:α ->Int) {l:List α} (h:∀ k x,l[k]? =some x ->0 < k ->f (QM l k) < f x):l.Pairwise fun a b=>f a < f b:=by
 rw [List.pairwise_iff_getElem]
 have key:∀ (j i:Nat) (hi:i < l.length) (hj:j < l.length),i < j ->f l[i] < f l[j]:=by
  intro j
  induction j with
  | zero=>intro i hi hj h;omega
  | succ j ih=>
    intro i hi hj hij;have q:=h (j + 1) l[j + 1] (by simp [hj]) (by omega)
    have e:QM l (j + 1)=l[j]'(by omega):=by
     unfold QM;rw [Nat.add_sub_cancel,List.getElem?_eq_getElem (by omega)];rfl
    rw [e] at q;by_cases z:i=j
    ·subst z;exact q
    ·have:=ih i hi (by omega) (by omega);omega
 exact fun i j hi hj hij=>key j i hi hj hij
theorem Zrq {α:Type} [Inhabited α] (f:α ->Int) {l:List α} (h:l.Pairwise fun a b=>f a < f b) {k:Nat} {x:α} (hk:l[k]? =some x) (h0:0 < k):f (QM l k) < f x:=by
 rw [List.pairwise_iff_getElem] at h;obtain⟨hl,rfl⟩:=Li0 hk
 have e:QM l k=l[k - 1]'(by omega):=by
  unfold QM;rw [List.getElem?_eq_getElem (by omega)];rfl
 rw [e];exact h _ _ _ _ (by omega)
theorem Zbs {b:Int}:∀ {l:List Int} {a:Int},l.Pairwise (· < ·) ->(∀ x ∈ l,a <=x∧x < b) ->a <=b ->a + (l.length:Int) <=b
 | [],a,_,_,h=>by simp;exact h
 | x::l,a,p,hr,h=>by
   rw [List.pairwise_cons] at p;have h0:=hr x (by simp);have:=Zbs (l:=l) (a:=x + 1) (b:=b) p.2 (fun y hy=>by have h1:=p.1 y hy;have h2:=hr y (by simp [hy]);omega) (by omega);simp only [List.length_cons];omega
theorem Zes {α:Type} {c:Nat ->α ->Bool} {l:List α} (h:∀ k x,l[k]? =some x ->c k x=false):anyI c 0 l=false:=by
 rw [← Bool.not_eq_true,ZcY];rintro⟨k,x,h1,h2⟩;rw [Nat.zero_add,h k x h1] at h2;cases h2
theorem Zzj {α:Type} {c:Nat ->α ->Bool} {l:List α} (h:anyI c 0 l=false) {k:Nat} {x:α} (hk:l[k]? =some x):c k x=false:=by
 rw [← Bool.not_eq_true,ZcY] at h;cases e:c k x with
 | false=>rfl
 | true=>exact absurd ⟨k,x,hk,by rw [Nat.zero_add];exact e⟩ h
theorem ZsI {l:List Zd} (h:∀ x ∈ l,x.kind ≠ 3):J9 l=0:=by
 induction l with
 | nil=>rfl
 | cons x l ih=>rw [cnt1 (h x (by simp)),ih fun y hy=>h y (by simp [hy])]
section
variable {w:Za} {n:Int}
theorem Zxk {m:Nat} (hm:m < w.cells.length) {c:Zb} (hc:c ∈ rowOf w m):∃ k:Nat,w.cells[m]? =some (rowOf w m)∧(rowOf w m)[k]? =some c:=by
 obtain⟨k,hk⟩:=List.getElem?_of_mem hc;exact⟨k,Qz hm,hk⟩
theorem Zml {m:Nat} (hm:m < w.cells.length) (n:Int):Zmm w m n=ZcG w m n + Ue (YW w n m):=by
 rw [Jb hm];unfold Zmm Ue;cases cellOf w m n with
 | none=>rfl
 | some c=>dsimp only;cases c.root <;> rfl
theorem Zpe {m:Int} {x:Zd} (hx:x ∈ QB w n) (k:x.kind=3) (h:x.Zv=m):1 <=ZcG w m n:=by
 unfold QB at hx;rw [List.mem_filter] at hx;refine List.countP_pos_iff.2 ⟨x,hx.1,?_⟩;simp [k,h];simpa using hx.2
theorem Rt.of (h:WI w=true):Rt w:=by
 unfold WI at h;rw [Ba0] at h;obtain⟨hs,hn⟩:=h;have sh:=Zcm hs;unfold ZaC at hs;simp only [Ba0,Bool.not_eq_true'] at hs;obtain⟨s1,s2,s3,s4⟩:=hs
 have hfr:∀ k x,w.freed[k]? =some x ->(0 <=x∧x < w.names)∧(0 < k ->QM w.freed k < x):=by
  intro k x hk;have:=Zzj s2 hk;unfold Zak at this;simp at this;exact⟨this.1,fun h0=>this.2 h0⟩
 refine⟨sh.c1,sh.c6,sh.n0,sh.n12,sh.notes,Zrp (fun x=>x) (fun k x hk h0=>(hfr k x hk).2 h0),?_,?_,?_,?_,?_⟩
 ·intro x hx;obtain⟨k,hk⟩:=List.getElem?_of_mem hx;exact(hfr k x hk).1
 ·intro m hm;exact Zrp (fun c:Zb=>c.name) (fun k c hk h0=>(sh.cell m _ k c (Qz hm) hk).2 h0)
 ·intro m hm c hc;obtain⟨k,r1,r2⟩:=Zxk hm hc;have:=KR (sh.cell m _ k c r1 r2).1;exact⟨this.1,this.2.2.1⟩
 ·exact fun x hx=>(Zbd (sh.note x hx)).2.1
 ·intro n hnn
  have hr:0 <=n∧n < w.names:=by
   have:=hnn;unfold Yn at this;simp at this;exact this.1
  rw [Bool.not_eq_true',List.any_eq_false] at hn
  have hro:WU w n=true:=by
   have:=hn n.toNat (List.mem_range.2 (by omega));rw [show((n.toNat:Nat):Int)=n by omega,hnn] at this;cases e:WU w n with
   | true=>rfl
   | false=>rw [e] at this;exact absurd rfl this
  unfold WU at hro;simp only [Ba0,Bool.not_eq_true',beq_iff_eq] at hro;obtain⟨h1,h2,h3⟩:=hro;rw [List.any_eq_false] at h1
  have hbad:∀ m:Nat,m < w.cells.length ->JX (YW w n) (QB w n) m=QE w.cells.length (YW w n) (QB w n) m∧JX (YW w n) (QB w n) m <=1000000:=by
   intro m hm;have:=h1 m (List.mem_range.2 hm);unfold ZsS at this;rw [sh.ZgL hm,sh.Zh0 hm] at this
   simpa using this
  obtain⟨f1,f2⟩:=Zfz sh n
  have hL:YZ w n= [(QI w n).2]:=by
   have:(YZ w n).length=1:=by
    unfold QI at h2;rw [f1] at h2;omega
   obtain⟨z,hz⟩:=List.length_eq_one_iff.1 this;rw [show(QI w n).2=z from f2 z hz];exact hz
  obtain⟨z,hz⟩:∃ z,(QI w n).2=z:= ⟨_,rfl⟩
  rw [hz] at hL h3;have hzr:=ZbT sh n z (by rw [hL];simp)
  have hcnt:∀ m:Nat,m < w.cells.length ->Zmm w m n=if(m:Int)=z then 1 else 0:=by
   intro m hm;rw [← KG hm,hL];by_cases e:(m:Int)=z
   ·rw [if_pos e,e];simp
   ·rw [if_neg e];rw [List.count_eq_zero];simp;exact e
  have hcell:∀ m c,YW w n m=some c ->∃ (row:List Zb) (k:Nat),w.cells[m.toNat]? =some row∧row[k]? =some c∧Wx w m.toNat c=true:=by
   intro m c hc;obtain⟨row,k,r1,r2⟩:=Zaq (X6 hc).2;exact⟨row,k,r1,r2,(sh.cell _ row k c r1 r2).1⟩
  have h3n:∀ x ∈ QB w n,x.kind=3 ->x.Zv=z:=by
   intro x hx k;have hx':=Zbd (sh.note x (List.mem_filter.1 hx).1);have:=Zpe hx k (m:= ((x.Zv.toNat:Nat):Int)) (by omega);have hc:=hcnt x.Zv.toNat (by omega);rw [Zml (by omega)] at hc;by_cases e:((x.Zv.toNat:Nat):Int)=z
   ·omega
   ·rw [if_neg e] at hc;omega
  refine⟨z,⟨?_,?_,?_,?_,hzr,?_,?_,?_,?_⟩,?_⟩
  ·exact fun m c hc=>(X6 hc).1
  ·exact fun m c hc=>Qc (X6 hc).2
  ·intro m c hc;have hr:= (X6 hc).1;obtain⟨_,_,_,_,q⟩:=hcell m c hc;have:= (KR q).2.2.2;rw [show((m.toNat:Nat):Int)=m by omega] at this;rcases this with⟨a1,a2,a3,a4,a5,a6⟩ | a
   ·exact .inl ⟨a1,a2,a3,a4,a5⟩
   ·exact .inr a
  ·intro x hx;have hx':=Zbd (sh.note x (List.mem_filter.1 hx).1);refine⟨hx'.1,by simpa using (List.mem_filter.1 hx).2,hx'.2.2.1.1,?_⟩;rcases hx'.2.2.2 with a | a | a
   ·exact .inl a
   ·exact .inr (.inl a)
   ·exact .inr (.inr ⟨a.1,a.2.1,a.2.2,h3n x hx a.1⟩)
  ·intro m c hc hrt;have hr:= (X6 hc).1;have q:=hcnt m.toNat (by omega);unfold Zmm at q;rw [(X6 hc).2] at q;dsimp only at q;rw [hrt,Cq1] at q;split at q <;> omega
  ·have q:=hcnt z.toNat (by omega);have hzn:((z.toNat:Nat):Int)=z:=by omega
   rw [if_pos hzn,Zml (by omega)] at q;rw [hzn] at q;have g1:=ZdX w z n;rw [ZhZ h3n,if_pos rfl] at g1;omega
  ·intro a a0 a1;have:= (hbad a.toNat (by omega)).1;rw [show((a.toNat:Nat):Int)=a by omega] at this;exact this
  ·exact ZxB sh h3
  ·intro a a0 a1;have:= (hbad a.toNat (by omega)).2;rw [show((a.toNat:Nat):Int)=a by omega] at this;exact this
theorem Rt.ZkE (R:Rt w):(w.freed.length:Int) <=w.names:=by
 have:=Zbs R.fr R.frr R.n0;omega
theorem Rt.Zdq (R:Rt w) {m:Nat} (hm:m < w.cells.length) {c:Zb} (hc:c ∈ rowOf w m):YW w c.name m=some c:=by
 rw [Jb hm];exact Zpu (R.Yx m hm) hc
theorem Rt.Wx (R:Rt w) {m:Nat} (hm:m < w.cells.length) {c:Zb} (hc:c ∈ rowOf w m):Wx w m c=true:=by
 obtain⟨q1,q2⟩:=R.cn m hm c hc;obtain⟨h,H,Mx⟩:=R.nm _ q1;have e:=R.Zdq hm hc;have ho:=H.Zle e;have hmx:=Mx m (by omega) (by omega);rw [H.giv,e] at hmx;simp only [XP] at hmx;refine Zv1 q1 ⟨ho.1,?_⟩ q2 ?_
 ·split at hmx <;> omega
 ·rcases H.cel m c e with⟨a1,a2,a3,a4,a5⟩ | a
  ·have h1:=H.Zdi e a2;have h2:=H.acc c.from_ a2 a3;have h3:=Mx c.from_ a2 a3;exact .inl ⟨a1,a2,a3,a4,a5,by omega⟩
  ·exact .inr a
theorem Rt.Wj (R:Rt w) {x:Zd} (hx:x ∈ w.notes):Wj w x=true:=by
 have q1:=R.nn x hx;obtain⟨h,H,Mx⟩:=R.nm _ q1;have hx':x ∈ QB w x.name:=List.mem_filter.2 ⟨hx,by simp⟩;obtain⟨a1,a2,a3,a4⟩:=H.nts x hx';refine Zt7 a1 q1 ⟨a3,?_⟩ ?_
 ·rcases a4 with z | z | z
  ·have h1:=H.UR z.2.1 hx';rw [WV z.1,if_pos rfl] at h1;have h2:=H.acc _ z.2.1 z.2.2;have h3:=Mx _ z.2.1 z.2.2;omega
  ·have h1:=H.UR a1.1 hx';rw [ZbN z.1,if_pos rfl] at h1;have h2:=H.acc _ a1.1 a1.2;have h3:=Mx _ a1.1 a1.2;omega
  ·omega
 ·rcases a4 with z | z | z
  ·exact .inl z
  ·exact .inr (.inl z)
  ·exact .inr (.inr ⟨z.1,z.2.1,z.2.2.1⟩)
theorem Rt.shaped (R:Rt w):ZaC w=true:=by
 have hfl:=R.ZkE;have:=R.c1;have:=R.c6;have:=R.n0;have:=R.n12;have:=R.nts;unfold ZaC;simp only [Ba0,Bool.not_eq_true'];refine⟨?_,?_,?_,?_⟩
 ·unfold Zcl;simp only [Ba0,decide_eq_true_eq];omega
 ·refine Zes fun k x hk=>?_
  have h1:=R.frr x (List.mem_of_getElem? hk);unfold Zak;have h2:0 < k ->QM w.freed k < x:=fun h0=>Zrq (fun x=>x) R.fr hk h0
  simp;exact⟨h1,h2⟩
 ·unfold ZdJ;rw [Bool.not_eq_true'];refine Zes fun m row hm=>?_
  have hml:m < w.cells.length:= (Li0 hm).1;have hro:row=rowOf w m:=by have:=Qz hml;rw [hm] at this;exact Oi0 this
  subst hro;refine Zes fun k c hk=>?_
  unfold K3;rw [R.Wx hml (List.mem_of_getElem? hk)];simp;exact fun h0=>Zrq (fun c:Zb=>c.name) (R.Yx m hml) hk h0
 ·unfold K6;rw [Bool.not_eq_true',List.any_eq_false];intro x hx;rw [R.Wj hx];simp
theorem Rt.shp (R:Rt w):Shp w:=Zcm R.shaped
theorem Rt.right (R:Rt w):WI w=true:=by
 have sh:=R.shp;unfold WI;rw [Ba0];refine⟨R.shaped,?_⟩;rw [Bool.not_eq_true',List.any_eq_false];intro k hk;rw [Bool.not_eq_true];cases hn:Yn w k with
 | false=>rfl
 | true=>
   obtain⟨h,H,Mx⟩:=R.nm _ hn;rw [Bool.true_and,Bool.not_eq_false']
   have hcnt:∀ m:Nat,m < w.cells.length ->Zmm w m k=if(m:Int)=h then 1 else 0:=by
    intro m hm;have g1:=ZdX w m k;rw [ZhZ (h:=h) (fun x hx k3=>by rcases(H.nts x hx).2.2.2 with z | z | z <;> omega)] at g1;have o:=H.one;rw [Zml hm];by_cases e:(m:Int)=h
    ·rw [if_pos e] at g1 ⊢;rw [e];rw [e] at g1;omega
    ·rw [if_neg e] at g1 ⊢
     have:Ue (YW w k m)=0:=by
      cases ec:YW w k m with
      | none=>rfl
      | some c=>
        show(if c.root=true then 1 else 0)=0;rw [if_neg (fun z=>e (H.rt m c ec z))]
     omega
   have hr:=ZbT sh (k:Int)
   have hL:YZ w k= [h]:=by
    have c1:∀ x ∈ YZ w (k:Int),x=h:=by
     intro x hx;have h1:=hr x hx;have h2:=KG (w:=w) (m:=x.toNat) (by omega) (k:Int);rw [hcnt x.toNat (by omega),show((x.toNat:Nat):Int)=x by omega] at h2;have h3:0 < (YZ w (k:Int)).count x:=List.count_pos_iff.2 hx;by_cases e:x=h
     ·exact e
     ·rw [if_neg e] at h2;omega
    have c2:(YZ w (k:Int)).count h=1:=by
     have hh:=H.hM;have h2:=KG (w:=w) (m:=h.toNat) (by omega) (k:Int);rw [hcnt h.toNat (by omega),show((h.toNat:Nat):Int)=h by omega,if_pos rfl] at h2;exact h2
    have c3:(YZ w (k:Int)).length=1:=by
     rw [← c2]
     symm
     rw [List.count_eq_length];exact fun x hx=>(c1 x hx).symm
    obtain⟨z,hz⟩:=List.length_eq_one_iff.1 c3;rw [hz];rw [c1 z (by rw [hz];simp)]
   obtain⟨f1,f2⟩:=Zfz sh (k:Int);unfold WU;simp only [Ba0,Bool.not_eq_true',beq_iff_eq];refine⟨?_,?_,?_⟩
   ·rw [List.any_eq_false];intro m hm;rw [List.mem_range] at hm;unfold ZsS;rw [sh.ZgL hm,sh.Zh0 hm,H.acc m (by omega) (by omega)];have:=Mx m (by omega) (by omega);rw [H.acc m (by omega) (by omega)] at this;simp;exact this
   ·unfold QI;rw [f1,hL];rfl
   ·have:(QI w (k:Int)).2=h:=f2 h hL;rw [this];exact ZxA H.lead
end
end Go.Proofs.Ytekpjgmhkkjhgaa
end
section
namespace Go.Proofs.Ytekpjgmhkkjhgaa
open Go.Lf
def flN (n:Int) (fl:List Zd):List Zd:=fl.filter fun x=>x.name==n
structure Rx (w:Za) (ex:Int ->Int ->Prop) (fl:List Zd):Prop where
 c1:1 <=w.cells.length
 c6:w.cells.length <=6
 n0:0 <=w.names
 n12:w.names <=12
 fr:w.freed.Pairwise (· < ·)
 frr:∀ x ∈ w.freed,0 <=x∧x < w.names
 Yx:∀ m,m < w.cells.length ->U7 (rowOf w m)
 cn:∀ n m c,YW w n m=some c ->Yn w n=true∧(c.use=true∨c.out ≠ 0∨ex m n)
 nn:∀ x ∈ fl ++ w.notes,Yn w x.name=true
 nm:∀ n,Yn w n=true ->∃ h,Nm w.cells.length n (YW w n) (flN n fl ++ QB w n) h
def Mw (w:Za) (fl:List Zd):Prop:=∀ n,Yn w n=true ->Mst w.cells.length (YW w n) (flN n fl ++ QB w n)
def KE:Int ->Int ->Prop:=fun _ _=>False
theorem Rt.rx {w:Za} (R:Rt w):Rx w KE []∧Mw w []:=by
 refine⟨⟨R.c1,R.c6,R.n0,R.n12,R.fr,R.frr,R.Yx,fun n m c hc=>?_,R.nn,fun n hn=>?_⟩,fun n hn=>?_⟩
 ·obtain⟨h1,h2⟩:=X6 hc;have hm:m.toNat < w.cells.length:=by omega
  obtain⟨row,k,r1,r2⟩:=Zaq h2;have:row=rowOf w m.toNat:=by have:=Qz hm;rw [r1] at this;exact Oi0 this
  subst this;have q:=R.cn _ hm c (List.mem_of_getElem? r2);rw [Qc h2] at q;exact⟨q.1,q.2.elim .inl fun z=>.inr (.inl z)⟩
 ·obtain⟨h,H,_⟩:=R.nm n hn;exact⟨h,H⟩
 ·obtain⟨h,_,H⟩:=R.nm n hn;exact H
theorem Rx.rt {w:Za} (R:Rx w KE []) (Mx:Mw w []) (hl:w.notes.length <=80):Rt w:=by
 refine⟨R.c1,R.c6,R.n0,R.n12,hl,R.fr,R.frr,R.Yx,fun m hm c hc=>?_,R.nn,fun n hn=>?_⟩
 ·have e:YW w c.name m=some c:=by rw [Jb hm];exact Zpu (R.Yx m hm) hc
  obtain⟨q1,q2⟩:=R.cn _ _ _ e;refine⟨q1,?_⟩;rcases q2 with q | q | q
  ·exact .inl q
  ·exact .inr q
  ·exact q.elim
 ·obtain⟨h,H⟩:=R.nm n hn;exact⟨h,H,Mx n hn⟩
structure Upd (w w':Za) (n:Int):Prop where
 len:w'.cells.length=w.cells.length
 nms:w'.names=w.names
 fre:w'.freed=w.freed
 Yx:∀ m,m < w.cells.length ->U7 (rowOf w' m)
 oc:∀ k,k ≠ n ->YW w' k=YW w k
 on:∀ k,k ≠ n ->QB w' k=QB w k
theorem Upd.trans {w w1 w2:Za} {n:Int} (a:Upd w w1 n) (b:Upd w1 w2 n):Upd w w2 n:=
 ⟨b.len.trans a.len,b.nms.trans a.nms,b.fre.trans a.fre,fun m hm=>b.Yx m (by rw [a.len];exact hm),fun k hk=>(b.oc k hk).trans (a.oc k hk),fun k hk=>(b.on k hk).trans (a.on k hk)⟩
theorem ZcA {w w':Za} (h1:w'.names=w.names) (h2:w'.freed=w.freed) (n:Int):Yn w' n=Yn w n:=by unfold Yn;rw [h1,h2]
theorem ZlL {n:Int} {fl:List Zd} (h:∀ x ∈ fl,x.name ≠ n):flN n fl= []:=by
 unfold flN;rw [List.filter_eq_nil_iff];intro x hx;simp;exact h x hx
theorem ZaN {n:Int} {fl:List Zd} (h:∀ x ∈ fl,x.name=n):flN n fl=fl:=by
 unfold flN;rw [List.filter_eq_self];intro x hx;simp;exact h x hx
section
variable {w w':Za} {n:Int} {ex ex':Int ->Int ->Prop} {fl fl':List Zd}
theorem Rx.upd (R:Rx w ex fl) (U:Upd w w' n) (hn:Yn w n=true) (hfl:∀ x ∈ fl,x.name=n) (Zhk:∀ x ∈ fl',x.name=n)
 (he:∀ m c,YW w' n m=some c ->c.use=true∨c.out ≠ 0∨ex' m n) (he2:∀ m k,k ≠ n ->ex m k ->ex' m k)
 (hm:∃ h,Nm w.cells.length n (YW w' n) (fl' ++ QB w' n) h):Rx w' ex' fl':=by
 have hB:=ZcA U.nms U.fre;refine⟨by rw [U.len];exact R.c1,by rw [U.len];exact R.c6,by rw [U.nms];exact R.n0,by rw [U.nms];exact R.n12,by rw [U.fre];exact R.fr,by rw [U.fre,U.nms];exact R.frr,by rw [U.len];exact U.Yx,fun k m c hc=>?_,fun x hx=>?_,fun k hk=>?_⟩
 ·rw [hB];by_cases e:k=n
  ·subst e;exact⟨hn,he m c hc⟩
  ·rw [U.oc k e] at hc;obtain⟨q1,q2⟩:=R.cn k m c hc;exact⟨q1,q2.elim .inl fun z=>.inr (z.elim .inl fun y=>.inr (he2 m k e y))⟩
 ·rw [hB];by_cases e:x.name=n
  ·rw [e];exact hn
  ·rcases List.mem_append.1 hx with z | z
   ·exact absurd (Zhk x z) e
   ·have:x ∈ QB w' x.name:=List.mem_filter.2 ⟨z,by simp⟩;rw [U.on _ e] at this;exact R.nn x (List.mem_append_right _ (List.mem_filter.1 this).1)
 ·rw [hB] at hk;rw [U.len];by_cases e:k=n
  ·subst e;rw [ZaN Zhk];exact hm
  ·obtain⟨h,H⟩:=R.nm k hk;refine⟨h,?_⟩;rw [U.oc k e,U.on k e,ZlL fun x hx z=>e (z.symm.trans (Zhk x hx))];rw [ZlL fun x hx z=>e (z.symm.trans (hfl x hx))] at H;exact H
theorem Mw.upd (Mx:Mw w fl) (U:Upd w w' n) (hfl:∀ x ∈ fl,x.name=n) (Zhk:∀ x ∈ fl',x.name=n)
 (hm:Mst w.cells.length (YW w' n) (fl' ++ QB w' n)):Mw w' fl':=by
 intro k hk;rw [ZcA U.nms U.fre] at hk;rw [U.len];by_cases e:k=n
 ·subst e;rw [ZaN Zhk];exact hm
 ·have:=Mx k hk;rw [U.oc k e,U.on k e,ZlL fun x hx z=>e (z.symm.trans (Zhk x hx))];rw [ZlL fun x hx z=>e (z.symm.trans (hfl x hx))] at this;exact this
theorem ZkP {m a:Nat} {r:Row} (hm:m < w.cells.length) (k:Int):cellOf (cw w m r) a k=if a=m then Kr r k else cellOf w a k:=by
 rw [Y9,Y9];by_cases e:a=m
 ·subst e;rw [if_pos rfl,JE hm]
 ·rw [if_neg e,Kg e]
theorem Qk {m:Nat} (hm:m < w.cells.length) (Yx:∀ m,m < w.cells.length ->U7 (rowOf w m)) {c:Zb} (hc:c.name=n):
 Upd w (cw w m (put c (rowOf w m))) n∧YW (cw w m (put c (rowOf w m))) n=Yz (YW w n) m (some c)∧QB (cw w m (put c (rowOf w m))) n=QB w n:=by
 have key:∀ k a,YW (cw w m (put c (rowOf w m))) k a=if a=m∧k=n then some c else YW w k a:=by
  intro k a;unfold YW;rw [Yq];by_cases hr:0 <=a∧a < (w.cells.length:Int)
  ·rw [if_pos hr,if_pos hr,ZkP hm];by_cases e:a=m
   ·have:a.toNat=m:=by omega
    rw [if_pos this,ZaM _ (Yx m hm),hc,Y9,this];by_cases ek:k=n
    ·rw [if_pos ek,if_pos ⟨e,ek⟩]
    ·rw [if_neg ek,if_neg (fun z=>ek z.2)]
   ·have:¬ a.toNat=m:=by omega
    rw [if_neg this,if_neg (fun z=>e z.1)]
  ·rw [if_neg hr,if_neg hr,if_neg (by rintro⟨z,_⟩;subst z;omega)]
 refine⟨⟨Yq,rfl,rfl,fun a ha=>?_,fun k hk=>?_,fun k hk=>rfl⟩,?_,rfl⟩
 ·by_cases e:a=m
  ·subst e;rw [JE hm];exact(Yx a hm).put
  ·rw [Kg e];exact Yx a ha
 ·funext a;rw [key,if_neg (fun z=>hk z.2)]
 ·funext a;rw [key];unfold Yz;by_cases e:a=m
  ·rw [if_pos ⟨e,rfl⟩,if_pos e]
  ·rw [if_neg (fun z=>e z.1),if_neg e]
theorem Zla {m:Nat} (hm:m < w.cells.length) (Yx:∀ m,m < w.cells.length ->U7 (rowOf w m)):
 Upd w (cw w m (rmv n (rowOf w m))) n∧YW (cw w m (rmv n (rowOf w m))) n=Yz (YW w n) m none∧QB (cw w m (rmv n (rowOf w m))) n=QB w n:=by
 have key:∀ k a,YW (cw w m (rmv n (rowOf w m))) k a=if a=m∧k=n then none else YW w k a:=by
  intro k a;unfold YW;rw [Yq];by_cases hr:0 <=a∧a < (w.cells.length:Int)
  ·rw [if_pos hr,if_pos hr,ZkP hm];by_cases e:a=m
   ·have:a.toNat=m:=by omega
    rw [if_pos this,ZqW,Y9,this];by_cases ek:k=n
    ·rw [if_pos ek,if_pos ⟨e,ek⟩]
    ·rw [if_neg ek,if_neg (fun z=>ek z.2)]
   ·have:¬ a.toNat=m:=by omega
    rw [if_neg this,if_neg (fun z=>e z.1)]
  ·rw [if_neg hr,if_neg hr];split <;> rfl
 refine⟨⟨Yq,rfl,rfl,fun a ha=>?_,fun k hk=>?_,fun k hk=>rfl⟩,?_,rfl⟩
 ·by_cases e:a=m
  ·subst e;rw [JE hm];exact(Yx a hm).rmv n
  ·rw [Kg e];exact Yx a ha
 ·funext a;rw [key,if_neg (fun z=>hk z.2)]
 ·funext a;rw [key];unfold Yz;by_cases e:a=m
  ·rw [if_pos ⟨e,rfl⟩,if_pos e]
  ·rw [if_neg (fun z=>e z.1),if_neg e]
theorem ZeD (Yx:∀ m,m < w.cells.length ->U7 (rowOf w m)) {x:Zd} (hx:x.name=n):Upd w (sent w x) n∧YW (sent w x) n=YW w n∧QB (sent w x) n=QB w n ++ [x]:=by
 refine⟨⟨rfl,rfl,rfl,Yx,fun k hk=>rfl,fun k hk=>?_⟩,rfl,?_⟩
 ·unfold QB sent;rw [List.filter_append]
  have: [x].filter (fun x=>x.name==k)= []:=by
   rw [List.filter_eq_nil_iff];intro y hy;rw [List.mem_singleton.1 hy];simp;exact fun z=>hk (z.symm.trans hx)
  rw [this,List.append_nil]
 ·unfold QB sent;rw [List.filter_append]
  have: [x].filter (fun x=>x.name==n)= [x]:=by
   rw [List.filter_eq_self];intro y hy;rw [List.mem_singleton.1 hy];simp;exact hx
  rw [this]
theorem Zkt {m:Nat} (hm:m < w.cells.length) (n:Int):look (rowOf w m) n=Zb9 n (YW w n) m:=by
 unfold Zb9;rw [Jb hm];rfl
theorem Mst.put {M:Nat} {cv:CV} {ns ns':List Zd} (Mx:Mst M cv ns) {m:Int} {d:Zb} (h:∀ a:Int,0 <=a ->a < M ->(if a=m then d.out else XP (cv a)) + YD (Yu a) ns' <=XP (cv a) + YD (Yu a) ns):Mst M (Yz cv m (some d)) ns':=by
 intro a a0 a1;have h1:=h a a0 a1;have h2:=Mx a a0 a1;unfold JX at h2 ⊢;have:XP (Yz cv m (some d) a)=if a=m then d.out else XP (cv a):=by unfold Yz;split <;> rfl
 omega
theorem Zc8 {m:Int} (R:Rx w (fun a k=>a=m∧k=n) []) (Mx:Mw w []) {m':Nat} (hmm:(m':Int)=m) (hm:m' < w.cells.length) {c:Zb} (hc:YW w n m=some c):
 Rx (XD w m' n c) KE []∧Mw (XD w m' n c) []:=by
 have hn:= (R.cn n m c hc).1;have hcn:=Qc (X6 hc).2;obtain⟨h,H⟩:=R.nm n hn;have H:Nm w.cells.length n (YW w n) (QB w n) h:=H;have hMx:=Mx n hn;have hMx:Mst w.cells.length (YW w n) (QB w n):=hMx;unfold XD;cases hu:(c.use || (c.out !=0))
 ·rw [Cq0];have hu1:c.use=false:=by cases q:c.use;rfl;rw [q] at hu;cases hu
  have hu2:c.out=0:=by rw [hu1,Bool.false_or] at hu;simpa using hu
  obtain⟨U,V1,V2⟩:=Zla (n:=n) hm R.Yx
  have hout:∀ a,XP (Yz (YW w n) m none a)=XP (YW w n a):=by
   intro a;unfold Yz;split
   ·rename_i e;rw [e,hc];simp [XP,hu2]
   ·rfl
  rw [hmm] at V1
  have ZFx:∀ a d,YW (cw w m' (rmv n (rowOf w m'))) n a=some d ->d.use=true∨d.out ≠ 0∨KE a n:=by
   intro a d hd;rw [V1] at hd;unfold Yz at hd;split at hd
   ·cases hd
   ·rename_i e;rcases(R.cn n a d hd).2 with z | z | z
    ·exact .inl z
    ·exact .inr (.inl z)
    ·exact absurd z.1 e
  cases hr:c.root
  ·simp only [Cq0];cases hf:decide (c.from_ >=0)
   ·rw [Cq0];show Rx (cw w m' (rmv n (rowOf w m'))) KE []∧Mw (cw w m' (rmv n (rowOf w m'))) [];have hf':¬ 0 <=c.from_:=by simpa using hf
    refine⟨R.upd U hn (by simp) (by simp) ZFx (fun a k hk z=>absurd z.2 hk) ⟨h,?_⟩,Mx.upd U (by simp) (by simp) ?_⟩
    ·have:=H.gone hc hu2 hr (ys:= []) (by rw [if_neg hf']);rw [List.append_nil] at this;rw [V1];exact this
    ·intro a a0 a1;have:=hMx a a0 a1;rw [V1];show XP (Yz (YW w n) m none a) + YD (Yu a) (QB w n) <=1000000;rw [hout];exact this
   ·rw [Cq1];show Rx (sent (cw w m' (rmv n (rowOf w m'))) ⟨2,c.from_,n,0,c.has⟩) KE []∧Mw (sent (cw w m' (rmv n (rowOf w m'))) ⟨2,c.from_,n,0,c.has⟩) []
    have hf':0 <=c.from_:=by simpa using hf
    obtain⟨U2,W1,W2⟩:=ZeD (w:=cw w m' (rmv n (rowOf w m'))) (n:=n) (x:= ⟨2,c.from_,n,0,c.has⟩) (fun a ha=>U.Yx a (by rw [← U.len];exact ha)) rfl;rw [V1] at W1;refine⟨R.upd (U.trans U2) hn (by simp) (by simp) (fun a d hd=>ZFx a d (by rw [V1,← W1];exact hd)) (fun a k hk z=>absurd z.2 hk) ⟨h,?_⟩,Mx.upd (U.trans U2) (by simp) (by simp) ?_⟩
    ·have:=H.gone hc hu2 hr (ys:= [⟨2,c.from_,n,0,c.has⟩]) (by rw [if_pos hf']);rw [W1,W2];exact this
    ·intro a a0 a1;have:=hMx a a0 a1;rw [W1,W2];show XP (Yz (YW w n) m none a) + YD (Yu a) (QB w n ++ [⟨2,c.from_,n,0,c.has⟩]) <=1000000
     rw [hout,Xy,Qs,Zdb rfl];unfold JX at this;omega
  ·simp only [Cq1];obtain⟨e1,e2⟩:=H.last hc hu2 hr;have hnr:0 <=n∧n < w.names:=by have:=hn;unfold Yn at this;simp at this;exact this.1
   have hnf:n ∉ w.freed:=by
    have:=hn;unfold Yn at this;simp at this;exact fun z=>this.2 n z rfl
   have hmem:∀ x,x ∈ JV n w.freed↔x=n∨x ∈ w.freed:=by
    intro x
    constructor
    ·exact ZeP
    ·intro hx
     have key:∀ l:List Int,x=n∨x ∈ l ->x ∈ JV n l:=by
      intro l
      induction l with
      | nil=>intro z;rcases z with z | z;subst z;simp [JV];simp at z
      | cons y l ih=>
        intro z;unfold JV;split
        ·simp only [List.mem_cons] at z ⊢;omega
        ·simp only [List.mem_cons] at z ⊢;rcases z with z | z | z
         ·exact .inr (ih (.inl z))
         ·exact .inl z
         ·exact .inr (ih (.inr z))
     exact key _ hx
   have hB:∀ k,Yn ⟨w.cells.set m' (rmv n (rowOf w m')),w.notes,w.names,JV n w.freed⟩ k= (Yn w k && !(k==n)):=by
    intro k;unfold Yn;dsimp only
    have:((JV n w.freed).any fun y=>y==k)= ((w.freed.any fun y=>y==k) || (k==n)):=by
     rw [Bool.eq_iff_iff,Bool.or_eq_true,List.any_eq_true,List.any_eq_true];simp only [beq_iff_eq,hmem]
     constructor
     ·rintro⟨x,z | z,rfl⟩
      ·exact .inr z
      ·exact .inl ⟨x,z,rfl⟩
     ·rintro(⟨x,z,rfl⟩ | z)
      ·exact⟨x,.inr z,rfl⟩
      ·exact⟨n,.inl rfl,z.symm⟩
    rw [this];cases decide (0 <=k) <;> cases decide (k < w.names) <;> cases (w.freed.any fun y=>y==k) <;> cases (k==n) <;> rfl
   have key:∀ k,YW ⟨w.cells.set m' (rmv n (rowOf w m')),w.notes,w.names,JV n w.freed⟩ k=if k=n then(fun _=>none) else YW w k:=by
    intro k;by_cases e:k=n
    ·subst e;rw [if_pos rfl];show YW (cw w m' (rmv k (rowOf w m'))) k=_;rw [V1];funext a;unfold Yz;split
     ·rfl
     ·rename_i z;exact e1 a z
    ·rw [if_neg e];exact U.oc k e
   refine⟨⟨by show 1 <= (w.cells.set _ _).length;rw [List.length_set];exact R.c1,by show(w.cells.set _ _).length <=6;rw [List.length_set];exact R.c6,R.n0,R.n12,?_,?_,?_,?_,?_,?_⟩,?_⟩
   ·have q1:∀ l:List Int,l.Pairwise (· < ·) ->n ∉ l ->(JV n l).Pairwise (· < ·):=by
     intro l
     induction l with
     | nil=>intro _ _;simp [JV]
     | cons y l ih=>
       intro p q;rw [List.pairwise_cons] at p;unfold JV;split
       ·rename_i hyx;rw [List.pairwise_cons,List.pairwise_cons];refine⟨fun z hz=>?_,p⟩;rcases List.mem_cons.1 hz with rfl | hz
        ·exact hyx
        ·have:=p.1 z hz;omega
       ·rename_i hyx;have hne:n ≠ y:=fun z=>q (by rw [z];simp)
        rw [List.pairwise_cons];refine⟨fun z hz=>?_,ih p.2 fun z=>q (by simp [z])⟩;rcases ZeP hz with rfl | hz
        ·omega
        ·exact p.1 z hz
    exact q1 _ R.fr hnf
   ·intro x hx;rcases(hmem x).1 hx with z | z
    ·subst z;exact hnr
    ·exact R.frr x z
   ·intro a ha;have ha:a < w.cells.length:=by simpa using ha
    exact U.Yx a ha
   ·intro k a d hd;rw [key] at hd;split at hd
    ·cases hd
    ·rename_i hk;obtain⟨q1,q2⟩:=R.cn k a d hd;refine⟨by rw [hB,q1];simp [hk],?_⟩;rcases q2 with z | z | z
     ·exact .inl z
     ·exact .inr (.inl z)
     ·exact absurd z.2 hk
   ·intro x hx;have hx:x ∈ w.notes:=hx
    have hne:x.name ≠ n:=by
     intro z;have:x ∈ QB w n:=List.mem_filter.2 ⟨hx,by simp [z]⟩;rw [e2] at this;simp at this
    rw [hB,R.nn x (by simpa using hx)];simp [hne]
   ·intro k hk;rw [hB] at hk;simp at hk;obtain⟨h',H'⟩:=R.nm k hk.1;refine⟨h',?_⟩;rw [key,if_neg hk.2];show Nm (w.cells.set _ _).length k (YW w k) (QB w k) h';rw [List.length_set];exact H'
   ·intro k hk;rw [hB] at hk;simp at hk;have:=Mx k hk.1;rw [key,if_neg hk.2];show Mst (w.cells.set _ _).length (YW w k) (QB w k);rw [List.length_set];exact this
 ·rw [Cq1];refine⟨{R with cn:=fun k a d hd=>?_},Mx⟩;obtain⟨q1,q2⟩:=R.cn k a d hd;refine⟨q1,?_⟩;rcases q2 with z | z | ⟨z1,z2⟩
  ·exact .inl z
  ·exact .inr (.inl z)
  ·subst z1 z2;rw [hc] at hd;cases hd;rw [Bool.or_eq_true] at hu;rcases hu with z | z
   ·exact .inl z
   ·exact .inr (.inl (by simpa using z))
end
end Go.Proofs.Ytekpjgmhkkjhgaa
end
section
namespace Go.Proofs.Ytekpjgmhkkjhgaa
open Go.Lf
section
variable {w w':Za} {n:Int}
theorem Nm.most {M:Nat} {cv:CV} {ns:List Zd} {h:Int} (H:Nm M n cv ns h) (Mx:Mst M cv ns):
 (∀ m c,cv m=some c ->-16 <=c.out∧c.out <=1000000∧0 <=c.has∧c.has <=1000000)∧∀ x ∈ ns,1 <=x.w∧x.w <=1000000:=by
 refine⟨fun m c hc=>?_,fun x hx=>?_⟩
 ·have hr:=H.rng m c hc;have h1:=Mx m hr.1 hr.2;have h2:=H.Zle hc;rw [H.giv,hc] at h1;simp only [XP] at h1;refine⟨h2.1,by split at h1 <;> omega,?_⟩;rcases H.cel m c hc with z | z
  ·have:=H.Zdi hc z.2.1;have:=H.acc c.from_ z.2.1 z.2.2.1;have:=Mx c.from_ z.2.1 z.2.2.1;omega
  ·omega
 ·have hx':=H.nts x hx;refine⟨hx'.2.2.1,?_⟩;rcases hx'.2.2.2 with z | z | z
  ·have h1:=H.UR z.2.1 hx;rw [WV z.1,if_pos rfl] at h1;have:=H.acc _ z.2.1 z.2.2;have:=Mx _ z.2.1 z.2.2;omega
  ·have h1:=H.UR hx'.1.1 hx;rw [ZbN z.1,if_pos rfl] at h1;have:=H.acc _ hx'.1.1 hx'.1.2;have:=Mx _ hx'.1.1 hx'.1.2;omega
  ·omega
theorem ZgV {M:Nat} {cv:CV} {ns:List Zd} {h:Int} (H:Nm M n cv ns h) (Mx:Mst M cv ns) (m:Int):-16 <= (Zb9 n cv m).out∧(Zb9 n cv m).out <=1000000∧0 <= (Zb9 n cv m).has∧(Zb9 n cv m).has <=1000000:=by
 unfold Zb9;cases e:cv m with
 | none=>simp [Zv5]
 | some c=>exact(H.most Mx).1 m c e
theorem Zd7 {fl fl':List Zd} {ex ex':Int ->Int ->Prop} (R:Rx w ex fl) (Mx:Mw w fl) (hn:Yn w n=true) (hfl:∀ x ∈ fl,x.name=n) (Zhk:∀ x ∈ fl',x.name=n) {m:Int} {m':Nat} (hmm:(m':Int)=m) (hm:m' < w.cells.length) {d:Zb} (hd:d.name=n)
 (he:d.use=true∨d.out ≠ 0∨ex' m n) (he2:∀ a k,(k ≠ n∨a ≠ m) ->ex a k ->ex' a k)
 (hN:∃ h,Nm w.cells.length n (Yz (YW w n) m (some d)) (fl' ++ QB w n) h)
 (hM:∀ a:Int,0 <=a ->a < w.cells.length ->(if a=m then d.out else XP (YW w n a)) + YD (Yu a) (fl' ++ QB w n) <=XP (YW w n a) + YD (Yu a) (fl ++ QB w n)):
 Rx (cw w m' (put d (rowOf w m'))) ex' fl'∧Mw (cw w m' (put d (rowOf w m'))) fl'∧YW (cw w m' (put d (rowOf w m'))) n m=some d:=by
 obtain⟨U,V1,V2⟩:=Qk hm R.Yx hd;rw [hmm] at V1;refine⟨R.upd U hn hfl Zhk (fun a c hc=>?_) (fun a k hk=>he2 a k (.inl hk)) ?_,Mx.upd U hfl Zhk ?_,by rw [V1,WG]⟩
 ·rw [V1] at hc;unfold Yz at hc;split at hc
  ·rename_i e;cases hc;rw [e];exact he
  ·rename_i e;rcases(R.cn n a c hc).2 with z | z | z
   ·exact .inl z
   ·exact .inr (.inl z)
   ·exact .inr (.inr (he2 a n (.inr e) z))
 ·rw [V1,V2];exact hN
 ·rw [V1,V2];have:=Mx n hn;rw [ZaN hfl] at this;exact this.put hM
theorem Zxg {fl fl':List Zd} {ex:Int ->Int ->Prop} (R:Rx w ex fl) (Mx:Mw w fl) (hn:Yn w n=true) (hfl:∀ x ∈ fl,x.name=n) (Zhk:∀ x ∈ fl',x.name=n) {y:Zd} (hy:y.name=n)
 (hN:∃ h,Nm w.cells.length n (YW w n) (fl' ++ (QB w n ++ [y])) h)
 (hM:∀ a:Int,0 <=a ->a < w.cells.length ->YD (Yu a) (fl' ++ (QB w n ++ [y])) <=YD (Yu a) (fl ++ QB w n)):
 Rx (sent w y) ex fl'∧Mw (sent w y) fl':=by
 obtain⟨U,V1,V2⟩:=ZeD R.Yx hy;refine⟨R.upd U hn hfl Zhk (fun a c hc=>?_) (fun a k hk z=>z) ?_,Mx.upd U hfl Zhk ?_⟩
 ·rw [V1] at hc;exact(R.cn n a c hc).2
 ·rw [V1,V2];exact hN
 ·rw [V1,V2];have:=Mx n hn;rw [ZaN hfl] at this;intro a a0 a1;have h1:=this a a0 a1;have h2:=hM a a0 a1;unfold JX at h1 ⊢;omega
theorem Ke (m:Nat) (n:Int) (c:Zb):(XD w m n c).notes.length <=w.notes.length + 1∧(XD w m n c).cells.length=w.cells.length∧(XD w m n c).names=w.names∧(c.root=true ->(XD w m n c).notes.length=w.notes.length):=by
 unfold XD;cases (c.use || (c.out !=0))
 ·simp only [Cq0,List.length_set,true_and];cases c.root
  ·cases decide (c.from_ >=0) <;> simp
  ·simp
 ·simp
theorem Wl {m:Nat} (hm:m < w.cells.length) (Yx:U7 (rowOf w m)) {d:Zb} (hd:d.name=n):look (rowOf (cw w m (put d (rowOf w m))) m) n=d:=Q9 (ZiG hm Yx hd)
theorem Zn8 {x:Zd} (R:Rx w KE [x]) (Mx:Mw w [x]):
 Rx (Jc w x) KE []∧Mw (Jc w x) []∧(Jc w x).notes.length <=w.notes.length + 1∧(Jc w x).cells.length=w.cells.length∧(Jc w x).names=w.names:=by
 have hn:=R.nn x (by simp);obtain⟨n,hxn⟩:∃ n,x.name=n:= ⟨_,rfl⟩
 rw [hxn] at hn;have hfl:∀ y ∈ [x],y.name=n:=by simp [hxn]
 have hno:∀ y ∈ ([]:List Zd),y.name=n:=by simp
 obtain⟨h,H⟩:=R.nm n hn;rw [ZaN hfl] at H;have hMx:=Mx n hn;rw [ZaN hfl] at hMx;have H:Nm w.cells.length n (YW w n) (x::QB w n) h:=H;have hx:=H.nts x (by simp);have hxw:= (H.most hMx).2 x (by simp);obtain⟨m',hm'⟩:∃ m',x.Zv.toNat=m':= ⟨_,rfl⟩
 have hmm:(m':Int)=x.Zv:=by omega
 have hm:m' < w.cells.length:=by omega
 have L:=H.look x.Zv;have S:=ZgV H hMx x.Zv;have Zcb:look (rowOf w m') n=Zb9 n (YW w n) x.Zv:=by rw [Zkt hm,hmm]
 unfold Jc;rw [hm',hxn];dsimp only;obtain⟨c,hc⟩:∃ c,Zb9 n (YW w n) x.Zv=c:= ⟨_,rfl⟩
 rw [hc] at L S Zcb;rw [Zcb];have hsrt:=R.Yx m' hm;cases k1:(x.kind==1)
 ·rw [Cq0];cases k2:(x.kind==2)
  ·-- the root
   rw [Cq0]
   have k3:x.kind=3:=by
    rcases hx.2.2.2 with z | z | z
    ·rw [z.1] at k1;cases k1
    ·rw [z.1] at k2;cases k2
    ·exact z.1
   have hh:x.Zv=h:=by rcases hx.2.2.2 with z | z | z <;> omega
   rw [YX (n:=c.out + 16) (by omega) (by omega)]
   have hG:∀ a:Int,(if a=x.Zv then(c.out + 16) else XP (YW w n a)) + YD (Yu a) (QB w n) <=XP (YW w n a) + YD (Yu a) (x::QB w n):=by
    intro a;simp only [YD,Zhu k3];by_cases z:a=x.Zv
    ·rw [if_pos z,if_pos z.symm,z,L.out];omega
    ·rw [if_neg z,if_neg (by omega)];omega
   cases hf:decide (c.from_ >=0)
   ·simp only [Cq0];have hf':¬ 0 <=c.from_:=by simpa using hf
    rw [Wl hm hsrt (by exact L.nam)];have:=H.home k3 L c.use (ys:= []) (by rw [if_neg hf']);rw [List.append_nil] at this;obtain⟨P1,P2,P3⟩:=Zd7 (ex':=fun a k=>a=x.Zv∧k=n) R Mx hn hfl hno hmm hm (d:= ⟨c.name,true,-1,0,c.out + 16,c.use⟩) L.nam (.inr (.inr ⟨rfl,rfl⟩)) (fun a k _ z=>z.elim) ⟨h,this⟩ (fun a _ _=>hG a);obtain⟨Q1,Q2⟩:=Zc8 P1 P2 hmm (by rw [Yq];exact hm) P3;have Q3:=Ke (w:=cw w m' (put ⟨c.name,true,-1,0,c.out + 16,c.use⟩ (rowOf w m'))) m' n ⟨c.name,true,-1,0,c.out + 16,c.use⟩;exact⟨Q1,Q2,Q3.1,Q3.2.1.trans Yq,Q3.2.2.1⟩
   ·simp only [Cq1];have hf':0 <=c.from_:=by simpa using hf
    have hce:c.root=false∧0 <=c.from_∧c.from_ < w.cells.length∧c.from_ ≠ x.Zv∧1 <=c.has:=by rcases L.cel with z | z;exact z;omega
    have hb:XV (cw w m' (put ⟨c.name,true,-1,0,c.out + 16,c.use⟩ (rowOf w m'))) m' n c.from_ c.has=sent (cw w m' (put ⟨c.name,true,-1,0,c.out + 16,c.use⟩ (rowOf w m'))) ⟨2,c.from_,n,0,c.has⟩:=by
     unfold XV;have:(c.from_ != (m':Int))=true:=by simp;omega
     rw [this,Cq1]
    rw [hb];have hrow:rowOf (sent (cw w m' (put ⟨c.name,true,-1,0,c.out + 16,c.use⟩ (rowOf w m'))) ⟨2,c.from_,n,0,c.has⟩) m'=rowOf (cw w m' (put ⟨c.name,true,-1,0,c.out + 16,c.use⟩ (rowOf w m'))) m':=rfl;rw [hrow,Wl hm hsrt (by exact L.nam)];have hH:=H.home k3 L c.use (ys:= [⟨2,c.from_,n,0,c.has⟩]) (by rw [if_pos hf']);obtain⟨U,V1,V2⟩:=Qk (n:=n) hm R.Yx (c:= ⟨c.name,true,-1,0,c.out + 16,c.use⟩) L.nam;obtain⟨U2,W1,W2⟩:=ZeD (w:=cw w m' (put ⟨c.name,true,-1,0,c.out + 16,c.use⟩ (rowOf w m'))) (n:=n) (x:= ⟨2,c.from_,n,0,c.has⟩) (fun a ha=>U.Yx a (by rw [← U.len];exact ha)) rfl;rw [hmm] at V1
    have P1:Rx (sent (cw w m' (put ⟨c.name,true,-1,0,c.out + 16,c.use⟩ (rowOf w m'))) ⟨2,c.from_,n,0,c.has⟩) (fun a k=>a=x.Zv∧k=n) []:=by
     refine R.upd (U.trans U2) hn hfl hno (fun a d hd=>?_) (fun _ _ _ z=>z.elim) ⟨h,?_⟩
     ·rw [W1,V1] at hd;unfold Yz at hd;split at hd
      ·rename_i e;exact .inr (.inr ⟨e,rfl⟩)
      ·rcases(R.cn n a d hd).2 with z | z | z
       ·exact .inl z
       ·exact .inr (.inl z)
       ·exact z.elim
     ·rw [W1,V1,W2,V2];exact hH
    have P2:Mw (sent (cw w m' (put ⟨c.name,true,-1,0,c.out + 16,c.use⟩ (rowOf w m'))) ⟨2,c.from_,n,0,c.has⟩) []:=by
     refine Mx.upd (U.trans U2) hfl hno ?_;rw [W1,V1,W2,V2];refine hMx.put fun a _ _=>?_
     have:=hG a;rw [List.nil_append,Xy,Qs,Zdb rfl];show(if a=x.Zv then(c.out + 16) else XP (YW w n a)) + _ <=_ + YD (Yu a) (x::QB w n);omega
    have P3:YW (sent (cw w m' (put ⟨c.name,true,-1,0,c.out + 16,c.use⟩ (rowOf w m'))) ⟨2,c.from_,n,0,c.has⟩) n x.Zv=some ⟨c.name,true,-1,0,c.out + 16,c.use⟩:=by
     rw [W1,V1,WG]
    obtain⟨Q1,Q2⟩:=Zc8 P1 P2 hmm (by show m' < (cw _ _ _).cells.length;rw [Yq];exact hm) P3;have Q3:=Ke (w:=sent (cw w m' (put ⟨c.name,true,-1,0,c.out + 16,c.use⟩ (rowOf w m'))) ⟨2,c.from_,n,0,c.has⟩) m' n ⟨c.name,true,-1,0,c.out + 16,c.use⟩;refine⟨Q1,Q2,?_,Q3.2.1.trans Yq,Q3.2.2.1⟩;rw [Q3.2.2.2 rfl];show(w.notes ++ [_]).length <=_;simp
  ·-- weight
   rw [Cq1];have k2':x.kind=2:=by simpa using k2
   rw [YX (n:=c.out - x.w) (by omega) (by omega)];have:=H.Zky (.inr k2') L c.use
   obtain⟨P1,P2,P3⟩:=Zd7 (ex':=fun a k=>a=x.Zv∧k=n) R Mx hn hfl hno hmm hm (d:= ⟨c.name,c.root,c.from_,c.has,c.out - x.w,c.use⟩) L.nam (.inr (.inr ⟨rfl,rfl⟩)) (fun a k _ z=>z.elim) ⟨h,this⟩ (fun a _ _=>by
    simp only [List.nil_append,List.cons_append,YD,Zdb k2'];by_cases z:a=x.Zv
    ·rw [if_pos z,z,L.out];omega
    ·rw [if_neg z];omega)
   obtain⟨Q1,Q2⟩:=Zc8 P1 P2 hmm (by rw [Yq];exact hm) P3;have Q3:=Ke (w:=cw w m' (put ⟨c.name,c.root,c.from_,c.has,c.out - x.w,c.use⟩ (rowOf w m'))) m' n ⟨c.name,c.root,c.from_,c.has,c.out - x.w,c.use⟩;exact⟨Q1,Q2,Q3.1,Q3.2.1.trans Yq,Q3.2.2.1⟩
 ·rw [Cq1];have k1':x.kind=1:=by simpa using k1
  have hvr:0 <=x.via∧x.via < w.cells.length:=by rcases hx.2.2.2 with z | z | z <;> omega
  cases g1:((!c.root && (c.from_==-1)) && (x.via !=x.Zv))
  ·rw [Cq0];cases g2:((!c.root && decide (c.from_ >=0)) && (c.from_==x.via))
   ·rw [Cq0];by_cases hv:x.via=x.Zv
    ·have hb:XV (cw w m' (put ⟨c.name,c.root,c.from_,c.has,c.out,true⟩ (rowOf w m'))) m' n x.via x.w=cw w m' (put ⟨c.name,c.root,c.from_,c.has,c.out - x.w,true⟩ (rowOf w m')):=by
      unfold XV;have:(x.via != (m':Int))=false:=by simp;omega
      rw [this,Cq0,Wl hm hsrt (by exact L.nam),ZHv,JE hm,Zxn hsrt (by rfl),YX (n:=c.out - x.w) (by omega) (by omega)]
     rw [hb];have:=H.Zky (.inl ⟨k1',hv⟩) L true
     obtain⟨P1,P2,P3⟩:=Zd7 (ex':=KE) R Mx hn hfl hno hmm hm (d:= ⟨c.name,c.root,c.from_,c.has,c.out - x.w,true⟩) L.nam (.inl rfl) (fun a k _ z=>z.elim) ⟨h,this⟩ (fun a _ _=>by
      simp only [List.nil_append,List.cons_append,YD,WW k1'];by_cases z:a=x.Zv
      ·rw [if_pos z,z,L.out];omega
      ·rw [if_neg z];omega)
     exact⟨P1,P2,by show w.notes.length <=_;omega,Yq,rfl⟩
    ·have hce:YW w n x.Zv=some c:=by
      rcases L.or with z | ⟨z1,z2,z3,z4⟩
      ·exact z
      ·rw [z2,z3] at g1;simp at g1;exact absurd g1 hv
     have hb:XV (cw w m' (put ⟨c.name,c.root,c.from_,c.has,c.out,true⟩ (rowOf w m'))) m' n x.via x.w=sent (cw w m' (put ⟨c.name,c.root,c.from_,c.has,c.out,true⟩ (rowOf w m'))) ⟨2,x.via,n,0,x.w⟩:=by
      unfold XV;have:(x.via != (m':Int))=true:=by simp;omega
      rw [this,Cq1]
     rw [hb];have hH:=H.use hce true
     obtain⟨P1,P2,P3⟩:=Zd7 (ex':=KE) R Mx hn hfl hfl hmm hm (d:= ⟨c.name,c.root,c.from_,c.has,c.out,true⟩) L.nam (.inl rfl) (fun a k _ z=>z.elim) ⟨h,hH⟩ (fun a _ _=>by
      by_cases z:a=x.Zv
      ·rw [if_pos z,z,L.out];exact Int.le_refl _
      ·rw [if_neg z];exact Int.le_refl _)
     obtain⟨U,V1,V2⟩:=Qk (n:=n) hm R.Yx (c:= ⟨c.name,c.root,c.from_,c.has,c.out,true⟩) L.nam;rw [hmm] at V1
     obtain⟨Q1,Q2⟩:=Zxg (n:=n) (y:= ⟨2,x.via,n,0,x.w⟩) P1 P2 (by rw [ZcA U.nms U.fre];exact hn) hfl hno rfl (by
      rw [Yq,V1,V2];exact⟨h,hH.Zsi k1' rfl⟩) (fun a _ _=>by
      rw [V2,List.nil_append,Xy,Qs,Zdb rfl];simp only [List.cons_append,List.nil_append,YD,WW k1'];omega)
     refine⟨Q1,Q2,?_,Yq,rfl⟩;show(w.notes ++ [_]).length <=_;simp
   ·rw [Cq1];simp at g2;rw [YX (n:=c.has + x.w) (by omega) (by omega)];have:=H.Zsh k1' L g2.1.2 g2.2 true
    obtain⟨P1,P2,P3⟩:=Zd7 (ex':=KE) R Mx hn hfl hno hmm hm (d:= ⟨c.name,c.root,c.from_,c.has + x.w,c.out,true⟩) L.nam (.inl rfl) (fun a k _ z=>z.elim) ⟨h,this⟩ (fun a _ _=>by
     simp only [List.nil_append,List.cons_append,YD,WW k1'];by_cases z:a=x.Zv
     ·rw [if_pos z,z,L.out];omega
     ·rw [if_neg z];omega)
    exact⟨P1,P2,by show w.notes.length <=_;omega,Yq,rfl⟩
  ·rw [Cq1];simp at g1;have:=H.Zvk k1' L g1.1.1 g1.1.2 g1.2 true
   obtain⟨P1,P2,P3⟩:=Zd7 (ex':=KE) R Mx hn hfl hno hmm hm (d:= ⟨c.name,c.root,x.via,x.w,c.out,true⟩) L.nam (.inl rfl) (fun a k _ z=>z.elim) ⟨h,this⟩ (fun a _ _=>by
    simp only [List.nil_append,List.cons_append,YD,WW k1'];by_cases z:a=x.Zv
    ·rw [if_pos z,z,L.out];omega
    ·rw [if_neg z];omega)
   exact⟨P1,P2,by show w.notes.length <=_;omega,Yq,rfl⟩
def WJ (w:Za) (k:Nat):Za:= ⟨w.cells,w.notes.take k ++ w.notes.drop (k + 1),w.names,w.freed⟩
theorem ZoO (R:Rt w) {k:Nat} {x:Zd} (hk:w.notes[k]? =some x):Rx (WJ w k) KE [x]∧Mw (WJ w k) [x]:=by
 obtain⟨hkl,hkx⟩:=Li0 hk
 have Zdx:w.notes=w.notes.take k ++ x::w.notes.drop (k + 1):=by
  rw [← hkx,← List.drop_eq_getElem_cons hkl,List.take_append_drop]
 obtain⟨R0,M0⟩:=R.rx
 have hp:∀ n,(QB w n).Perm (flN n [x] ++ QB (WJ w k) n):=by
  intro n;unfold QB WJ flN
  conv=>lhs;rw [Zdx]
  rw [List.filter_append,List.filter_append,List.filter_cons,List.filter_cons];split
  ·exact List.perm_middle
  ·exact List.Perm.refl _
 have hmem:∀ y ∈ [x] ++ (WJ w k).notes,y ∈ w.notes:=by
  intro y hy;rw [Zdx];simp only [WJ,List.mem_append,List.mem_cons,List.mem_singleton,List.not_mem_nil,or_false] at hy ⊢;rcases hy with z | z | z
  ·exact .inr (.inl z)
  ·exact .inl z
  ·exact .inr (.inr z)
 refine⟨{R0 with nn:=fun y hy=>R0.nn y (by simpa using hmem y hy),nm:=fun n hn=>?_},fun n hn=>?_⟩
 ·obtain⟨h,H⟩:=R0.nm n hn;exact⟨h,H.perm (hp n)⟩
 ·have:=M0 n hn;intro a a0 a1;have:=this a a0 a1;unfold JX at this ⊢;rw [← Zfr (hp n)];exact this
theorem Zv2 (R:Rt w) {k:Nat} {x:Zd} (hk:w.notes[k]? =some x):Rt (Jc (WJ w k) x)∧(Jc (WJ w k) x).cells.length=w.cells.length∧(Jc (WJ w k) x).names=w.names:=by
 obtain⟨R0,M0⟩:=ZoO R hk;obtain⟨q1,q2,q3,q4,q5⟩:=Zn8 R0 M0;obtain⟨hkl,_⟩:=Li0 hk;refine⟨q1.rt q2 ?_,q4,q5⟩
 have:(WJ w k).notes.length=w.notes.length - 1:=by
  unfold WJ;simp;omega
 have:=R.nts;omega
end
end Go.Proofs.Ytekpjgmhkkjhgaa
end
section
namespace Go.Proofs.Ytekpjgmhkkjhgaa
open Go.Lf
theorem ZkG (K:Nat):∀ {r:Row},U7 r ->r.filter (fun c=>decide (c.name < ((K + 1:Nat):Int)))=r.filter (fun c=>decide (c.name < (K:Int))) ++ (Kr r K).toList
 | [],_=>rfl
 | d::r,s=>by
   have hh:=s.head;rw [Xn];by_cases h1:d.name < (K:Int)
   ·rw [List.filter_cons_of_pos (by simp;omega),List.filter_cons_of_pos (by simpa using h1),if_neg (by omega),ZkG K s.tail];rfl
   ·have h3:r.filter (fun c=>decide (c.name < (K:Int)))= []:=by
     rw [List.filter_eq_nil_iff];intro c hc;have:=hh c hc;simp;omega
    have h4:r.filter (fun c=>decide (c.name < ((K + 1:Nat):Int)))= []:=by
     rw [List.filter_eq_nil_iff];intro c hc;have:=hh c hc;simp;omega
    rw [List.filter_cons_of_neg (p:=fun c:Zb=>decide (c.name < (K:Int))) (by simpa using h1),h3];by_cases h2:d.name= (K:Int)
    ·rw [List.filter_cons_of_pos (by simp;omega),h4,if_pos h2];rfl
    ·rw [List.filter_cons_of_neg (by simp;omega),h4,if_neg h2,ZiF (by intro c hc;have:=hh c hc;omega)];rfl
def Zj3 (a:Int) (c:Zb) (s:List (List Zb)):List (List Zb):=s.set a.toNat ((s[a.toNat]?.getD []) ++ [c])
section
variable {w:Za} {st:Store}
theorem Zqa {m:Nat} (Yx:U7 (rowOf w m)) (hn:∀ c ∈ rowOf w m,0 <=c.name) {s:List (List Zb)} (hs:s[m]? =some []) (K:Nat):
 (List.range K).foldl (fun s n=>Jt w Zj3 m n s) s=s.set m ((rowOf w m).filter fun c=>decide (c.name < (K:Int))):=by
 have hm:m < s.length:= (Li0 hs).1
 induction K with
 | zero=>
   have:(rowOf w m).filter (fun c=>decide (c.name < ((0:Nat):Int)))= []:=by
    rw [List.filter_eq_nil_iff];intro c hc;have:=hn c hc;simp;omega
   rw [this,set_self hs];rfl
 | succ K ih=>
   rw [List.range_succ,List.foldl_append,ih];simp only [List.foldl_cons,List.foldl_nil];rw [ZkG K Yx];unfold Jt;rw [Y9];cases hf:Kr (rowOf w m) (K:Int) with
   | none=>simp
   | some c=>
     dsimp only;unfold Zj3;rw [Int.toNat_natCast,List.getElem?_set_self hm,List.set_set]
     rfl
theorem Zp9 {N:Nat} (Yx:∀ m,m < w.cells.length ->U7 (rowOf w m)) (hn:∀ m,m < w.cells.length ->∀ c ∈ rowOf w m,0 <=c.name∧c.name < (N:Int)):
 (List.range w.cells.length).foldl (fun s m=>(List.range N).foldl (fun s n=>Jt w Zj3 m n s) s) (List.replicate w.cells.length [])=w.cells:=by
 have key:∀ M,M <=w.cells.length ->((List.range M).foldl (fun s m=>(List.range N).foldl (fun s n=>Jt w Zj3 m n s) s) (List.replicate w.cells.length [])).length=w.cells.length∧
  ∀ i,i < w.cells.length ->((List.range M).foldl (fun s m=>(List.range N).foldl (fun s n=>Jt w Zj3 m n s) s) (List.replicate w.cells.length []))[i]? =some (if i < M then rowOf w i else []):=by
  intro M
  induction M with
  | zero=>intro _;simp;intro i hi;simp [hi]
  | succ M ih=>
    intro hM;obtain⟨i1,i2⟩:=ih (by omega);rw [List.range_succ,List.foldl_append];simp only [List.foldl_cons,List.foldl_nil];rw [Zqa (Yx M (by omega)) (fun c hc=>(hn M (by omega) c hc).1) (by rw [i2 M (by omega),if_neg (by omega)])]
    have hfull:(rowOf w M).filter (fun c=>decide (c.name < (N:Int)))=rowOf w M:=by
     rw [List.filter_eq_self];intro c hc;simpa using (hn M (by omega) c hc).2
    rw [hfull];refine⟨by rw [List.length_set,i1],fun i hi=>?_⟩;by_cases e:i=M
    ·subst e;rw [List.getElem?_set_self (by rw [i1];exact hi),if_pos (by omega)]
    ·rw [List.getElem?_set_ne (fun z=>e z.symm),i2 i hi];congr 1;by_cases z:i < M
     ·rw [if_pos z,if_pos (by omega)]
     ·rw [if_neg z,if_neg (by omega)]
 obtain⟨k1,k2⟩:=key w.cells.length (Nat.le_refl _);apply List.ext_getElem?;intro i;by_cases hi:i < w.cells.length
 ·rw [k2 i hi,if_pos hi,Qz hi]
 ·rw [List.getElem?_eq_none (by omega),List.getElem?_eq_none (by omega)]
theorem Szd.ZeH (n12:w.names <=12) {m:Nat} (Yx:U7 (rowOf w m)) (hn:∀ c ∈ rowOf w m,0 <=c.name∧c.name < w.names):(rowOf w m).length <=12:=by
 have h0:((rowOf w m).map fun c=>c.name).Pairwise (· < ·):=by rw [List.pairwise_map];exact Yx
 by_cases e:0 <=w.names
 ·have:=Zbs (b:=w.names) (a:=0) h0 (by
   intro x hx;obtain⟨c,hc,rfl⟩:=List.mem_map.1 hx;exact hn c hc) e
  rw [List.length_map] at this;omega
 ·cases h:rowOf w m with
  | nil=>simp
  | cons c r=>have:=hn c (by rw [h];simp);omega
theorem Zxf {F:Nat} (hF:1000 <=F) (sm:Small w) (sz:Szd w) (so:Ql w st) (Yx:∀ m,m < w.cells.length ->U7 (rowOf w m)) (hn:∀ m,m < w.cells.length ->∀ c ∈ rowOf w m,0 <=c.name∧c.name < w.names):ZnG F st=some w:=by
 have hc:=sz.c6;have hno:=sm.notes;have hfr:=sm.freed;have h0:=sz.n0;have h12:=sz.n12;unfold ZnG ZpB ZpA mkL;rw [so.m,so.notes,so.freed]
 have hb:(decide (0 <= (w.cells.length:Int)) && (decide ((w.cells.length:Int) <= (w.cells.length:Int)) && Nat.ble (24 * ((w.cells.length:Int)).toNat) 100000))=true:=by
  rw [Ba0,Ba0];refine⟨by simp,by simp,Nm0 (by omega)⟩
 rw [hb,Cq1,Bq0,XJ (by simp only [List.length_nil];omega) (by decide),XJ (by simp only [List.length_nil];omega) (by decide)];simp only [Bq0,List.nil_append,Int.toNat_natCast]
 obtain⟨h1,_⟩:=Zmy hF sm sz so (z:=Zb.mk 0 false 0 0 0 false) (fun i (s:List (List Zb))=>s.length=w.cells.length∧∀ r ∈ s,r.length <=i) (fun i s h=>⟨h.1,fun r hr=>Nat.le_succ_of_le (h.2 r hr)⟩) (E:=Zf6 st w.notes w.freed) (B1:=ZlW F st w.notes w.freed) (B2:=ZlV st w.notes w.freed)
  (Y:=fun a c s k=>(Ye s a).bind fun x66=>(app 48 x66 [c]).bind fun z74=>(Ye s a).bind fun x78=>k (JD s a z74)) Zj3 (fun v s next=>by simp only [ZlW]) (fun v0 next v s nx=>by
    simp only [ZlV];cases decide (v < st.names)
    ·rfl
    ·simp only [Cq1];rfl) (fun i a c s k ha hi hs=>by
    have hg:s[a]? =some (s[a]'(by omega)):=by simp
    have hl:(s[a]'(by omega)).length <=i:=hs.2 _ (List.getElem_mem _)
    have hset:JD s (a:Int) (s[a]'(by omega) ++ [c])=Zj3 a c s:=by
     unfold JD Zj3;rw [Int.toNat_natCast,hg];rfl
    rw [Z0,hg,Bq0,XJ (by simp;omega) (by decide),Bq0,Bq0,hset];refine⟨rfl,?_,fun r hr=>?_⟩
    ·unfold Zj3;rw [List.length_set];exact hs.1
    ·unfold Zj3 at hr;rcases List.mem_or_eq_of_mem_set hr with z | z
     ·exact Nat.le_succ_of_le (hs.2 r z)
     ·rw [z,Int.toNat_natCast,hg];simp;omega) (List.replicate w.cells.length []) ⟨by simp,by
    intro r hr;rw [List.mem_replicate] at hr;rw [hr.2];simp⟩
 have:=Zp9 (w:=w) Yx (N:=w.names.toNat) (fun m hm c hc=>by have:=hn m hm c hc;omega);rw [h1,this];unfold Zf6;rw [so.n]
theorem Rt.small (R:Rt w):Small w:=by
 have:=R.c6;have:=R.nts;have:=R.ZkE;have:=R.n12;refine⟨by omega,fun r hr=>?_,by omega,by omega⟩;obtain⟨m,hm⟩:=List.getElem?_of_mem hr;have hml:= (Li0 hm).1;have e:r=rowOf w m:=by have:=Qz hml;rw [hm] at this;exact Oi0 this
 have:=Szd.ZeH R.n12 (R.Yx m hml) (fun c hc=>by have:= (R.cn m hml c hc).1;unfold Yn at this;simp at this;exact this.1);rw [e];omega
theorem Rt.names (R:Rt w):∀ m,m < w.cells.length ->∀ c ∈ rowOf w m,0 <=c.name∧c.name < w.names:=fun m hm c hc=>by
 have:= (R.cn m hm c hc).1;unfold Yn at this;simp at this;exact this.1
theorem Rt.shut {F:Nat} (hF:1000 <=F) (R:Rt w) (so:Ql w st):ZnG F st=some w:=Zxf hF R.small R.shp.szd so R.Yx R.names
theorem Rt.open_ {F:Nat} (hF:1000 <=F) (R:Rt w):∃ st,ZiP F w=some st∧Ql w st∧UK st.cells:=by
 obtain⟨cs,q1,q2⟩:=Zlf hF R.small R.shp;obtain⟨cs',q3,q4⟩:=Zxq hF R.small;rw [q1] at q3;have:cs=cs':=congrArg Store.cells (Oi0 q3);subst this;exact⟨_,q1,⟨rfl,rfl,rfl,rfl,q2⟩,q4⟩
theorem Rt.copy {F:Nat} (hF:1000 <=F) (R:Rt w) (so:Ql w st):∃ st',Zvw F st=some st'∧Ql w st'∧UK st'.cells:=by
 obtain⟨st',q1,q2,q3⟩:=R.open_ hF;refine⟨st',?_,q2,q3⟩;unfold Zvw;rw [R.shut hF so,Bq0,q1];rfl
end
end Go.Proofs.Ytekpjgmhkkjhgaa
end
section
namespace Go.Proofs.Ytekpjgmhkkjhgaa
open Go.Lf
def Jj (d:Zn) (M:Int):Bool:=
 bif d.Z6==1 then(((decide (d.at_ >=0)) && (decide (d.at_ < M))) && (d.name==0)) && (d.Zv==0)
 else bif(d.Z6==2 || d.Z6==4) then(((decide (d.at_ >=0)) && (decide (d.at_ < M))) && ((decide (d.Zv >=0)) && (decide (d.Zv < M)))) && ((d.at_ !=d.Zv) && decide (d.name >=0))
 else bif d.Z6==3 then(((decide (d.at_ >=0)) && (decide (d.at_ < M))) && (decide (d.name >=0))) && (d.Zv==0)
 else(((d.Z6==5) && (decide (d.at_ >=0))) && (d.name==0)) && (d.Zv==0)
theorem Zsq (d:Zn) (M:Int):Zsw d M=some (Jj d M):=by
 unfold Zsw Jj ZiQ;generalize (d.Z6==1)=b1;generalize (d.Z6==2)=b2;generalize (d.Z6==3)=b3;generalize (d.Z6==4)=b4;generalize (d.Z6==5)=b5;cases b1 <;> cases b2 <;> cases b3 <;> cases b4 <;> cases decide (d.at_ >=0) <;> cases decide (d.at_ < M) <;> simp [Bool.and_assoc]
theorem Y0 {d:Zn} {M:Int} (h:Jj d M=true):
 (d.Z6=1∧0 <=d.at_∧d.at_ < M)∨((d.Z6=2∨d.Z6=4)∧(0 <=d.at_∧d.at_ < M)∧(0 <=d.Zv∧d.Zv < M)∧d.at_ ≠ d.Zv∧0 <=d.name)∨(d.Z6=3∧(0 <=d.at_∧d.at_ < M)∧0 <=d.name)∨(d.Z6=5∧0 <=d.at_):=by
 unfold Jj at h;by_cases k1:d.Z6=1
 ·simp [k1] at h;exact .inl ⟨k1,h.1.1⟩
 ·by_cases k2:d.Z6=2
  ·simp [k2] at h;exact .inr (.inl ⟨.inl k2,h.1.1,h.1.2,h.2.1,h.2.2⟩)
  ·by_cases k4:d.Z6=4
   ·simp [k4] at h;exact .inr (.inl ⟨.inr k4,h.1.1,h.1.2,h.2.1,h.2.2⟩)
   ·by_cases k3:d.Z6=3
    ·simp [k3] at h;exact .inr (.inr (.inl ⟨k3,h.1.1,h.1.2⟩))
    ·simp [k1,k2,k3,k4] at h;exact .inr (.inr (.inr ⟨h.1.1.1,h.1.1.2⟩))
def Yf (w:Za) (d:Zn):Za:=
 bif d.Z6==1 then ZeL w d.at_.toNat
 else bif d.Z6==2 then ZeF w d d.at_.toNat (look (rowOf w d.at_.toNat) d.name)
 else bif d.Z6==5 then Jc (WJ w d.at_.toNat) (w.notes[d.at_.toNat]?.getD ⟨0,0,0,0,0⟩)
 else bif d.Z6==3 then Zha w d.at_.toNat d.name (look (rowOf w d.at_.toNat) d.name)
 else goW w d d.at_.toNat (look (rowOf w d.at_.toNat) d.name)
section
variable {w:Za} {n:Int}
theorem Rx.range {ex:Int ->Int ->Prop} {fl:List Zd} (R:Rx w ex fl):∀ m,m < w.cells.length ->∀ c ∈ rowOf w m,0 <=c.name∧c.name < w.names:=fun m hm c hc=>by
 have:= (R.cn c.name m c (by rw [Jb hm];exact Zpu (R.Yx m hm) hc)).1;unfold Yn at this;simp at this;exact this.1
theorem Rx.small {ex:Int ->Int ->Prop} {fl:List Zd} (R:Rx w ex fl) (hl:w.notes.length < 900):Small w:=by
 have:=R.c6;have:=R.n12;have hf:=Zbs R.fr R.frr R.n0;refine⟨by omega,fun r hr=>?_,by omega,by omega⟩;obtain⟨m,hm⟩:=List.getElem?_of_mem hr;have hml:= (Li0 hm).1;have e:r=rowOf w m:=by have:=Qz hml;rw [hm] at this;exact Oi0 this
 have:=Szd.ZeH R.n12 (R.Yx m hml) (R.range m hml);rw [e];omega
theorem Rx.szd {ex:Int ->Int ->Prop} (R:Rx w ex []):Szd w:= ⟨R.c6,R.n0,R.n12,fun x hx=>by
 have hn:=R.nn x (by simpa using hx);obtain⟨h,H⟩:=R.nm _ hn;have:= (H.nts x (List.mem_append_right _ (List.mem_filter.2 ⟨hx,by simp⟩))).2.2.2;rcases this with z | z | z
 ·exact .inl z.1
 ·exact .inr (.inl z.1)
 ·exact .inr (.inr z.1)⟩
theorem Rt.Qn (R:Rt w) {m:Nat} (hm:m < w.cells.length) {c:Zb} (hc:Kr (rowOf w m) n=some c):look (rowOf w m) n=c∧YW w n m=some c∧Yn w n=true:=by
 have e:YW w n m=some c:=by rw [Jb hm];exact hc
 exact⟨Q9 hc,e,(R.rx.1.cn n m c e).1⟩
theorem Rx.Zd8 (R:Rx w KE []) (Mx:Mw w []):∀ k a c,YW w k a=some c ->c.out <=1000016:=fun k a c hc=>by
 have hn:= (R.cn k a c hc).1;obtain⟨h,H⟩:=R.nm k hn;have:= (H.most (Mx k hn)).1 a c hc;omega
theorem Zd6 (R:Rt w) (hn:Yn w n=true) {m:Nat} (hm:m < w.cells.length) {d:Zb} (hd:d.name=n) {y:Zd} (hy:y.name=n) (hu:d.use=true∨d.out ≠ 0)
 (hN:∃ h,Nm w.cells.length n (Yz (YW w n) m (some d)) (QB w n ++ [y]) h):Rx (sent (cw w m (put d (rowOf w m))) y) KE []:=by
 obtain⟨R0,M0⟩:=R.rx;obtain⟨U,V1,V2⟩:=Qk hm R.Yx hd;obtain⟨U2,W1,W2⟩:=ZeD (w:=cw w m (put d (rowOf w m))) (n:=n) (x:=y) (fun a ha=>U.Yx a (by rw [← U.len];exact ha)) hy;refine R0.upd (U.trans U2) hn (by simp) (by simp) (fun a c hc=>?_) (fun _ _ _ z=>z) ?_
 ·rw [W1,V1] at hc;unfold Yz at hc;split at hc
  ·cases hc;exact hu.elim .inl fun z=>.inr (.inl z)
  ·exact(R0.cn n a c hc).2
 ·rw [W1,W2,V1,V2];exact hN
theorem ZA5 (R:Rt w) {d:Zn} {m:Nat} (hm:m < w.cells.length) (hat:d.at_= (m:Int)) (hto:0 <=d.Zv∧d.Zv < (w.cells.length:Int)) {c:Zb} (hc:Kr (rowOf w m) d.name=some c) (hu:c.use=true):Rx (ZeF w d m c) KE []:=by
 obtain⟨_,e,hn⟩:=R.Qn hm hc;obtain⟨h,H,Mx⟩:=R.nm _ hn;have S:= (H.most Mx).1 _ c e;have hcn:=Qg hc;unfold ZeF;cases hb:(decide (c.from_ >=0) && decide (c.has >=2))
 ·rw [Cq0,YX (n:=c.out + 16) (by omega) (by omega)];exact Zd6 R hn hm (d:= ⟨c.name,c.root,c.from_,c.has,c.out + 16,c.use⟩) (y:= ⟨1,d.Zv,d.name,d.at_,16⟩) hcn rfl (.inl hu) ⟨h,H.Zxj (w:=16) e hto (by decide) (by rw [hat])⟩
 ·rw [Cq1];simp at hb;have e1:c.has.tdiv 2=c.has / 2:=Int.tdiv_eq_ediv_of_nonneg (by omega);rw [e1,YX (n:=c.has / 2) (by omega) (by omega),YX (n:=c.has - c.has / 2) (by omega) (by omega)];exact Zd6 R hn hm (d:= ⟨c.name,c.root,c.from_,c.has - c.has / 2,c.out,c.use⟩) (y:= ⟨1,d.Zv,d.name,c.from_,c.has / 2⟩) hcn rfl (.inl hu) ⟨h,H.Zxh (w:=c.has / 2) e hb.1 hto (by omega) (by omega) rfl⟩
theorem ZG9 (R:Rt w) {d:Zn} {m:Nat} (hm:m < w.cells.length) (hat:d.at_= (m:Int)) (hto:0 <=d.Zv∧d.Zv < (w.cells.length:Int)) (hne:d.at_ ≠ d.Zv) {c:Zb} (hc:Kr (rowOf w m) d.name=some c) (hr:c.root=true):Rx (goW w d m c) KE []:=by
 obtain⟨_,e,hn⟩:=R.Qn hm hc;obtain⟨h,H,Mx⟩:=R.nm _ hn;have hcn:=Qg hc;unfold goW;have hu:c.use=true∨c.out ≠ 0:= (R.cn m hm c (ZbW hc)).2;exact Zd6 R hn hm (d:=goC c d.Zv) hcn rfl hu ⟨d.Zv,H.go e hr hto (by omega) rfl⟩
theorem Zmh (R:Rt w) {m:Nat} (hm:m < w.cells.length) {c:Zb} (hc:Kr (rowOf w m) n=some c):Rx (Zha w m n c) KE []∧Mw (Zha w m n c) []:=by
 obtain⟨_,e,hn⟩:=R.Qn hm hc;obtain⟨h,H,Mx⟩:=R.nm _ hn;obtain⟨R0,M0⟩:=R.rx;have hcn:=Qg hc
 obtain⟨P1,P2,P3⟩:=Zd7 (n:=n) (fl:= []) (fl':= []) (m:=m) (m':=m) (ex':=fun a k=>a= (m:Int)∧k=n) R0 M0 hn (by simp) (by simp) rfl hm (d:=ZaR c) hcn (.inr (.inr ⟨rfl,rfl⟩)) (fun a k _ z=>z.elim) ⟨h,H.use e false⟩ (fun a _ _=>by
  by_cases z:a= (m:Int)
  ·rw [if_pos z,z,e];exact Int.le_refl _
  ·rw [if_neg z];exact Int.le_refl _)
 unfold Zha;exact Zc8 P1 P2 rfl (by rw [Yq];exact hm) P3
theorem ZBf (R:Rt w) {m:Nat} (hm:m < w.cells.length) (hlt:w.names < 12):Rx (ZeL w m) KE []:=by
 have hn0:=R.n0;obtain⟨R0,M0⟩:=R.rx;obtain⟨U,V1,V2⟩:=Qk (w:=w) (n:=w.names) hm R.Yx (c:=ZfI w) rfl;have hnm:(ZeL w m).names=w.names + 1:=YX (by omega) (by omega)
 have hB:∀ k,Yn (ZeL w m) k= (Yn w k || (k==w.names)):=by
  intro k;unfold Yn;rw [hnm];show(decide (0 <=k) && decide (k < w.names + 1) && !(w.freed.any fun y=>y==k))=_;by_cases e:k=w.names
  ·have:(w.freed.any fun y=>y==k)=false:=by
    rw [List.any_eq_false];intro y hy;have:=R.frr y hy;simp;omega
   rw [this];simp [e];omega
  ·have:decide (k < w.names + 1)=decide (k < w.names):=decide_eq_decide.2 (by omega);rw [this];simp [e]
 have hno:¬ Yn w w.names=true:=by unfold Yn;simp
 have ZJK:YW w w.names=fun _=>none:=by
  funext a;cases e:YW w w.names a with
  | none=>rfl
  | some c=>exact absurd (R0.cn _ _ _ e).1 hno
 have hns0:QB w w.names= []:=by
  unfold QB;rw [List.filter_eq_nil_iff];intro x hx;have:=R.nn x hx;intro z;have z:x.name=w.names:=by simpa using z
  rw [z] at this;exact hno this
 have ZFy:YW (ZeL w m) w.names=Yz (fun _=>none) m (some (ZfI w)):=by
  show YW (cw w m (put (ZfI w) (rowOf w m))) w.names=_;rw [V1,ZJK]
 have hlen:(ZeL w m).cells.length=w.cells.length:=Yq;refine⟨by rw [hlen];exact R.c1,by rw [hlen];exact R.c6,by rw [hnm];omega,by rw [hnm];omega,R.fr,fun x hx=>?_,fun a ha=>?_,fun k a c hc=>?_,fun x hx=>?_,fun k hk=>?_⟩
 ·have:=R.frr x hx;rw [hnm];omega
 ·exact U.Yx a (by rw [hlen] at ha;exact ha)
 ·rw [hB];by_cases e:k=w.names
  ·subst e;rw [ZFy] at hc;unfold Yz at hc;split at hc
   ·cases hc;exact⟨by simp,.inl rfl⟩
   ·cases hc
  ·have:YW (ZeL w m) k=YW w k:=U.oc k e;rw [this] at hc;have:=R0.cn k a c hc;exact⟨by rw [this.1];rfl,this.2⟩
 ·have hx:x ∈ w.notes:=hx;rw [hB,R.nn x hx];rfl
 ·rw [hlen];by_cases e:k=w.names
  ·subst e;refine⟨m,?_⟩;rw [ZFy];show Nm _ _ _ ([] ++ QB w w.names) _;rw [hns0];exact Nm.fresh ⟨by omega,by omega⟩
  ·rw [hB] at hk;have hk:Yn w k=true:=by simpa [e] using hk
   obtain⟨h,H⟩:=R0.nm k hk;refine⟨h,?_⟩;have:YW (ZeL w m) k=YW w k:=U.oc k e;rw [this];exact H
theorem Zxv (R:Rt w) {m:Nat} (hm:m < w.cells.length):∀ k a c,YW (ZeL w m) k a=some c ->c.out <=1000016:=fun k a c hc=>by
 obtain⟨R0,M0⟩:=R.rx;obtain⟨U,V1,V2⟩:=Qk (w:=w) (n:=w.names) hm R.Yx (c:=ZfI w) rfl;have hc:YW (cw w m (put (ZfI w) (rowOf w m))) k a=some c:=hc;by_cases e:k=w.names
 ·subst e;rw [V1] at hc;unfold Yz at hc;split at hc
  ·cases hc;show(0:Int) <=_;omega
  ·exact R0.Zd8 M0 _ _ _ hc
 ·rw [U.oc k e] at hc;exact R0.Zd8 M0 _ _ _ hc
theorem ZeE (x:Zd):(sent w x).notes.length=w.notes.length + 1:=by unfold sent;simp
theorem Zm1 (d:Zn) (m:Nat) (c:Zb):(ZeF w d m c).notes.length=w.notes.length + 1∧(ZeF w d m c).cells.length=w.cells.length∧(ZeF w d m c).names=w.names:=by
 unfold ZeF;cases (decide (c.from_ >=0) && decide (c.has >=2))
 ·rw [Cq0];exact⟨ZeE _,Yq,rfl⟩
 ·rw [Cq1];exact⟨ZeE _,Yq,rfl⟩
theorem QC {d:Zn} {m:Nat} (h1:d.Z6 ≠ 1) (h5:d.Z6 ≠ 5) (he:YS w d m=0):∃ c,Kr (rowOf w m) d.name=some c∧(d.Z6=4 ->c.root=true)∧(d.Z6 ≠ 4 ->c.use=true):=by
 unfold YS at he;have b1:(d.Z6==1)=false:=by simp [h1]
 have b5:(d.Z6==5)=false:=by simp [h5]
 rw [b1,b5] at he;simp only [Cq0] at he;cases hf:Kr (rowOf w m) d.name with
 | none=>rw [hf] at he;cases he
 | some c=>
   rw [hf] at he;refine⟨c,rfl,fun h4=>?_,fun h4=>?_⟩
   ·rw [h4] at he;dsimp only at he;cases hr:c.root with
    | true=>rfl
    | false=>rw [hr] at he;simp at he
   ·have b4:(d.Z6==4)=false:=by simp [h4]
    rw [b4] at he;dsimp only at he;cases hr:c.use with
    | true=>rfl
    | false=>rw [hr] at he;simp at he
theorem Zcs (R:Rt w) {m:Nat} (hm:m < w.cells.length) {d:Zb} (hd:d.name=n) {y:Zd} (ho:d.out <=1000016):∀ k a c,YW (sent (cw w m (put d (rowOf w m))) y) k a=some c ->c.out <=1000016:=fun k a c hc=>by
 obtain⟨R0,M0⟩:=R.rx;obtain⟨U,V1,V2⟩:=Qk hm R.Yx hd;have hc:YW (cw w m (put d (rowOf w m))) k a=some c:=hc;by_cases e:k=n
 ·subst e;rw [V1] at hc;unfold Yz at hc;split at hc
  ·cases hc;exact ho
  ·exact R0.Zd8 M0 _ _ _ hc
 ·rw [U.oc k e] at hc;exact R0.Zd8 M0 _ _ _ hc
theorem Zxi (R:Rt w) {d:Zn} {m:Nat} (hm:m < w.cells.length) {c:Zb} (hc:Kr (rowOf w m) d.name=some c):∀ k a x,YW (ZeF w d m c) k a=some x ->x.out <=1000016:=by
 obtain⟨_,e,hn⟩:=R.Qn hm hc;obtain⟨h,H,Mx⟩:=R.nm _ hn;have S:= (H.most Mx).1 _ c e;have hcn:=Qg hc;unfold ZeF;cases hb:(decide (c.from_ >=0) && decide (c.has >=2))
 ·rw [Cq0,YX (n:=c.out + 16) (by omega) (by omega)];exact Zcs R hm (d:= ⟨c.name,c.root,c.from_,c.has,c.out + 16,c.use⟩) hcn (by show c.out + 16 <=_;omega)
 ·rw [Cq1];exact Zcs R hm (d:= ⟨c.name,c.root,c.from_,ZF (c.has - ZF (c.has.tdiv 2)),c.out,c.use⟩) hcn (by show c.out <=_;omega)
theorem Zmi (R:Rt w) {d:Zn} (hf:Jj d w.cells.length=true) (he:YS w d d.at_.toNat=0):
 Rx (Yf w d) KE []∧(Yf w d).notes.length <=82∧(Yf w d).cells.length=w.cells.length∧(d.Z6 ≠ 1 ->(Yf w d).names=w.names)∧∀ k a c,YW (Yf w d) k a=some c ->c.out <=1000016:=by
 have hnl:=R.nts;obtain⟨R0,M0⟩:=R.rx;unfold Yf;rcases Y0 hf with⟨k,a⟩ | ⟨k,a,t,ne,nm⟩ | ⟨k,a,nm⟩ | ⟨k,a⟩
 ·rw [k];simp only [beq_self_eq_true,Cq1]
  have:w.names < 12:=by
   unfold YS at he;rw [k] at he;simp only [beq_self_eq_true,Cq1] at he;cases hb:decide (w.names >=12) with
   | true=>rw [hb] at he;cases he
   | false=>simpa using hb
  exact⟨ZBf R (by omega) this,by show w.notes.length <=82;omega,Yq,fun z=>absurd rfl z,fun k a c hc=>Zxv R (by omega) k a c hc⟩
 ·have hm:d.at_.toNat < w.cells.length:=by omega
  have hat:d.at_= (d.at_.toNat:Int):=by omega
  rcases k with k | k
  ·obtain⟨c,hc,_,hu⟩:=QC (by omega) (by omega) he;have hl:= (R.Qn hm hc).1;rw [k,hl];simp only [beq_self_eq_true,Cq1,show((2:Int)==1)=false from rfl,Cq0];obtain⟨q1,q2,q3⟩:=Zm1 (w:=w) d d.at_.toNat c;exact⟨ZA5 R hm hat t hc (hu (by omega)),by omega,q2,fun _=>q3,Zxi R hm hc⟩
  ·obtain⟨c,hc,hr,_⟩:=QC (by omega) (by omega) he;have hl:= (R.Qn hm hc).1;rw [k,hl];simp only [show((4:Int)==1)=false from rfl,show((4:Int)==2)=false from rfl,show((4:Int)==3)=false from rfl,show((4:Int)==5)=false from rfl,Cq0];refine⟨ZG9 R hm hat t ne hc (hr k),?_,Yq,fun _=>rfl,Zcs R hm (d:=goC c d.Zv) (n:=d.name) (show c.name=d.name from Qg hc) (by show c.out <=_;exact R0.Zd8 M0 _ _ _ (R.Qn hm hc).2.1)⟩;unfold goW;rw [ZeE];show w.notes.length + 1 <=82;omega
 ·have hm:d.at_.toNat < w.cells.length:=by omega
  obtain⟨c,hc,_,hu⟩:=QC (by omega) (by omega) he;have hl:= (R.Qn hm hc).1;rw [k,hl];simp only [beq_self_eq_true,Cq1,show((3:Int)==1)=false from rfl,show((3:Int)==2)=false from rfl,show((3:Int)==5)=false from rfl,Cq0];have q:=Ke (w:=cw w d.at_.toNat (put (ZaR c) (rowOf w d.at_.toNat))) d.at_.toNat d.name (ZaR c);refine⟨(Zmh R hm hc).1,?_,q.2.1.trans Yq,fun _=>q.2.2.1,(Zmh R hm hc).1.Zd8 (Zmh R hm hc).2⟩;have:=q.1;show(XD _ _ _ _).notes.length <=82;have e:(cw w d.at_.toNat (put (ZaR c) (rowOf w d.at_.toNat))).notes.length=w.notes.length:=rfl;omega
 ·rw [k];simp only [beq_self_eq_true,Cq1,show((5:Int)==1)=false from rfl,show((5:Int)==2)=false from rfl,Cq0]
  have hlt:d.at_.toNat < w.notes.length:=by
   unfold YS at he;rw [k] at he;simp only [beq_self_eq_true,Cq1,show((5:Int)==1)=false from rfl,Cq0] at he;cases hb:decide (d.at_ >= (w.notes.length:Int)) with
   | true=>rw [hb] at he;cases he
   | false=>simp at hb;omega
  have hx:w.notes[d.at_.toNat]? =some (w.notes[d.at_.toNat]'hlt):=by simp
  rw [hx];simp only [Option.getD_some];obtain⟨q1,q2,q3⟩:=Zv2 R hx;have:=q1.nts;exact⟨q1.rx.1,by show(Jc _ _).notes.length <=82;omega,q2,fun _=>q3,q1.rx.1.Zd8 q1.rx.2⟩
end
end Go.Proofs.Ytekpjgmhkkjhgaa
end
section
namespace Go.Proofs.Ytekpjgmhkkjhgaa
open Go.Lf
def Kk (w:Za):Bool:=decide ((w.notes.length:Int) > 80) || (List.range w.cells.length).any fun m=>(List.range w.names.toNat).any fun n=>decide (Ya w m n > 1000000)
section
variable {w:Za} {n:Int} {st:Store} {F:Nat}
theorem UK.JS {κ ν:Type} [DecidableEq κ] {l:List (κ×ν)} (u:UK l) (k:κ) (z:ν):UK (JS l k z):=by
 unfold Go.Lf.JS;cases e:Yc l k with
 | some q=>exact u
 | none=>
   have:Go.Lf.YL l k z=l ++ [(k,z)]:=by unfold Go.Lf.YL;rw [e]
   dsimp only;rw [← this];exact u.YL k z
theorem UK.upd {v:Acc} (u:UK v) (k:Ze) (x:Int):UK (upd v k x):= (u.JS k 0).YL k _
theorem Znc {κ ν:Type} [DecidableEq κ] {l:List (κ×ν)} {k:κ} {x:ν} (h:YV l k=some x):(k,x) ∈ l:=by
 unfold YV at h;cases e:Yc l k with
 | none=>rw [e] at h;cases h
 | some q=>
   rw [e] at h;cases h;exact List.mem_of_getElem? (K7 e)
theorem UK.get {κ ν:Type} [DecidableEq κ]:∀ {l:List (κ×ν)},UK l ->∀ {k:κ} {x:ν},(k,x) ∈ l ->YV l k=some x
 | [],_,_,_,h=>by simp at h
 | p::l,u,k,x,h=>by
   have u':UK l:=by unfold UK at u ⊢;rw [List.map_cons,List.nodup_cons] at u;exact u.2
   have hp:p.1 ∉ l.map (·.1):=by unfold UK at u;rw [List.map_cons,List.nodup_cons] at u;exact u.1
   unfold YV;rw [K8];rcases List.mem_cons.1 h with z | z
   ·subst z;simp
   ·have hne:¬ p.1=k:=fun e=>hp (by rw [e];exact List.mem_map_of_mem (f:= (·.1)) z)
    rw [if_neg hne];have:=u'.get z;unfold YV at this;cases e:Yc l k with
    | none=>rw [e] at this;cases this
    | some q=>rw [e] at this;simpa using this
theorem Zko {κ ν:Type} {b:κ ->ν ->Option Bool} (h:∀ k x,∃ p,b k x=some p):∀ l:List (κ×ν),∃ q,Zkp b l=some q
 | []=>⟨false,rfl⟩
 | x::r=>by
   obtain⟨p,hp⟩:=h x.1 x.2;obtain⟨q,hq⟩:=Zko h r;exact⟨p || q,by unfold Zkp;rw [hp,Bq0,hq,Bq0]⟩
theorem Zzn (R:Rx w KE []) {k:Ze} (hk:¬ ((0 <=k.e0∧k.e0 < (w.cells.length:Int))∧0 <=k.e1∧k.e1 < w.names)):val (Za7 w).1 k=0:=by
 have h0:=R.n0
 have hC:val (Wp w).1 k=0:=by
  unfold Wp;refine UU (fun q:Acc×Acc=>val q.1 k=0) _ _ (fun q m hm hq=>?_) _ rfl;refine UU (fun q:Acc×Acc=>val q.1 k=0) _ _ (fun q n hn hq=>?_) _ hq;rw [List.mem_range] at hm hn;unfold Jt;cases hc:cellOf w m n with
  | none=>exact hq
  | some c=>
    have hcn:=Qc hc;show val (upd q.1 ⟨m,c.name⟩ c.out) k=0;rw [WT,if_neg (fun z=>hk (by rw [z];dsimp only;omega))];exact hq
 unfold Za7;refine UU (fun q:Acc×Acc=>val q.1 k=0) _ _ (fun q x hx hq=>?_) _ hC;have hn:=R.nn x (by simpa using hx);obtain⟨h,H⟩:=R.nm _ hn;have ht:= (H.nts x (List.mem_append_right _ (List.mem_filter.2 ⟨hx,by simp⟩))).1;have hr:0 <=x.name∧x.name < w.names:=by unfold Yn at hn;simp at hn;exact hn.1
 unfold Zqb;cases (x.kind==1)
 ·cases (x.kind==2)
  ·simp only [Cq0];rw [WT,if_neg (fun z=>hk (by rw [z];exact⟨ht,hr⟩))];exact hq
  ·exact hq
 ·exact hq
theorem ZDt:UK (Za7 w).1:=by
 have hC:UK (Wp w).1:=by
  unfold Wp;refine UU (fun q:Acc×Acc=>UK q.1) _ _ (fun q m hm hq=>?_) _ UK.nil;refine UU (fun q:Acc×Acc=>UK q.1) _ _ (fun q n hn hq=>?_) _ hq;unfold Jt;cases hc:cellOf w m n with
  | none=>exact hq
  | some c=>exact hq.upd _ _
 unfold Za7;refine UU (fun q:Acc×Acc=>UK q.1) _ _ (fun q x hx hq=>?_) _ hC;unfold Zqb;cases (x.kind==1)
 ·cases (x.kind==2)
  ·exact hq.upd _ _
  ·exact hq
 ·exact hq
theorem ZrT (hF:1000 <=F) (R:Rx w KE []) (sm:Small w) (so:Ql w st):Za2 F (st.machines,st.names,st.cells,st.notes,st.freed)=some (bif Kk w then .Jq 3 else .ok st):=by
 have sz:=R.szd;have h0:=R.n0;unfold Za2;dsimp only;rw [so.notes];unfold Kk;cases hb:decide ((w.notes.length:Int) > 80)
 ·simp only [Cq0,Bool.false_or];have hst:(⟨st.machines,st.names,st.cells,w.notes,st.freed⟩:Store)=st:=by rw [← so.notes]
  rw [hst,ZmC hF sm sz so,Bq0];obtain⟨q,hq⟩:=Zko (b:=ZfY) (fun k x=>by unfold ZfY;cases decide (x > 1000000);exact⟨_,rfl⟩;exact⟨_,rfl⟩) (Za7 w).1;rw [hq,Bq0];obtain⟨_,q2⟩:=Zed hq
  have:q= ((List.range w.cells.length).any fun m=>(List.range w.names.toNat).any fun n=>decide (Ya w m n > 1000000)):=by
   rw [Bool.eq_iff_iff,q2,List.any_eq_true]
   constructor
   ·rintro⟨⟨k,v⟩,hm,hv⟩
    have hv:v > 1000000:=by
     unfold ZfY at hv;cases hd:decide (v > 1000000) with
     | true=>simpa using hd
     | false=>dsimp only at hv;rw [hd] at hv;cases hv
    have hval:val (Za7 w).1 k=v:=by unfold val;rw [ZDt.get hm];rfl
    by_cases hk:(0 <=k.e0∧k.e0 < (w.cells.length:Int))∧0 <=k.e1∧k.e1 < w.names
    ·refine⟨k.e0.toNat,List.mem_range.2 (by omega),?_⟩;rw [List.any_eq_true];refine⟨k.e1.toNat,List.mem_range.2 (by omega),?_⟩;have:= (ZhP sz (a:=k.e0.toNat) (n:=k.e1.toNat) (by omega) (by omega)).1
     have e:(⟨((k.e0.toNat:Nat):Int),((k.e1.toNat:Nat):Int)⟩:Ze)=k:=by
      cases k;dsimp only at *;congr 1 <;> omega
     rw [e,hval] at this;rw [← this];simpa using hv
    ·rw [Zzn R hk] at hval;omega
   ·rintro⟨m,hm,hn⟩;rw [List.any_eq_true] at hn;obtain⟨n,hn,hg⟩:=hn;rw [List.mem_range] at hm hn;have hg:Ya w m n > 1000000:=by simpa using hg
    have:= (ZhP sz (a:=m) (n:=n) hm (by omega)).1;rw [← this] at hg;unfold val at hg;cases e:YV (Za7 w).1 (⟨(m:Int),(n:Int)⟩:Ze) with
    | none=>rw [e] at hg;simp at hg
    | some v=>
      rw [e] at hg;refine⟨_,Znc e,?_⟩;unfold ZfY;dsimp only;rw [decide_eq_true (by simpa using hg)];rfl
  rw [← this];cases q <;> rfl
 ·rfl
theorem Zwe {l:List Int} (h:l.Pairwise (· < ·)):Asc l:=h.imp fun z=>Int.le_of_lt z
theorem Rt.ci (R:Rt w) {m:Nat} (hm:m < w.cells.length) {c:Zb} (hc:c ∈ rowOf w m):CI c:=by
 have:= (KR (R.Wx hm hc)).2.2.2;rcases this with z | z
 ·exact .inl ⟨z.2.1,z.1⟩
 ·exact .inr z
theorem Rt.Zny (R:Rt w) (h:∃ n,Yn w n=true):w.freed.length <=11:=by
 obtain⟨n,hn⟩:=h;unfold Yn at hn;simp at hn;have h12:=R.n12
 have key:∀ (l:List Int) (a:Int),l.Pairwise (· < ·) ->(∀ x ∈ l,a <=x∧x < w.names) ->n ∉ l ->a <=n ->a + (l.length:Int) + 1 <=w.names:=by
  intro l
  induction l with
  | nil=>intro a _ _ _ h;simp;omega
  | cons x l ih=>
    intro a p hr hx ha;rw [List.pairwise_cons] at p;have h0:=hr x (by simp);have hne:n ≠ x:=fun z=>hx (by rw [z];simp)
    by_cases hlt:n < x
    ·have:=Zbs (l:=l) (a:=x + 1) (b:=w.names) p.2 (fun y hy=>by have h1:=p.1 y hy;have h2:=hr y (by simp [hy]);omega) (by omega);simp only [List.length_cons];omega
    ·have:=ih (x + 1) p.2 (fun y hy=>by have h1:=p.1 y hy;have h2:=hr y (by simp [hy]);omega) (fun z=>hx (by simp [z])) (by omega);simp only [List.length_cons];omega
 have:=key w.freed 0 R.fr R.frr (fun z=>hn.2 n z rfl) hn.1.1;omega
theorem ZrU (sm:Small w) (k:Nat):Small (WJ w k):= ⟨sm.cells,sm.rows,by have:=sm.notes;unfold WJ;simp;omega,sm.freed⟩
end
end Go.Proofs.Ytekpjgmhkkjhgaa
end
section
namespace Go.Proofs.Ytekpjgmhkkjhgaa
open Go.Lf
def Zkb:Za:= ⟨[],[],0,[]⟩
def stepW (w:Za) (d:Zn):Za×Int:=
 bif YS w d d.at_.toNat==0 then(bif Kk (Yf w d) then(Zkb,3) else(Yf w d,0)) else(Zkb,YS w d d.at_.toNat)
def doW (w:Za) (d:Zn):Za×Int:=bif WI w && Jj d w.cells.length then stepW w d else(Zkb,2)
section
variable {w:Za} {n:Int} {st:Store} {F:Nat}
theorem ZsC {d:Zn} (h:d.Z6=1∨d.Z6=5) (m m':Nat):YS w d m=YS w d m':=by
 unfold YS;rcases h with h | h <;> rw [h] <;> rfl
theorem ZpJ (R:Rt w) {d:Zn} (hf:Jj d w.cells.length=true):∃ m,m < w.cells.length∧(d.Z6=1∨d.Z6=5∨d.at_= (m:Int))∧YS w d m=YS w d d.at_.toNat:=by
 have:=R.c1;rcases Y0 hf with⟨k,a⟩ | ⟨k,a,t,ne,nm⟩ | ⟨k,a,nm⟩ | ⟨k,a⟩
 ·exact⟨d.at_.toNat,by omega,.inl k,rfl⟩
 ·exact⟨d.at_.toNat,by omega,.inr (.inr (by omega)),rfl⟩
 ·exact⟨d.at_.toNat,by omega,.inr (.inr (by omega)),rfl⟩
 ·exact⟨0,by omega,.inr (.inl k),ZsC (.inr k) _ _⟩
theorem Rt.Zy8 (R:Rt w) {m:Nat} (hm:m < w.cells.length) (n:Int):CI (look (rowOf w m) n):=by
 unfold look;cases h:Kr (rowOf w m) n with
 | none=>exact CI.blank n
 | some c=>exact R.ci hm (ZbW h)
theorem Zs2 (hF:1000 <=F) (R:Rt w) (so:Ql w st) (u:UK st.cells) {d:Zn} (hf:Jj d w.cells.length=true):
 ∃ st',Zvv F st d=some (bif YS w d d.at_.toNat==0 then(bif Kk (Yf w d) then .Jq 3 else .ok st') else .Jq (YS w d d.at_.toNat))∧(YS w d d.at_.toNat=0 ->Ql (Yf w d) st'∧UK st'.cells):=by
 have sm:=R.small;have hnl:=R.nts;have hrow:∀ m,m < w.cells.length ->(rowOf w m).length <=12:=fun m hm=>Szd.ZeH R.n12 (R.Yx m hm) (R.names m hm)
 obtain⟨m0,hm0,ho,e0⟩:=ZpJ R hf;have hck:=ZpT so hm0 d ho;rw [e0] at hck;unfold Zvv;rw [hck,Bq0];cases hz:(YS w d d.at_.toNat==0)
 ·refine⟨st,rfl,fun z=>?_⟩;rw [z] at hz;cases hz
 ·have he:YS w d d.at_.toNat=0:=by simpa using hz
  obtain⟨X1,X2,X3,X4,X5⟩:=Zmi R hf he;have over:∀ st',Ql (Yf w d) st' ->Za2 F (st'.machines,st'.names,st'.cells,st'.notes,st'.freed)=some (bif Kk (Yf w d) then .Jq 3 else .ok st'):=fun st' s'=>ZrT hF X1 (X1.small (by omega)) s'
  simp only [Cq1];unfold prC;dsimp only;rcases Y0 hf with⟨k,a⟩ | ⟨k,a,t,ne,nm⟩ | ⟨k,a,nm⟩ | ⟨k,a⟩
  ·have hm:d.at_.toNat < w.cells.length:=by omega
   have hat:d.at_= (d.at_.toNat:Int):=by omega
   have hdw:Yf w d=ZeL w d.at_.toNat:=by unfold Yf;rw [k];rfl
   obtain⟨q1,q2⟩:=Zui so u hm (R.Yx _ hm);have ov:=over _ (by rw [hdw];exact q1);refine⟨_,?_,fun _=>⟨by rw [hdw];exact q1,q2⟩⟩;rw [← ov,k];simp only [beq_self_eq_true,Cq1];rw [hat,so.n]
   rfl
  ·have hm:d.at_.toNat < w.cells.length:=by omega
   have hat:d.at_= (d.at_.toNat:Int):=by omega
   rcases k with k | k
   ·obtain⟨c,hc,_,hu⟩:=QC (by omega) (by omega) he;have hl:= (R.Qn hm hc).1;have hdw:Yf w d=ZeF w d d.at_.toNat c:=by unfold Yf;rw [k,hl];rfl
    obtain⟨st',q1,q2,q3⟩:=ZtH so u hm (R.Yx _ hm) (by omega) d hat hc;have ov:=over st' (by rw [hdw];exact q2);refine⟨st',?_,fun _=>⟨by rw [hdw];exact q2,q3⟩⟩;rw [← ov,k];simp only [beq_self_eq_true,Cq1,show((2:Int)==1)=false from rfl,Cq0];rw [q1,Bq0]
   ·obtain⟨c,hc,hr,_⟩:=QC (by omega) (by omega) he;have hl:= (R.Qn hm hc).1;have hdw:Yf w d=goW w d d.at_.toNat c:=by unfold Yf;rw [k,hl];rfl
    obtain⟨st',q1,q2,q3⟩:=Zya so u hm (R.Yx _ hm) (by omega) d hc;have ov:=over st' (by rw [hdw];exact q2);refine⟨st',?_,fun _=>⟨by rw [hdw];exact q2,q3⟩⟩;rw [← ov,k];simp only [beq_self_eq_true,Cq1,show((4:Int)==1)=false from rfl,show((4:Int)==2)=false from rfl,show((4:Int)==3)=false from rfl,Cq0];unfold QG;rw [Bq0,hat,so.get hm,hc];unfold goC at q1;simp only [Option.getD_some];rw [q1,Bq0]
  ·have hm:d.at_.toNat < w.cells.length:=by omega
   have hat:d.at_= (d.at_.toNat:Int):=by omega
   obtain⟨c,hc,_,hu⟩:=QC (by omega) (by omega) he;obtain⟨hl,_,hnb⟩:=R.Qn hm hc;have hdw:Yf w d=Zha w d.at_.toNat d.name c:=by unfold Yf;rw [k,hl];rfl
   obtain⟨st',q1,q2,q3⟩:=ZsE (F:=F) (by omega) so u hm (R.Yx _ hm) (by omega) hc (R.ci hm (ZbW hc)) (Zwe R.fr) (R.Zny ⟨_,hnb⟩);have ov:=over st' (by rw [hdw];exact q2);refine⟨st',?_,fun _=>⟨by rw [hdw];exact q2,q3⟩⟩;rw [← ov,k];simp only [beq_self_eq_true,Cq1,show((3:Int)==1)=false from rfl,show((3:Int)==2)=false from rfl,Cq0];unfold QG;rw [Bq0,hat,so.get hm,hc];unfold ZaR at q1;simp only [Option.getD_some];rw [q1,Bq0]
  ·have hlt:d.at_.toNat < w.notes.length:=by
    have he:=he;unfold YS at he;rw [k] at he;simp only [beq_self_eq_true,Cq1,show((5:Int)==1)=false from rfl,Cq0] at he;cases hb:decide (d.at_ >= (w.notes.length:Int)) with
    | true=>rw [hb] at he;cases he
    | false=>simp at hb;omega
   obtain⟨j,hj⟩:∃ j:Nat,d.at_= (j:Int):= ⟨d.at_.toNat,by omega⟩
   have hjt:d.at_.toNat=j:=by omega
   rw [hjt] at hlt;obtain⟨x,hx⟩:∃ x,w.notes[j]? =some x:= ⟨_,List.getElem?_eq_getElem hlt⟩
   have hdw:Yf w d=Jc (WJ w j) x:=by unfold Yf;rw [k,hjt,hx];rfl
   have hxm:=List.mem_of_getElem? hx;have hxB:=Zbd (R.Wj hxm);have hm:x.Zv.toNat < w.cells.length:=by omega
   have:=hrow _ hm;have so':Ql (WJ w j) ⟨st.machines,st.names,st.cells,w.notes.take j ++ w.notes.drop (j + 1),st.freed⟩:= ⟨so.m,so.n,rfl,so.freed,so.cells⟩
   obtain⟨st',q1,q2,q3⟩:=ZpX (F:=F) (by omega) so' u (ZrU sm j) (m:=x.Zv.toNat) hm (by show(rowOf w _).length < 900;omega) (by unfold WJ;simp;omega) x (by omega) (R.Yx _ hm) (R.Zy8 hm _) (Zwe R.fr) (R.Zny ⟨_,hxB.2.1⟩);have ov:=over st' (by rw [hdw];exact q2);refine⟨st',?_,fun _=>⟨by rw [hdw];exact q2,q3⟩⟩;rw [← ov,k];simp only [beq_self_eq_true,Cq1,show((5:Int)==1)=false from rfl,show((5:Int)==2)=false from rfl,show((5:Int)==3)=false from rfl,show((5:Int)==4)=false from rfl,Cq0];rw [hj,so.notes,Z0,hx,Bq0,Zt1 hlt (by omega),Bq0,q1,Bq0]
theorem Zt0 (R:Rx w KE []) (ho:∀ k a c,YW w k a=some c ->c.out <=1000016) (h:Kk w=false):Rt w:=by
 unfold Kk at h;rw [Bool.or_eq_false_iff,List.any_eq_false] at h;have sz:=R.szd;have hl:w.notes.length <=80:=by have:=h.1;simp at this;omega
 have h0:=R.n0;refine R.rt (fun n hn=>?_) hl;have hnr:0 <=n∧n < w.names:=by unfold Yn at hn;simp at hn;exact hn.1
 intro a a0 a1;have:=h.2 a.toNat (List.mem_range.2 (by omega));rw [Bool.not_eq_true,List.any_eq_false] at this;have:=this n.toNat (List.mem_range.2 (by omega));have:= (by simpa using this:Ya w a.toNat ((n.toNat:Nat):Int) <=1000000)
 rw [show((n.toNat:Nat):Int)=n by omega,Zaj w (by omega)] at this;rw [show((a.toNat:Nat):Int)=a by omega] at this;show JX (YW w n) (QB w n) a <=1000000;obtain⟨h',H⟩:=R.nm n hn;have H:Nm w.cells.length n (YW w n) (QB w n) h':=H;have hg:=H.giv a;have hc:=H.ZDb
 have hb:-16 <=XP (YW w n a)∧XP (YW w n a) <=1000016:=by
  cases e:YW w n a with
  | none=>simp [XP]
  | some c=>exact⟨(H.Zle e).1,ho n a c e⟩
 have:-16 <=JX (YW w n) (QB w n) a∧JX (YW w n) (QB w n) a <=1000032:=by
  rw [hg];split <;> omega
 rw [YX (by omega) (by omega)] at *
 assumption
theorem Zrj (R:Rt w) {d:Zn} (hf:Jj d w.cells.length=true) (he:YS w d d.at_.toNat=0) (hv:Kk (Yf w d)=false):Rt (Yf w d)∧(Yf w d).cells.length=w.cells.length:=by
 obtain⟨X1,X2,X3,X4,X5⟩:=Zmi R hf he;exact⟨Zt0 X1 X5 hv,X3⟩
theorem Ztz {d:Zn} (h:(stepW w d).2=0):YS w d d.at_.toNat=0∧Kk (Yf w d)=false∧(stepW w d).1=Yf w d:=by
 unfold stepW at h ⊢;cases hz:(YS w d d.at_.toNat==0)
 ·rw [hz] at h;have he:YS w d d.at_.toNat ≠ 0:=by simpa using hz
  exact absurd h he
 ·rw [hz] at h;cases ho:Kk (Yf w d)
  ·exact⟨by simpa using hz,rfl,rfl⟩
  ·rw [ho] at h;cases h
theorem ZrJ (hF:1000 <=F) (R:Rt w) (so:Ql w st) {d:Zn} (hf:Jj d w.cells.length=true):
 ((stepW w d).2 ≠ 0∧Zsv F st d=some (none,(stepW w d).2))∨((stepW w d).2=0∧(stepW w d).1=Yf w d∧∃ st',Zsv F st d=some (some st',0)∧Ql (Yf w d) st'∧UK st'.cells):=by
 obtain⟨sc,c1,c2,c3⟩:=R.copy hF so;obtain⟨st',q1,q2⟩:=Zs2 hF R c2 c3 hf;unfold Zsv stepW;rw [c1,Bq0,q1,Bq0];cases hz:(YS w d d.at_.toNat==0)
 ·left;have he:YS w d d.at_.toNat ≠ 0:=by simpa using hz
  exact⟨he,rfl⟩
 ·have he:YS w d d.at_.toNat=0:=by simpa using hz
  obtain⟨q3,q4⟩:=q2 he;cases Kk (Yf w d)
  ·right;exact⟨rfl,rfl,st',rfl,q3,q4⟩
  ·left;exact⟨(fun z=>by cases z),rfl⟩
theorem Zy3 (hF:1000 <=F) (sm:Small w) (d:Zn):ZvI F w d=some (doW w d):=by
 have:=sm.cells;unfold ZvI doW;rw [Zq0 hF sm,Bq0,Zsq];simp only [ZkC,Bq0];cases hr:WI w
 ·rfl
 ·have R:=Rt.of hr;cases hf:Jj d w.cells.length
  ·rfl
  ·simp only [Bool.not_true,Bool.not_false,Cq1,Bool.or_self,Cq0,Bool.and_self];obtain⟨st,o1,o2,o3⟩:=R.open_ hF;rw [o1,Bq0];rcases ZrJ hF R o2 hf with⟨s1,s2⟩ | ⟨s1,s2,st',s3,s4,s5⟩
   ·rw [s2,Bq0];unfold opt;dsimp only;have:((stepW w d).2 !=0)=true:=by simpa using s1
    rw [this,Cq1]
    have e:(stepW w d).1=Zkb:=by
     unfold stepW at s1 ⊢;cases hz:(YS w d d.at_.toNat==0)
     ·rfl
     ·rw [hz] at s1;cases ho:Kk (Yf w d)
      ·rw [ho] at s1;exact absurd rfl s1
      ·rfl
    show some (Zkb,(stepW w d).2)=some (stepW w d);rw [← e]
   ·rw [s3,Bq0];unfold opt;dsimp only;obtain⟨e1,e2,e3⟩:=Ztz s1;have R':= (Zrj R hf e1 e2).1;rw [show((0:Int) !=0)=false from rfl,Cq0,R'.shut hF s4,Bq0,← s2];rw [← s1]
end
end Go.Proofs.Ytekpjgmhkkjhgaa
end
section
namespace Go.Proofs.Ytekpjgmhkkjhgaa
open Go.Lf
theorem nest {α β:Type} {F N K:Nat} (hF:1000 <=F) (hN:N <=6) (hK:K <=12) {ZkR:List α×Int ->(List α×Int ->Option β) ->Option β} {Zob:Int ->(List α×Int ->Option β) ->List α×Int ->(List α×Int ->Option β) ->Option β}
 (add:Nat ->Nat ->List α ->List α) (hadd:∀ m n s,(add m n s).length <=s.length + 1) (d:List α ->Option β)
 (h0:∀ (m:Nat) s next,m < N ->ZkR (s,(m:Int)) next=loop F (Zob m next) (s,0))
 (h0e:∀ s next,ZkR (s,(N:Int)) next=d s)
 (h1:∀ (m:Nat) next (n:Nat) s nx,m < N ->n < K ->s.length < 100 ->Zob m next (s,(n:Int)) nx=nx (add m n s,ZF ((n:Int) + 1)))
 (h1e:∀ (m:Nat) next s nx,m < N ->Zob m next (s,(K:Int)) nx=next (s,ZF ((m:Int) + 1))):
 loop F ZkR ([],0)=d ((List.range N).foldl (fun s m=>(List.range K).foldl (fun s n=>add m n s) s) [])∧((List.range N).foldl (fun s m=>(List.range K).foldl (fun s n=>add m n s) s) []).length <=72:=by
 have inner:∀ (k n F' m:Nat) next s,m < N ->n + k=K ->k < F' ->s.length <=m * K + n ->loop F' (Zob m next) (s,(n:Int))=next ((List.range' n k).foldl (fun s n=>add m n s) s,ZF ((m:Int) + 1))∧((List.range' n k).foldl (fun s n=>add m n s) s).length <= (m + 1) * K:=by
  intro k
  induction k with
  | zero=>
    intro n F' m next s hm hn hF' hs;obtain⟨F',rfl⟩:=Ne0 (n:=F') (by omega);have:n=K:=by omega
    subst this;rw [Yl,h1e m next s _ hm];exact⟨rfl,by rw [Nat.add_mul,Nat.one_mul];exact hs⟩
  | succ k ih=>
    intro n F' m next s hm hn hF' hs;obtain⟨F',rfl⟩:=Ne0 (n:=F') (by omega);have hb:=Nat.mul_le_mul (show m <=5 by omega) hK;rw [Yl,h1 m next n s _ hm (by omega) (by omega),Xk (by omega),List.range'_succ,List.foldl_cons];have:=hadd m n s;exact ih (n + 1) F' m next _ hm (by omega) (by omega) (by omega)
 have outer:∀ (k m F':Nat) s,m + k=N ->k < F' ->s.length <=m * K ->loop F' ZkR (s,(m:Int))=d ((List.range' m k).foldl (fun s m=>(List.range K).foldl (fun s n=>add m n s) s) s)∧((List.range' m k).foldl (fun s m=>(List.range K).foldl (fun s n=>add m n s) s) s).length <=N * K:=by
  intro k
  induction k with
  | zero=>
    intro m F' s hm hF' hs;obtain⟨F',rfl⟩:=Ne0 (n:=F') (by omega);have:m=N:=by omega
    subst this;rw [Yl,h0e];exact⟨rfl,hs⟩
  | succ k ih=>
    intro m F' s hm hF' hs;obtain⟨F',rfl⟩:=Ne0 (n:=F') (by omega);obtain⟨i1,i2⟩:=inner K 0 F m (loop F' ZkR) s (by omega) (by omega) (by omega) (by omega);rw [Yl,h0 m s _ (by omega)];rw [← List.range_eq_range'] at i1 i2;have e:((0:Nat):Int)=0:=rfl;rw [e] at i1;rw [i1,Xk (by omega),List.range'_succ,List.foldl_cons];exact ih (m + 1) F' _ (by omega) (by omega) i2
 obtain⟨o1,o2⟩:=outer N 0 F [] (by omega) (by omega) (by simp);rw [← List.range_eq_range'] at o1 o2;exact⟨o1,Nat.le_trans o2 (Nat.mul_le_mul hN hK)⟩
def Zj2 (w:Za) (m n:Nat) (s:List ZY):List ZY:=bif(Ya w m n !=0) || (Xv w m n !=0) then s ++ [⟨m,n,Ya w m n,Xv w m n⟩] else s
def UF (w:Za):List ZY:= (List.range w.cells.length).foldl (fun s m=>(List.range w.names.toNat).foldl (fun s n=>Zj2 w m n s) s) []
theorem Zop (w:Za) (m n:Nat) (s:List ZY):(Zj2 w m n s).length <=s.length + 1:=by
 unfold Zj2;cases (Ya w m n !=0) || (Xv w m n !=0) <;> simp
theorem ZoL {w:Za} (h:WI w=true):Shp w:=by
 unfold WI at h;rw [Ba0] at h;exact Zcm h.1
section
theorem ZrF {F:Nat} (hF:1000 <=F) {w:Za} (sm:Small w):ZvH F w=some (bif WI w then(UF w,0) else([],2)):=by
 unfold ZvH;rw [Zq0 hF sm,Bq0];cases hr:WI w
 ·rfl
 ·have sh:=ZoL hr;have:=sh.n0;have:=sh.n12;have en:((w.names.toNat:Nat):Int)=w.names:=by omega
  simp only [Bool.not_true,Cq0,Cq1];obtain⟨cs,q1,q2⟩:=Zlf hF sm sh;have so:Ql w ⟨(w.cells.length:Int),w.names,cs,w.notes,w.freed⟩:= ⟨rfl,rfl,rfl,rfl,q2⟩
  rw [q1,Bq0,ZmC hF sm sh.szd so,Bq0];refine(nest (F:=F) (N:=w.cells.length) (K:=w.names.toNat) hF sh.c6 (by omega) (ZkR:=Zi1 F w (Za7 w)) (Zob:=Zi0 w (Za7 w)) (Zj2 w) (Zop w) (fun s=>some (s,0)) (fun m s next hm=>?_) (fun s next=>?_) (fun m next n s nx hm hn hs=>?_) (fun m next s nx hm=>?_)).1
  ·simp only [Zi1];rw [decide_eq_true (by omega),Cq1]
  ·simp only [Zi1];rw [decide_eq_false (by omega),Cq0]
  ·have Zsb:(n:Int) < w.names:=by omega
   obtain⟨g1,g2⟩:=ZhP sh.szd hm Zsb;have p1:QG (Za7 w).1 ⟨(m:Int),(n:Int)⟩ 0=some (Ya w m n):=by rw [← g1];rfl
   have p2:QG (Za7 w).2 ⟨(m:Int),(n:Int)⟩ 0=some (Xv w m n):=by rw [← g2];rfl
   simp only [Zi0];rw [decide_eq_true Zsb,Cq1];simp only [p1,p2,Bq0,ZkC,ZiZ,Zj2];cases h1:(Ya w m n !=0)
   ·simp only [Bool.not_false,Cq1,Bool.false_or];cases (Xv w m n !=0)
    ·rfl
    ·simp only [Cq1];rw [XJ (by simp;omega) (by decide)];rfl
   ·simp only [Bool.true_or,Cq1];rw [XJ (by simp;omega) (by decide)];rfl
  ·simp only [Zi0];rw [decide_eq_false (by omega),Cq0]
end
theorem ZkF {α τ:Type} (k:Nat) (f:List τ ->α ->List τ) (hf:∀ s x,(f s x).length <=s.length + k) (l:List α) (s:List τ):(l.foldl f s).length <=s.length + l.length * k:=by
 induction l generalizing s with
 | nil=>simp
 | cons x l ih=>
   rw [List.foldl_cons];have:=ih (f s x);have:=hf s x;rw [List.length_cons,Nat.add_mul,Nat.one_mul];omega
theorem ZrH {w:Za} (sh:Shp w):(UF w).length <=72:=by
 have:=ZkF w.names.toNat (fun s m=>(List.range w.names.toNat).foldl (fun s n=>Zj2 w m n s) s) (fun s m=>by
  have:=ZkF 1 (fun s n=>Zj2 w m n s) (fun s n=>Zop w m n s) (List.range w.names.toNat) s;rw [List.length_range,Nat.mul_one] at this;exact this) (List.range w.cells.length) []
 rw [List.length_range,List.length_nil,Nat.zero_add] at this;exact Nat.le_trans this (Nat.mul_le_mul sh.c6 (show w.names.toNat <=12 by have:=sh.n12;have:=sh.n0;omega))
end Go.Proofs.Ytekpjgmhkkjhgaa
end
section
namespace Go.Proofs.Ytekpjgmhkkjhgaa
open Go.Lf
section
variable {w:Za} {n:Int} {st:Store} {F:Nat}
def ZqE (p:Int):Za×Int:=bif(decide (1 <=p) && decide (p <=6)) then(⟨List.replicate p.toNat [],[],0,[]⟩,0) else(Zkb,2)
theorem ZqD {p:Int} (h:1 <=p∧p <=6):Rt ⟨List.replicate p.toNat [],[],0,[]⟩:=by
 have hrow:∀ m,rowOf ⟨List.replicate p.toNat [],[],0,[]⟩ m= []:=by
  intro m;unfold rowOf;dsimp only;cases e:(List.replicate p.toNat ([]:List Zb))[m]? with
  | none=>rfl
  | some r=>have:=List.mem_of_getElem? e;rw [List.mem_replicate] at this;exact this.2
 refine⟨by simp;omega,by simp;omega,Int.le_refl _,by show(0:Int) <=12;omega,by simp,.nil,by simp,fun m hm=>by rw [hrow];exact .nil,fun m hm c hc=>by rw [hrow] at hc;simp at hc,by simp,fun n hn=>?_⟩;unfold Yn at hn;simp at hn;omega
theorem ZrZ (hF:1000 <=F) (p:Int):ZvJ F p=some (ZqE p):=by
 unfold ZvJ ZqE
 have e:((decide (p < 1)) || (decide (p > 6)))= !(decide (1 <=p) && decide (p <=6)):=by
  rw [Bool.not_and,← decide_not,← decide_not];congr 1 <;> exact decide_eq_decide.2 (by omega)
 rw [e];cases hb:(decide (1 <=p) && decide (p <=6))
 ·rfl
 ·simp at hb;simp only [Bool.not_true,Cq0,Cq1]
  have so:Ql ⟨List.replicate p.toNat [],[],0,[]⟩ ⟨p,0,[],[],[]⟩:=by
   refine⟨?_,rfl,rfl,rfl,fun a b=>?_⟩
   ·show p= ((List.replicate p.toNat ([]:List Zb)).length:Int);rw [List.length_replicate];omega
   ·show none=_;split
    ·rename_i hr
     symm
     rw [Y9]
     have:rowOf ⟨List.replicate p.toNat [],[],0,[]⟩ a.toNat= []:=by
      unfold rowOf;dsimp only;cases e:(List.replicate p.toNat ([]:List Zb))[a.toNat]? with
      | none=>rfl
      | some r=>have:=List.mem_of_getElem? e;rw [List.mem_replicate] at this;exact this.2
     rw [this];rfl
    ·rfl
  rw [(ZqD hb).shut hF so];rfl
end
end Go.Proofs.Ytekpjgmhkkjhgaa
end
section
namespace Go.Proofs.Ytekpjgmhkkjhgaa
open Go.Lf
section
variable {w:Za} {n:Int} {m:Nat}
end
end Go.Proofs.Ytekpjgmhkkjhgaa
end
section
namespace Go.Proofs.Ytekpjgmhkkjhgaa
open Go.Lf
section
variable {w:Za} {n:Int} {st:Store} {F:Nat}
end
end Go.Proofs.Ytekpjgmhkkjhgaa
end
section
namespace Go.Proofs.Ytekpjgmhkkjhgaa
open Go.Lf
structure U8 (a:Za8):Prop where
 ud:0 <=a.Z6∧a.Z6 <=255
 ua:0 <=a.at_∧a.at_ <=255
 un:0 <=a.name∧a.name <=255
 ut:0 <=a.Zv∧a.Zv <=255
theorem ZbF {a b:Int} (h0:0 <=a) (hb:0 < b):ZfA a b=some (a % b)∧0 <=a % b∧a % b < b:=by
 refine⟨?_,Int.emod_nonneg _ (by omega),Int.emod_lt_of_pos _ hb⟩;unfold ZfA;have:(b==0)=false:=by simp;omega
 rw [this,Cq0,Int.tmod_eq_emod_of_nonneg h0]
structure Zjr (d:Zn) (M nm nt:Int):Prop where
 form:Jj d M=true
 make:d.Z6=1 ->nm < 12
 name:d.Z6=2∨d.Z6=3∨d.Z6=4 ->0 <=d.name∧d.name < nm
 note:d.Z6=5 ->0 <=d.at_∧d.at_ < nt
 kind:d.Z6=1∨d.Z6=2∨d.Z6=3∨d.Z6=4∨d.Z6=5
theorem Zy6 {a:Za8} (u:U8 a) {M nm nt:Int} (hM:1 <=M∧M <=6) (hn:0 <=nm∧nm <=12) (ht:0 <=nt∧nt <=1000):∃ d b,ZvF a M nm nt=some (d,b)∧(b=true ->Zjr d M nm nt):=by
 obtain⟨⟨d0,d1⟩,⟨a0,a1⟩,⟨n0,n1⟩,⟨t0,t1⟩⟩:=u;unfold ZvF;rw [YX (n:=a.at_) (by omega) (by omega),YX (n:=a.name) (by omega) (by omega)];obtain⟨e1,at0,at1⟩:=ZbF (a:=a.at_) (b:=M) a0 (by omega);rw [e1,Bq0];obtain⟨at_,hat⟩:∃ x,a.at_ % M=x:= ⟨_,rfl⟩
 rw [hat] at at0 at1 ⊢
 have ZHd:∀ (name Zv k:Int) (c:Bool),(0 < nm ->0 <=name∧name < nm) ->(1 < M ->(0 <=Zv∧Zv < M)∧Zv ≠ at_) ->(c=true∨c=false) ->∃ d b,Zf7 a M nm nt at_ name Zv k c=some (d,b)∧(b=true ->Zjr d M nm nt):=by
  intro name Zv k c hnm hto _;unfold Zf7;cases c
  ·simp only [Cq0];cases h3:(k==3)
   ·simp only [Cq0];cases h4:(k==4)
    ·simp only [Cq0];cases h0:(nt==0)
     ·simp only [Cq0];rw [YX (n:=a.at_) (by omega) (by omega)]
      have hnt:0 < nt:=by have:nt ≠ 0:=by simpa using h0
                          omega
      obtain⟨e2,b0,b1⟩:=ZbF (a:=a.at_) (b:=nt) a0 hnt;rw [e2,Bq0];refine⟨_,_,rfl,fun _=>⟨?_,fun z=>(by cases z),fun z=>(by rcases z with z | z | z <;> cases z),fun _=>⟨b0,b1⟩,.inr (.inr (.inr (.inr rfl)))⟩⟩;unfold Jj;simp [b0]
     ·simp only [Cq1];exact⟨_,_,rfl,fun z=>by cases z⟩
    ·simp only [Cq1];refine⟨_,_,rfl,fun z=>?_⟩;simp at z;have h1:=hnm (by omega);have h2:=hto (by omega);refine⟨?_,fun z=>(by cases z),fun _=>h1,fun z=>(by cases z),.inr (.inr (.inr (.inl rfl)))⟩;unfold Jj;simp;refine⟨⟨⟨at0,at1⟩,h2.1⟩,fun e=>h2.2 e.symm,h1.1⟩
   ·simp only [Cq1];refine⟨_,_,rfl,fun z=>?_⟩;simp at z;have h1:=hnm (by omega);refine⟨?_,fun z=>(by cases z),fun _=>h1,fun z=>(by cases z),.inr (.inr (.inl rfl))⟩;unfold Jj;simp;exact⟨⟨at0,at1⟩,h1.1⟩
  ·simp only [Cq1];refine⟨_,_,rfl,fun z=>?_⟩;simp at z;have h1:=hnm (by omega);have h2:=hto (by omega);refine⟨?_,fun z=>(by cases z),fun _=>h1,fun z=>(by cases z),.inr (.inl rfl)⟩;unfold Jj;simp;refine⟨⟨⟨at0,at1⟩,h2.1⟩,fun e=>h2.2 e.symm,h1.1⟩
 have ZHe:∀ (name Zv:Int),(0 < nm ->0 <=name∧name < nm) ->(1 < M ->(0 <=Zv∧Zv < M)∧Zv ≠ at_) ->∃ d b,Zf8 a M nm nt at_ name Zv=some (d,b)∧(b=true ->Zjr d M nm nt):=by
  intro name Zv hnm hto;unfold Zf8;obtain⟨e2,b0,b1⟩:=ZbF (a:=a.Z6) (b:=9) d0 (by omega);rw [e2,Bq0];cases h0:(a.Z6 % 9==0)
  ·simp only [Cq0];cases h1:(a.Z6 % 9==1)
   ·simp only [Cq0];exact ZHd name Zv _ _ hnm hto (by cases (a.Z6 % 9==2) <;> simp)
   ·simp only [Cq1];exact ZHd name Zv _ _ hnm hto (.inl rfl)
  ·simp only [Cq1];refine⟨_,_,rfl,fun z=>?_⟩;simp at z;refine⟨?_,fun _=>z,fun z=>(by rcases z with z | z | z <;> cases z),fun z=>(by cases z),.inl rfl⟩;unfold Jj;simp;exact⟨at0,at1⟩
 have ZHf:∀ (name:Int),(0 < nm ->0 <=name∧name < nm) ->∃ d b,Zf9 a M nm nt at_ name=some (d,b)∧(b=true ->Zjr d M nm nt):=by
  intro name hnm;unfold Zf9;cases h1:decide (M > 1)
  ·rw [Cq0];exact ZHe name 0 hnm (fun z=>by simp at h1;omega)
  ·rw [Cq1,YX (n:=a.Zv) (by omega) (by omega),YX (n:=M - 1) (by omega) (by omega)];have hM1:1 < M:=by simpa using h1
   obtain⟨e2,b0,b1⟩:=ZbF (a:=a.Zv) (b:=M - 1) t0 (by omega);rw [e2,Bq0,YX (n:=at_ + 1) (by omega) (by omega),YX (n:=at_ + 1 + a.Zv % (M - 1)) (by omega) (by omega)];obtain⟨e3,c0,c1⟩:=ZbF (a:=at_ + 1 + a.Zv % (M - 1)) (b:=M) (by omega) (by omega);rw [e3,Bq0];refine ZHe name _ hnm fun _=>⟨⟨c0,c1⟩,?_⟩
   by_cases hlt:at_ + 1 + a.Zv % (M - 1) < M
   ·rw [Int.emod_eq_of_lt (by omega) hlt];omega
   ·have:(at_ + 1 + a.Zv % (M - 1)) % M=at_ + 1 + a.Zv % (M - 1) - M:=by
     rw [← Int.sub_emod_right,Int.emod_eq_of_lt (by omega) (by omega)]
    rw [this];omega
 cases h0:decide (nm > 0)
 ·rw [Cq0];exact ZHf 0 (fun z=>by simp at h0;omega)
 ·rw [Cq1];obtain⟨e2,b0,b1⟩:=ZbF (a:=a.name) (b:=nm) n0 (by simpa using h0);rw [e2,Bq0];exact ZHf _ (fun _=>⟨b0,b1⟩)
section
variable {w:Za} {F:Nat}
theorem KJ {α:Type} {F:Nat} {l:List α} (hl:l.length < 1000) (hF:1000 <=F) (body:Int ->(Int ->Option Bool) ->Option Bool) (h1:∀ (k:Nat) y next,l[k]? =some y ->body (k:Int) next=next (ZF ((k:Int) + 1))) (h2:∀ next,body (l.length:Int) next=some true):loop F body 0=some true:=by
 refine(Y1 l (fun v (_:Unit)=>v) body (fun _ _ _ next=>next ()) (fun _=>some true) (by omega) (fun k y q next hy hk=>h1 k y _ hy) (fun q next=>h2 next) (by omega) ()).trans ?_;rw [(Qo (fun _ _ s=>s) (fun _ _=>True) trivial (fun _ _ _ _ _ _=>⟨rfl,trivial⟩)).1]
def JY (p:Int):Za:= ⟨List.replicate (1 + p % 6).toNat [],[],0,[]⟩
theorem ZnC {p:Int} (h:0 <=p):Rt (JY p)∧(JY p).cells.length= (1 + p % 6).toNat:=by
 have:=Int.emod_nonneg p (b:=6) (by decide);have:=Int.emod_lt_of_pos p (b:=6) (by decide);exact⟨ZqD ⟨by omega,by omega⟩,by unfold JY;simp⟩
theorem Zne (hF:1000 <=F) {p:Int} (h0:0 <=p) (h1:p <=255) (l:List Za8):Zsz F p l= (slL l 0 (if 120 < (l.length:Int) then 120 else(l.length:Int))).bind fun z=>loop F (Zek F z) (0,[],[],(JY p).cells,(JY p).notes,(JY p).names,(JY p).freed):=by
 unfold Zsz;rw [YX (n:=p) (by omega) (by omega)];obtain⟨e1,b0,b1⟩:=ZbF (a:=p) (b:=6) h0 (by omega);rw [e1,Bq0,YX (n:=1 + p % 6) (by omega) (by omega),ZrZ hF]
 have hm:ZqE (1 + p % 6)= (JY p,0):=by
  unfold ZqE;have:(decide (1 <=1 + p % 6) && decide (1 + p % 6 <=6))=true:=by simp;omega
  rw [this];rfl
 rw [hm];have hlen:((JY p).cells.length:Int)=1 + p % 6:=by rw [(ZnC h0).2];omega
 simp only [Bq0,bne_self_eq_false,Bool.not_false,KH,hlen,Bool.or_self,Cq0];rw [YX (n:=1 + p % 6) (by omega) (by omega)];simp only [bne_self_eq_false,Bool.or_self,Cq0]
theorem Zw8 {α:Type} (l:List α) (N:Nat):slL l 0 (if(N:Int) < (l.length:Int) then(N:Int) else(l.length:Int))=some (l.take N):=by
 by_cases h:N < l.length
 ·rw [if_pos (by omega)];have:=KZ (xs:=l) (a:=0) (b:=N) (by omega) (by omega);rw [List.drop_zero] at this;exact this
 ·rw [if_neg (by omega)];have:=KZ (xs:=l) (a:=0) (b:=l.length) (by omega) (Nat.le_refl _);rw [List.drop_zero,List.take_length] at this;rw [List.take_of_length_le (by omega)];exact this
theorem Zy2 {d:Zn} (R:Rt w) (hf:Jj d w.cells.length=true):doW w d=stepW w d:=by
 unfold doW;rw [R.right,hf];rfl
end
end Go.Proofs.Ytekpjgmhkkjhgaa
end
section
namespace Go.Proofs.Ytekpjgmhkkjhgaa
open Go.Lf
def gives (l:List Zd):List ZV:= (l.filter fun x=>x.kind==1).map fun x=>⟨x.Zv,x.name⟩
def Uses (w:Za) (s:ZV):Prop:=∃ c,YW w s.name s.at_=some c∧c.use=true
structure Fits (w:Za) (m:Model):Prop where
 mem:∀ s,s ∈ m.uses↔Uses w s
 nd:m.uses.Nodup
 ways:m.ways=gives w.notes
theorem QT (x y:ZV):Kn x y=decide (x=y):=by
 obtain⟨a,b⟩:=x;obtain⟨c,d⟩:=y;unfold Kn;by_cases h:a=c
 ·by_cases k:b=d
  ·simp [h,k]
  ·simp [h,k]
 ·simp [h]
theorem ZaZ {F:Nat} (hF:1000 <=F) {l:List ZV} (hl:l.length < 1000) (x:ZV):ZlZ F l x=some (decide (x ∈ l)):=by
 unfold ZlZ ZyI
 have e:=Y1 l (fun v (_:Unit)=>v) (Zf2 l x) (fun k y s next=>bif Kn x y then some (k:Int) else next ()) (fun _=>some (-1)) (by omega) (fun k y s next hy hk=>by
  simp only [Zf2,Z0,hy,hk,decide_true,Bq0,Cq1]) (fun s next=>by simp [Zf2]) (by omega:l.length < F) ()
 rw [show loop F (Zf2 l x) 0=_ from e];rcases ZfQ (l:=l) (i:=0) (s:= ()) (d:=fun _=>some (-1)) (g:=fun k (y:ZV) (_:Unit) next=>bif Kn x y then some (k:Int) else next ()) (fun k=>some (k:Int)) (fun c=>Kn x c) (fun _ _ _ _=>rfl) with⟨j,y,h1,h2,h3⟩ | ⟨h1,h2⟩
 ·rw [h3,Bq0];have hy:=List.find?_some h1;rw [QT,decide_eq_true_eq] at hy;have:x ∈ l:=by rw [hy];exact List.mem_of_find?_eq_some h1
  rw [decide_eq_true this,decide_eq_true (by omega)]
 ·rw [h2,Bq0]
  have:¬ x ∈ l:=by
   intro hx;rw [List.find?_eq_none] at h1;have:=h1 x hx;rw [QT] at this;simp at this
  rw [decide_eq_false this];rfl
theorem ZrL {F:Nat} (hF:1000 <=F) {l:List ZV} (hl:l.length < 1000):Zsu F l l=some true:=by
 unfold Zsu;rw [show((l.length:Int) != (l.length:Int))=false by simp,Cq0];refine KJ hl hF _ (fun k y next hy=>?_) (fun next=>?_)
 ·have hk:= (Li0 hy).1;simp only [ZlQ,Z0,hy,Bq0];rw [decide_eq_true (by omega),Cq1,QT];simp
 ·simp only [ZlQ];rw [decide_eq_false (by omega),Cq0]
section
variable {w:Za} {m:Model} {F:Nat}
theorem ZbQ {n:Int} (h:Yn w n=true):(w.freed.any fun y=>y==n)=false:=by
 unfold Yn at h;rw [Ba0,Bool.not_eq_true'] at h;exact h.2
def Zft (w:Za) (k:Nat):List ZV:= ((rowOf w k).filter fun c=>c.use).map fun c=>⟨(k:Int),c.name⟩
def ZbD (w:Za):Nat ->List ZV | 0=>[] | k + 1=>ZbD w k ++ Zft w k
theorem Zh4 (R:Rt w) {k:Nat} (hk:k < w.cells.length) (s:ZV):s ∈ Zft w k↔s.at_= (k:Int)∧Uses w s:=by
 unfold Zft;rw [List.mem_map]
 constructor
 ·rintro⟨c,hc,rfl⟩;rw [List.mem_filter] at hc;exact⟨rfl,c,R.Zdq hk hc.1,hc.2⟩
 ·rintro⟨h1,c,h2,h3⟩;obtain⟨a,b⟩:=s;dsimp only at h1 h2;subst h1;rw [Jb hk] at h2;have hn:=Qc h2;exact⟨c,List.mem_filter.2 ⟨ZbW (show Kr (rowOf w k) b=some c from h2),h3⟩,by rw [hn]⟩
theorem ZrM (R:Rt w) {k:Nat} (hk:k < w.cells.length):(Zft w k).Nodup:=by
 unfold Zft;rw [List.nodup_iff_pairwise_ne,List.pairwise_map];refine List.Pairwise.imp ?_ (List.Pairwise.filter _ (R.Yx k hk));intro a b h e;have:a.name=b.name:=congrArg ZV.name e;omega
theorem Zd1 (R:Rt w):∀ k,k <=w.cells.length ->∀ s:ZV,s ∈ ZbD w k↔(0 <=s.at_∧s.at_ < (k:Int))∧Uses w s
 | 0,_,s=>by simp [ZbD];omega
 | k + 1,hk,s=>by
   unfold ZbD;rw [List.mem_append,Zd1 R k (by omega),Zh4 R (by omega)]
   constructor
   ·rintro(⟨h1,h2⟩ | ⟨h1,h2⟩)
    ·exact⟨by omega,h2⟩
    ·exact⟨by omega,h2⟩
   ·rintro⟨h1,h2⟩;by_cases e:s.at_= (k:Int)
    ·exact .inr ⟨e,h2⟩
    ·exact .inl ⟨by omega,h2⟩
theorem Zki (R:Rt w):∀ k,k <=w.cells.length ->(ZbD w k).Nodup
 | 0,_=>List.nodup_nil
 | k + 1,hk=>by
   unfold ZbD;rw [List.nodup_append];refine⟨Zki R k (by omega),ZrM R (by omega),fun a ha b hb e=>?_⟩;subst e;have h1:= ((Zd1 R k (by omega) a).1 ha).1;have h2:= ((Zh4 R (by omega) a).1 hb).1;omega
theorem Uses.range {s:ZV} (h:Uses w s):0 <=s.at_∧s.at_ < (w.cells.length:Int):=by
 obtain⟨c,h1,_⟩:=h;exact(X6 h1).1
theorem Fits.len (R:Rt w) (f:Fits w m):m.uses.length= (ZbD w w.cells.length).length:=by
 refine List.Perm.length_eq ((List.perm_ext_iff_of_nodup f.nd (Zki R _ (Nat.le_refl _))).2 fun s=>?_);rw [f.mem,Zd1 R _ (Nat.le_refl _)];exact⟨fun h=>⟨h.range,h⟩,fun h=>h.2⟩
def ZdV (w:Za):Nat ->Nat | 0=>0 | k + 1=>ZdV w k + (rowOf w k).countP fun c=>c.use
theorem Zd2 (w:Za):∀ k,(ZbD w k).length=ZdV w k
 | 0=>rfl
 | k + 1=>by
   unfold ZbD ZdV;rw [List.length_append,Zd2 w k];unfold Zft;rw [List.length_map,List.countP_eq_length_filter]
theorem Zfq (R:Rt w):∀ k,k <=w.cells.length ->ZdV w k <=12 * k
 | 0,_=>by simp [ZdV]
 | k + 1,hk=>by
   have h1:=Zfq R k (by omega);have h2:=Szd.ZeH R.n12 (R.Yx k (by omega)) (R.names k (by omega));have h3:(rowOf w k).countP (fun c=>c.use) <= (rowOf w k).length:=List.countP_le_length;unfold ZdV;omega
theorem Fits.small (R:Rt w) (f:Fits w m):m.uses.length <=72∧m.ways.length <=80:=by
 have h1:=Zfq R w.cells.length (Nat.le_refl _);have:=R.c6;refine⟨by rw [f.len R,Zd2];omega,?_⟩;rw [f.ways];unfold gives;rw [List.length_map];exact Nat.le_trans (List.length_filter_le _ _) R.nts
theorem Uses.name {s:ZV} (R:Rt w) (h:Uses w s):Yn w s.name=true:=by
 obtain⟨c,h1,_⟩:=h;exact(R.rx.1.cn _ _ _ h1).1
theorem ZyE (hF:1000 <=F) (R:Rt w) (f:Fits w m):ZvG F m w=some true:=by
 have sm:=R.small;have hc:=sm.cells;have hno:=sm.notes;obtain⟨hu,hw⟩:=f.small R;have hn0:=R.n0;have ZN3:=R.n12;have hnt:=R.nts;unfold ZvG;have hb:(decide (w.names < 0) || decide (w.names > 12))=false:=by simp;omega
 rw [hb,Cq0]
 have l4:∀ z:List ZV,z=m.uses ++ m.ways ->loop F (ZiV F m w (gives w.notes) (m.uses.length:Int) z) 0=some true:=by
  intro z hz;have hzl:z.length < 1000:=by rw [hz,List.length_append];omega
  have hzf:∀ s ∈ z,(w.freed.any fun y=>y==s.name)=false:=by
   intro s hs;rw [hz] at hs;rcases List.mem_append.1 hs with h | h
   ·exact ZbQ (((f.mem s).1 h).name R)
   ·rw [f.ways] at h;unfold gives at h;rw [List.mem_map] at h;obtain⟨x,hx,rfl⟩:=h;exact ZbQ (R.nn x (List.mem_filter.1 hx).1)
  refine KJ hzl hF _ (fun k y next hy=>?_) (fun next=>?_)
  ·have hk:= (Li0 hy).1;simp only [ZiV,Z0,hy,Bq0];rw [decide_eq_true (by omega),Cq1,contains_eq hF sm.freed,hzf y (List.mem_of_getElem? hy)];rfl
  ·simp only [ZiV];rw [decide_eq_false (by omega),Cq0,f.ways,ZrL hF (by rw [← f.ways];omega)];simp [gd]
 have l3:loop F (ZiW F m w (gives w.notes) (m.uses.length:Int)) 0=some true:=by
  refine KJ hno hF _ (fun k y next hy=>?_) (fun next=>?_)
  ·have hk:= (Li0 hy).1;simp only [ZiW,Z0,hy,Bq0];rw [decide_eq_true (by omega),Cq1,contains_eq hF sm.freed,ZbQ (R.nn y (List.mem_of_getElem? hy))];rfl
  ·simp only [ZiW];unfold ZyJ;rw [decide_eq_false (by omega),Cq0,XJ (by simp only [List.length_nil];omega) (by decide)];simp only [Bq0,List.nil_append];rw [XJ (by omega) (by decide),Bq0,l4 _ rfl]
 have l2:∀ (k:Nat) (cnt:Nat) (next:Int×Int ->Option Bool),k < w.cells.length ->cnt <=100 ->loop F (Zga F m w (k:Int) next (rowOf w k)) ((cnt:Int),0)=next (((cnt + (rowOf w k).countP (fun c=>c.use):Nat):Int),ZF ((k:Int) + 1)):=by
  intro k cnt next hk hcnt;have hr:=Szd.ZeH R.n12 (R.Yx k hk) (R.names k hk);refine(Y1 (rowOf w k) (fun v (s:Int)=>(s,v)) (Zga F m w (k:Int) next (rowOf w k)) (fun _ c s nx=>nx (bif c.use then ZF (s + 1) else s)) (fun s=>next (s,ZF ((k:Int) + 1))) (by omega) (fun j c s nx hj hjk=>?_) (fun s nx=>?_) (by omega) (cnt:Int)).trans ?_
  ·have hcm:=List.mem_of_getElem? hj;have hcv:=R.Zdq hk hcm;simp only [Zga,Z0,hj,hjk,decide_true,Cq1,Bq0];rw [contains_eq hF sm.freed,ZbQ (R.cn k hk c hcm).1,Bq0,Cq0];cases hcu:c.use
   ·simp only [Cq0];rfl
   ·simp only [Cq1];have hmem:(⟨(k:Int),c.name⟩:ZV) ∈ m.uses:= (f.mem _).2 ⟨c,hcv,hcu⟩;rw [ZaZ hF (by omega),decide_eq_true hmem];rfl
  ·simp only [Zga];rw [decide_eq_false (by omega),Cq0]
  ·rw [(Qo (fun _ (c:Zb) (s:Int)=>bif c.use then ZF (s + 1) else s) (fun _ _=>True) trivial (fun _ _ _ _ _ _=>⟨rfl,trivial⟩)).1];rw [Qv];have:=Zja (fun c:Zb=>c.use) (rowOf w k) cnt (by omega);rw [this]
 have l1:∀ (d k F':Nat),k + d=w.cells.length ->d < F' ->loop F' (Zej F m w (gives w.notes)) ((ZdV w k:Int),(k:Int))=some true:=by
  intro d
  induction d with
  | zero=>
    intro k F' hk hF';obtain⟨F',rfl⟩:=Ne0 (n:=F') (by omega);have:k=w.cells.length:=by omega
    subst this;rw [Yl];simp only [Zej];rw [decide_eq_false (by omega),Cq0,← Zd2,← f.len R,l3]
  | succ d ih=>
    intro k F' hk hF';obtain⟨F',rfl⟩:=Ne0 (n:=F') (by omega);have hlt:k < w.cells.length:=by omega
    have hcn:=Zfq R k (by omega);have:=R.c6;rw [Yl];simp only [Zej];rw [decide_eq_true (by omega),Cq1,Z0,Qz hlt,Bq0,l2 k _ _ hlt (by omega),Xk (by omega)];exact ih (k + 1) F' (by omega) (by omega)
 have l0:=Y1 w.notes (fun v (s:List ZV)=>(s,v)) (ZiX F m w) (fun _ x s next=>(bif x.kind==1 then app 16 s [⟨x.Zv,x.name⟩] else some s).bind next) (fun s=>loop F (Zej F m w s) (0,0)) (by omega) (fun k y s next hy hk=>by
  simp only [ZiX,Z0,hy,hk,decide_true,Cq1,Bq0];cases (y.kind==1)
  ·rfl
  ·simp only [Cq1]
   rfl) (fun s next=>by
  simp only [ZiX];rw [decide_eq_false (by omega),Cq0]) (by omega:w.notes.length < F) []
 rw [l0]
 obtain⟨e1,e2⟩:=Qo (d:=fun s=>loop F (Zej F m w s) (0,0)) (g:=fun(_:Nat) (x:Zd) (s:List ZV) next=>(bif x.kind==1 then app 16 s [⟨x.Zv,x.name⟩] else some s).bind next) (fun _ x s=>bif x.kind==1 then s ++ [⟨x.Zv,x.name⟩] else s) (fun i s=>s.length <=i) (l:=w.notes) (i:=0) (s:= []) (Nat.le_refl _) (fun k x s next hx hI=>by
  have hk:= (Li0 hx).1;cases (x.kind==1)
  ·exact⟨rfl,Nat.le_succ_of_le hI⟩
  ·simp only [Cq1];rw [XJ (by simp;omega) (by decide)];exact⟨rfl,by simp;omega⟩)
 rw [e1,Qv]
 have hg:∀ (l:List Zd) (s:List ZV),l.foldl (fun s x=>bif x.kind==1 then s ++ [⟨x.Zv,x.name⟩] else s) s=s ++ gives l:=by
  intro l
  induction l with
  | nil=>intro s;simp [gives]
  | cons x l ih=>
    intro s;rw [List.foldl_cons,ih];unfold gives;cases hk:(x.kind==1)
    ·rw [List.filter_cons_of_neg (by simp [hk])];rfl
    ·rw [List.filter_cons_of_pos (by simp [hk])];simp
 rw [hg,List.nil_append];exact l1 w.cells.length 0 F (by omega) (by omega)
end
end Go.Proofs.Ytekpjgmhkkjhgaa
end
section
namespace Go.Proofs.Ytekpjgmhkkjhgaa
open Go.Lf
section
variable {w w':Za} {m:Nat} {n:Int} {s:ZV}
theorem KO (hm:m < w.cells.length):(look (rowOf w m) n).use=true↔Uses w ⟨(m:Int),n⟩:=by
 unfold Uses look;rw [Jb hm,Y9];cases h:Kr (rowOf w m) n with
 | none=>simp [blank]
 | some c=>simp
theorem ZmT (U:Upd w w' n) {a:Int} {o:Option Zb} (V:YW w' n=Yz (YW w n) a o) (s:ZV):Uses w' s↔if s.name=n∧s.at_=a then(∃ c,o=some c∧c.use=true) else Uses w s:=by
 unfold Uses;by_cases h:s.name=n
 ·rw [h,V];by_cases e:s.at_=a
  ·rw [if_pos ⟨rfl,e⟩,e,WG]
  ·rw [if_neg (fun z=>e z.2),ZaF e]
 ·rw [if_neg (fun z=>h z.1),U.oc _ h]
theorem ZeA (hm:m < w.cells.length) (Yx:∀ m,m < w.cells.length ->U7 (rowOf w m)) {d:Zb} (hd:d.name=n) (s:ZV):Uses (cw w m (put d (rowOf w m))) s↔if s.name=n∧s.at_= (m:Int) then d.use=true else Uses w s:=by
 obtain⟨U,V,_⟩:=Qk hm Yx hd;rw [ZmT U V s];simp
theorem Ztv (hm:m < w.cells.length) (Yx:∀ m,m < w.cells.length ->U7 (rowOf w m)) (s:ZV):Uses (cw w m (rmv n (rowOf w m))) s↔if s.name=n∧s.at_= (m:Int) then False else Uses w s:=by
 obtain⟨U,V,_⟩:=Zla (n:=n) hm Yx;rw [ZmT U V s];simp
theorem Zh3 {a b:Int} (h:s.name=b∧s.at_=a):s= ⟨a,b⟩:=by
 obtain⟨x,y⟩:=s;obtain⟨h1,h2⟩:=h;dsimp only at h1 h2;rw [h1,h2]
theorem KN (hm:m < w.cells.length) (Yx:∀ m,m < w.cells.length ->U7 (rowOf w m)) {d:Zb} (hd:d.name=n) (hu:d.use= (look (rowOf w m) n).use) (s:ZV):Uses (cw w m (put d (rowOf w m))) s↔Uses w s:=by
 rw [ZeA hm Yx hd];by_cases h:s.name=n∧s.at_= (m:Int)
 ·rw [if_pos h,Zh3 h,hu,KO hm]
 ·rw [if_neg h]
theorem Zc7 (x:Zd) (s:ZV):Uses (sent w x) s↔Uses w s:=Iff.rfl
theorem Zdj (l:List Zd) (x:Zd):gives (l ++ [x])=gives l ++ (if x.kind=1 then [⟨x.Zv,x.name⟩] else []):=by
 unfold gives;rw [List.filter_append,List.map_append];by_cases h:x.kind=1
 ·rw [if_pos h,List.filter_cons_of_pos (by simp [h])];rfl
 ·rw [if_neg h,List.filter_cons_of_neg (by simp [h])];rfl
theorem Zeh (l:List Zd) {x:Zd} (h:x.kind ≠ 1):gives (l ++ [x])=gives l:=by
 rw [Zdj,if_neg h,List.append_nil]
theorem ZaD (hm:m < w.cells.length) (Yx:∀ m,m < w.cells.length ->U7 (rowOf w m)) {c:Zb} (hc:(look (rowOf w m) n).use=c.use):(∀ s,Uses (XD w m n c) s↔Uses w s)∧gives (XD w m n c).notes=gives w.notes:=by
 unfold XD;cases hu:(c.use || (c.out !=0))
 ·simp only [Cq0];have hcu:c.use=false:=by cases h:c.use;rfl;rw [h] at hu;cases hu
  refine⟨fun s=>?_,?_⟩
  ·refine(show Uses _ s↔Uses (cw w m (rmv n (rowOf w m))) s from Iff.rfl).trans ?_;rw [Ztv hm Yx];by_cases h:s.name=n∧s.at_= (m:Int)
   ·rw [if_pos h,Zh3 h,← KO hm,hc,hcu];simp
   ·rw [if_neg h]
  ·cases c.root
   ·simp only [Cq0];cases decide (c.from_ >=0)
    ·rfl
    ·rw [Cq1];exact Zeh _ (show(2:Int) ≠ 1 by decide)
   ·rfl
 ·exact⟨fun s=>Iff.rfl,rfl⟩
theorem ZkT (hm:m < w.cells.length) (Yx:∀ m,m < w.cells.length ->U7 (rowOf w m)) (Zv x:Int):(∀ s,Uses (XV w m n Zv x) s↔Uses w s)∧gives (XV w m n Zv x).notes=gives w.notes:=by
 unfold XV;cases (Zv != (m:Int))
 ·rw [Cq0];exact⟨fun s=>KN hm Yx (n:=n) (d:= {look (rowOf w m) n with out:=ZF ((look (rowOf w m) n).out - x)}) (J7 _ _) rfl s,rfl⟩
 ·rw [Cq1];exact⟨fun s=>Zc7 _ s,Zeh _ (show(2:Int) ≠ 1 by decide)⟩
theorem Zrn (hm:m < w.cells.length) (Yx:∀ m,m < w.cells.length ->U7 (rowOf w m)) (Zv x:Int):(XV w m n Zv x).cells.length=w.cells.length∧∀ k,k < w.cells.length ->U7 (rowOf (XV w m n Zv x) k):=by
 unfold XV;cases (Zv != (m:Int))
 ·rw [Cq0];obtain⟨U,_,_⟩:=Qk (n:=n) hm Yx (c:= {look (rowOf w m) n with out:=ZF ((look (rowOf w m) n).out - x)}) (J7 _ _);exact⟨U.len,U.Yx⟩
 ·rw [Cq1];exact⟨rfl,Yx⟩
theorem ZpW (Yx:∀ m,m < w.cells.length ->U7 (rowOf w m)) {x:Zd} (hx:0 <=x.Zv∧x.Zv < (w.cells.length:Int)):(∀ s,Uses (Jc w x) s↔Uses w s∨(x.kind=1∧s= ⟨x.Zv,x.name⟩))∧gives (Jc w x).notes=gives w.notes:=by
 obtain⟨m,hmm⟩:∃ m,x.Zv.toNat=m:= ⟨_,rfl⟩
 have hm:m < w.cells.length:=by omega
 have hat:x.Zv= (m:Int):=by omega
 have hln:=J7 (rowOf w m) x.name;unfold Jc;rw [hmm];dsimp only
 have give:∀ d:Zb,d.name=x.name ->d.use=true ->x.kind=1 ->∀ s,Uses (cw w m (put d (rowOf w m))) s↔Uses w s∨(x.kind=1∧s= ⟨x.Zv,x.name⟩):=by
  intro d hd hu hk s;rw [ZeA hm Yx hd];by_cases h:s.name=x.name∧s.at_= (m:Int)
  ·rw [if_pos h,hat];exact⟨fun _=>.inr ⟨hk,Zh3 h⟩,fun _=>hu⟩
  ·rw [if_neg h];refine⟨.inl,?_⟩;rintro(z | ⟨_,z⟩)
   ·exact z
   ·exact absurd ⟨by rw [z],by rw [z];exact hat⟩ h
 have Zt8:x.kind ≠ 1 ->∀ s,(Uses w s∨(x.kind=1∧s= ⟨x.Zv,x.name⟩))↔Uses w s:=fun hk s=>⟨fun z=>z.elim id fun y=>absurd y.1 hk,.inl⟩
 cases k1:(x.kind==1)
 ·have hk:x.kind ≠ 1:=by simpa using k1
  rw [Cq0]
  have stl:∀ d:Zb,d.name=x.name ->d.use= (look (rowOf w m) x.name).use ->(∀ s,Uses (XD (cw w m (put d (rowOf w m))) m x.name d) s↔Uses w s)∧gives (XD (cw w m (put d (rowOf w m))) m x.name d).notes=gives w.notes:=by
   intro d hd hu;obtain⟨U,_,_⟩:=Qk hm Yx hd;have hm2:m < (cw w m (put d (rowOf w m))).cells.length:=by rw [U.len];exact hm
   obtain⟨a,b⟩:=ZaD (n:=x.name) hm2 (fun k hk=>U.Yx k (by rw [← U.len];exact hk)) (c:=d) (by rw [Wl hm (Yx m hm) hd]);exact⟨fun s=>(a s).trans (KN hm Yx hd hu s),b⟩
  cases k2:(x.kind==2)
  ·rw [Cq0];have hd:(⟨(look (rowOf w m) x.name).name,true,-1,0,ZF ((look (rowOf w m) x.name).out + 16),(look (rowOf w m) x.name).use⟩:Zb).name=x.name:=hln;obtain⟨b,hb⟩:∃ b,cw w m (put ⟨(look (rowOf w m) x.name).name,true,-1,0,ZF ((look (rowOf w m) x.name).out + 16),(look (rowOf w m) x.name).use⟩ (rowOf w m))=b:= ⟨_,rfl⟩
   obtain⟨U,_,_⟩:=Qk hm Yx hd;have ub:=fun s=>KN hm Yx hd rfl s
   have gb:gives (cw w m (put ⟨(look (rowOf w m) x.name).name,true,-1,0,ZF ((look (rowOf w m) x.name).out + 16),(look (rowOf w m) x.name).use⟩ (rowOf w m))).notes=gives w.notes:=rfl;rw [hb] at U ub gb ⊢;have hm2:m < b.cells.length:=by rw [U.len];exact hm
   have ZoF:∀ k,k < b.cells.length ->U7 (rowOf b k):=fun k hk=>U.Yx k (by rw [← U.len];exact hk)
   cases decide ((look (rowOf w m) x.name).from_ >=0)
   ·simp only [Cq0];obtain⟨a1,a2⟩:=ZaD (n:=x.name) hm2 ZoF (c:=look (rowOf b m) x.name) rfl;exact⟨fun s=>((a1 s).trans (ub s)).trans (Zt8 hk s).symm,a2.trans gb⟩
   ·simp only [Cq1];obtain⟨l3,s3⟩:=Zrn hm2 ZoF (n:=x.name) (look (rowOf w m) x.name).from_ (look (rowOf w m) x.name).has;obtain⟨b1,b2⟩:=ZkT hm2 ZoF (n:=x.name) (look (rowOf w m) x.name).from_ (look (rowOf w m) x.name).has;obtain⟨a1,a2⟩:=ZaD (n:=x.name) (by rw [l3];exact hm2) (fun k hk=>s3 k (by rw [← l3];exact hk)) (c:=look (rowOf (XV b m x.name (look (rowOf w m) x.name).from_ (look (rowOf w m) x.name).has) m) x.name) rfl;exact⟨fun s=>(((a1 s).trans (b1 s)).trans (ub s)).trans (Zt8 hk s).symm,(a2.trans b2).trans gb⟩
  ·rw [Cq1];obtain⟨a,b⟩:=stl ⟨(look (rowOf w m) x.name).name,(look (rowOf w m) x.name).root,(look (rowOf w m) x.name).from_,(look (rowOf w m) x.name).has,ZF ((look (rowOf w m) x.name).out - x.w),(look (rowOf w m) x.name).use⟩ hln rfl;exact⟨fun s=>(a s).trans (Zt8 hk s).symm,b⟩
 ·have hk:x.kind=1:=by simpa using k1
  rw [Cq1];generalize ((!(look (rowOf w m) x.name).root && ((look (rowOf w m) x.name).from_==-1)) && (x.via !=x.Zv))=b1;generalize ((!(look (rowOf w m) x.name).root && decide ((look (rowOf w m) x.name).from_ >=0)) && ((look (rowOf w m) x.name).from_==x.via))=b2;cases b1
  ·simp only [Cq0];cases b2
   ·simp only [Cq0];have hd:(⟨(look (rowOf w m) x.name).name,(look (rowOf w m) x.name).root,(look (rowOf w m) x.name).from_,(look (rowOf w m) x.name).has,(look (rowOf w m) x.name).out,true⟩:Zb).name=x.name:=hln;obtain⟨U,_,_⟩:=Qk hm Yx hd;have hm2:m < (cw w m (put ⟨(look (rowOf w m) x.name).name,(look (rowOf w m) x.name).root,(look (rowOf w m) x.name).from_,(look (rowOf w m) x.name).has,(look (rowOf w m) x.name).out,true⟩ (rowOf w m))).cells.length:=by rw [U.len];exact hm
    obtain⟨a,b⟩:=ZkT (n:=x.name) hm2 (fun k hk=>U.Yx k (by rw [← U.len];exact hk)) x.via x.w;exact⟨fun s=>(a s).trans (give _ hd rfl hk s),b⟩
   ·simp only [Cq1];exact⟨fun s=>give ⟨(look (rowOf w m) x.name).name,(look (rowOf w m) x.name).root,(look (rowOf w m) x.name).from_,ZF ((look (rowOf w m) x.name).has + x.w),(look (rowOf w m) x.name).out,true⟩ hln rfl hk s,rfl⟩
  ·simp only [Cq1];exact⟨fun s=>give ⟨(look (rowOf w m) x.name).name,(look (rowOf w m) x.name).root,x.via,x.w,(look (rowOf w m) x.name).out,true⟩ hln rfl hk s,rfl⟩
theorem ZkA {l:List Zd} {k:Nat} {x:Zd} (hx:l[k]? =some x):gives (l.take k ++ l.drop (k + 1))= (if x.kind=1 then(gives l).take (gives (l.take k)).length ++ (gives l).drop ((gives (l.take k)).length + 1) else gives l)∧(x.kind=1 ->(gives l)[(gives (l.take k)).length]? =some ⟨x.Zv,x.name⟩):=by
 obtain⟨hk,hkx⟩:=Li0 hx
 have Zdx:l=l.take k ++ x::l.drop (k + 1):=by
  rw [← hkx,← List.drop_eq_getElem_cons hk,List.take_append_drop]
 have happ:∀ a b:List Zd,gives (a ++ b)=gives a ++ gives b:=by
  intro a b;unfold gives;rw [List.filter_append,List.map_append]
 have ZFz:∀ b:List Zd,gives (x::b)= (if x.kind=1 then [⟨x.Zv,x.name⟩] else []) ++ gives b:=by
  intro b;have:=happ [x] b;rw [List.singleton_append] at this;rw [this];congr 1;have:=Zdj [] x;rw [List.nil_append] at this;rw [this];rfl
 have hl:gives l=gives (l.take k) ++ ((if x.kind=1 then [⟨x.Zv,x.name⟩] else []) ++ gives (l.drop (k + 1))):=by
  conv=>lhs;rw [Zdx]
  rw [happ,ZFz]
 rw [happ];by_cases h:x.kind=1
 ·rw [if_pos h] at hl ⊢;rw [hl];refine⟨?_,fun _=>?_⟩
  ·have key:∀ (A B:List ZV) (y:ZV),A ++ B= (A ++ ([y] ++ B)).take A.length ++ (A ++ ([y] ++ B)).drop (A.length + 1):=by
    intro A B y;rw [List.take_left,List.drop_append,List.drop_eq_nil_of_le (Nat.le_succ A.length),List.nil_append,Nat.add_sub_cancel_left]
    rfl
   exact key _ _ _
  ·rw [List.getElem?_append_right (Nat.le_refl _),Nat.sub_self];rfl
 ·rw [if_neg h] at hl ⊢;rw [hl];exact⟨rfl,fun z=>absurd z h⟩
theorem Ztw (k:Nat) (s:ZV):Uses (WJ w k) s↔Uses w s:=Iff.rfl
theorem Zgo (R:Rt w) {d:Zn} (hf:Jj d w.cells.length=true) (he:YS w d d.at_.toNat=0):
 (d.Z6=1 ->(∀ s,Uses (Yf w d) s↔Uses w s∨s= ⟨d.at_,w.names⟩)∧gives (Yf w d).notes=gives w.notes)∧
 (d.Z6=2 ->(∀ s,Uses (Yf w d) s↔Uses w s)∧gives (Yf w d).notes=gives w.notes ++ [⟨d.Zv,d.name⟩]∧Uses w ⟨d.at_,d.name⟩)∧
 (d.Z6=3 ->(∀ s,Uses (Yf w d) s↔Uses w s∧s ≠ ⟨d.at_,d.name⟩)∧gives (Yf w d).notes=gives w.notes∧Uses w ⟨d.at_,d.name⟩)∧
 (d.Z6=4 ->(∀ s,Uses (Yf w d) s↔Uses w s)∧gives (Yf w d).notes=gives w.notes)∧
 (d.Z6=5 ->∃ x,w.notes[d.at_.toNat]? =some x∧(∀ s,Uses (Yf w d) s↔Uses w s∨(x.kind=1∧s= ⟨x.Zv,x.name⟩))∧gives (Yf w d).notes= (if x.kind=1 then(gives w.notes).take (gives (w.notes.take d.at_.toNat)).length ++ (gives w.notes).drop ((gives (w.notes.take d.at_.toNat)).length + 1) else gives w.notes)):=by
 have Yx:=R.Yx;unfold Yf;refine⟨fun k=>?_,fun k=>?_,fun k=>?_,fun k=>?_,fun k=>?_⟩
 ·rw [show(d.Z6==1)=true by simp [k],Cq1];rcases Y0 hf with⟨_,a⟩ | ⟨z,_⟩ | ⟨z,_⟩ | ⟨z,_⟩
  ·obtain⟨m,hm'⟩:∃ m,d.at_.toNat=m:= ⟨_,rfl⟩
   have hm:m < w.cells.length:=by omega
   have hat:d.at_= (m:Int):=by omega
   rw [hm'];refine⟨fun s=>?_,rfl⟩;refine(show Uses (ZeL w m) s↔Uses (cw w m (put (ZfI w) (rowOf w m))) s from Iff.rfl).trans ?_;rw [ZeA hm Yx (n:=w.names) (d:=ZfI w) rfl];by_cases h:s.name=w.names∧s.at_= (m:Int)
   ·rw [if_pos h,hat];exact⟨fun _=>.inr (Zh3 h),fun _=>rfl⟩
   ·rw [if_neg h];refine⟨.inl,?_⟩;rintro(z | z)
    ·exact z
    ·exact absurd ⟨by rw [z],by rw [z];exact hat⟩ h
  all_goals omega
 ·have b1:(d.Z6==1)=false:=by simp [k]
  have b2:(d.Z6==2)=true:=by simp [k]
  rw [b1,b2,Cq0,Cq1];rcases Y0 hf with⟨z,_⟩ | ⟨_,a,t,ne,nm⟩ | ⟨z,_⟩ | ⟨z,_⟩
  ·omega
  ·obtain⟨m,hm'⟩:∃ m,d.at_.toNat=m:= ⟨_,rfl⟩
   have hm:m < w.cells.length:=by omega
   have hat:d.at_= (m:Int):=by omega
   rw [hm'] at he ⊢;obtain⟨c,hc,_,hu⟩:=QC (by omega) (by omega) he;have hu:=hu (by omega);have hcn:=Qg hc;have hl:=Q9 hc;rw [hl];have hus:Uses w ⟨d.at_,d.name⟩:=by rw [hat,← KO hm,hl];exact hu
   unfold ZeF;cases (decide (c.from_ >=0) && decide (c.has >=2))
   ·rw [Cq0];exact⟨fun s=>(Zc7 _ s).trans (KN hm Yx (n:=d.name) (by exact hcn) (by rw [hl]) s),(Zdj _ _).trans (by rw [if_pos rfl];rfl),hus⟩
   ·rw [Cq1];exact⟨fun s=>(Zc7 _ s).trans (KN hm Yx (n:=d.name) (by exact hcn) (by rw [hl]) s),(Zdj _ _).trans (by rw [if_pos rfl];rfl),hus⟩
  all_goals omega
 ·have b1:(d.Z6==1)=false:=by simp [k]
  have b2:(d.Z6==2)=false:=by simp [k]
  have b5:(d.Z6==5)=false:=by simp [k]
  have b3:(d.Z6==3)=true:=by simp [k]
  rw [b1,b2,b5,b3,Cq0,Cq0,Cq0,Cq1];rcases Y0 hf with⟨z,_⟩ | ⟨z,_⟩ | ⟨_,a,nm⟩ | ⟨z,_⟩
  ·omega
  ·omega
  ·obtain⟨m,hm'⟩:∃ m,d.at_.toNat=m:= ⟨_,rfl⟩
   have hm:m < w.cells.length:=by omega
   have hat:d.at_= (m:Int):=by omega
   rw [hm'] at he ⊢;obtain⟨c,hc,_,hu⟩:=QC (by omega) (by omega) he;have hu:=hu (by omega);have hcn:=Qg hc;have hl:=Q9 hc;rw [hl];have hus:Uses w ⟨d.at_,d.name⟩:=by rw [hat,← KO hm,hl];exact hu
   have hdn:(ZaR c).name=d.name:=hcn;obtain⟨U,_,_⟩:=Qk hm Yx hdn;have hm2:m < (cw w m (put (ZaR c) (rowOf w m))).cells.length:=by rw [U.len];exact hm
   unfold Zha;obtain⟨a1,a2⟩:=ZaD (n:=d.name) hm2 (fun k hk=>U.Yx k (by rw [← U.len];exact hk)) (c:=ZaR c) (by rw [Wl hm (Yx m hm) hdn]);refine⟨fun s=>(a1 s).trans ?_,a2,hus⟩;rw [ZeA hm Yx hdn];by_cases h:s.name=d.name∧s.at_= (m:Int)
   ·rw [if_pos h,hat];refine⟨fun z=>(by cases z),fun z=>absurd (Zh3 h) z.2⟩
   ·rw [if_neg h];refine⟨fun z=>⟨z,fun y=>h ⟨by rw [y],by rw [y];exact hat⟩⟩,fun z=>z.1⟩
  ·omega
 ·have b1:(d.Z6==1)=false:=by simp [k]
  have b2:(d.Z6==2)=false:=by simp [k]
  have b5:(d.Z6==5)=false:=by simp [k]
  have b3:(d.Z6==3)=false:=by simp [k]
  rw [b1,b2,b5,b3,Cq0,Cq0,Cq0,Cq0];rcases Y0 hf with⟨z,_⟩ | ⟨_,a,t,ne,nm⟩ | ⟨z,_⟩ | ⟨z,_⟩
  ·omega
  ·obtain⟨m,hm'⟩:∃ m,d.at_.toNat=m:= ⟨_,rfl⟩
   have hm:m < w.cells.length:=by omega
   rw [hm'] at he ⊢;obtain⟨c,hc,_,_⟩:=QC (by omega) (by omega) he;have hcn:=Qg hc;have hl:=Q9 hc;rw [hl];unfold goW;exact⟨fun s=>(Zc7 _ s).trans (KN hm Yx (n:=d.name) (by exact hcn) (by rw [hl];rfl) s),Zeh _ (show(3:Int) ≠ 1 by decide)⟩
  all_goals omega
 ·have b1:(d.Z6==1)=false:=by simp [k]
  have b2:(d.Z6==2)=false:=by simp [k]
  have b5:(d.Z6==5)=true:=by simp [k]
  rw [b1,b2,b5,Cq0,Cq0,Cq1]
  have hlt:d.at_.toNat < w.notes.length:=by
   unfold YS at he;rw [b1,b5,Cq0,Cq1] at he;rcases Y0 hf with⟨z,_⟩ | ⟨z,_⟩ | ⟨z,_⟩ | ⟨_,z⟩
   ·omega
   ·omega
   ·omega
   ·by_cases h:d.at_ >= (w.notes.length:Int)
    ·rw [decide_eq_true h] at he;cases he
    ·omega
  obtain⟨x,hx⟩:∃ x,w.notes[d.at_.toNat]? =some x:= ⟨_,List.getElem?_eq_getElem hlt⟩
  refine⟨x,hx,?_⟩;rw [hx,Option.getD_some];have hxm:x ∈ w.notes:=List.mem_of_getElem? hx;obtain⟨h,H⟩:=R.rx.1.nm _ (R.nn x hxm);have hto:= (H.nts x (List.mem_append_right _ (List.mem_filter.2 ⟨hxm,by simp⟩))).1;obtain⟨a,b⟩:=ZpW (w:=WJ w d.at_.toNat) Yx hto;exact⟨fun s=>(a s).trans (by rw [Ztw]),b.trans (ZkA hx).1⟩
end
end Go.Proofs.Ytekpjgmhkkjhgaa
end
section
namespace Go.Proofs.Ytekpjgmhkkjhgaa
open Go.Lf
def less (l:List ZV) (t:ZV):List ZV:=l.filter fun x=>!(Kn x t)
theorem Zur (l:List ZV) (t s:ZV):s ∈ less l t↔s ∈ l∧s ≠ t:=by
 unfold less;rw [List.mem_filter,QT];simp
theorem ZvS {t:ZV} {m:Model} {d:Zn} (ht:ZV.mk d.at_ d.name=t) (l0:List ZV) (hl:l0.length < 1000):∀ (k j i F':Nat) (v:List ZV),j + k=l0.length ->k < F' ->i <=j ->v.length=l0.length ->v.take i=less (l0.take j) t ->v.drop j=l0.drop j ->
 loop F' (ZiY m d) ((i:Int),(j:Int),v)=some ⟨less l0 t,m.ways⟩:=by
 intro k
 induction k with
 | zero=>
   intro j i F' v hj hF' hij hvl h1 h2;obtain⟨F',rfl⟩:=Ne0 (n:=F') (by omega);have hjl:j=l0.length:=by omega
   rw [Yl];simp only [ZiY];rw [decide_eq_false (by omega),Cq0,KZ (by omega) (Nat.le_refl _),Bq0,Int.toNat_natCast];have hl2:((v.take v.length).drop i).length=v.length - i:=by simp
   have e:=KZ (xs:=v.take i ++ List.replicate ((v.take v.length).drop i).length (ZV.mk 0 0)) (a:=0) (b:=i) (Nat.zero_le _) (by simp;omega);rw [show((0:Nat):Int)=0 from rfl] at e;rw [e,Bq0,List.drop_zero,List.take_append_of_le_length (by simp;omega),List.take_take,Nat.min_self,h1,hjl,List.take_length]
   rfl
 | succ k ih=>
   intro j i F' v hj hF' hij hvl h1 h2;obtain⟨F',rfl⟩:=Ne0 (n:=F') (by omega);have hlt:j < v.length:=by omega
   have ZFu:j < l0.length:=by omega
   have hx:v[j]? =l0[j]?:=by
    have:=congrArg (fun q=>q[0]?) h2
    simpa using this
   rw [Yl];simp only [ZiY];rw [decide_eq_true (by omega),Cq1,Z0,hx,List.getElem?_eq_getElem ZFu,Bq0,ht]
   have htk:less (l0.take (j + 1)) t=less (l0.take j) t ++ (if l0[j]=t then [] else [l0[j]]):=by
    unfold less;rw [List.take_succ,List.getElem?_eq_getElem ZFu,List.filter_append];congr 1;simp only [Option.toList_some,QT];by_cases h:l0[j]=t
    ·rw [if_pos h,List.filter_cons_of_neg (by simp [h])];rfl
    ·rw [if_neg h,List.filter_cons_of_pos (by simp [h])];rfl
   have hd2:v.drop (j + 1)=l0.drop (j + 1):=by
    have:=congrArg (List.drop 1) h2
    simpa [List.drop_drop,Nat.add_comm] using this
   by_cases h:l0[j]=t
   ·rw [QT,decide_eq_true h];simp only [Bool.not_true,Cq0];unfold Zgb;rw [Xk (by omega)];exact ih (j + 1) i F' v (by omega) (by omega) (by omega) hvl (by rw [htk,if_pos h,List.append_nil,h1]) hd2
   ·rw [QT,decide_eq_false h];simp only [Bool.not_false,Cq1];rw [Z0,List.getElem?_eq_getElem (by omega:i < v.length),Bq0];unfold Zgb;rw [Xk (by omega),Xk (by omega)];simp only [JD,Int.toNat_natCast];refine ih (j + 1) (i + 1) F' _ (by omega) (by omega) (by omega) (by rw [List.length_set];exact hvl) ?_ ?_
    ·rw [htk,if_neg h,← h1,List.take_succ,List.getElem?_set_self (by omega),List.take_set_of_le (Nat.le_refl _)]
     rfl
    ·rw [List.drop_set_of_lt (by omega)];exact hd2
section
variable {w:Za} {m:Model} {F:Nat}
theorem Zy5 {l:List ZV} {k:Nat} (hk:k < l.length) (hl:l.length < 1000):ZvB l (k:Int) (ZF ((k:Int) + 1))=some (l.take k ++ l.drop (k + 1)):=by
 unfold ZvB;have e0:slL l 0 (k:Int)=some ((l.take k).drop 0):=KZ (a:=0) (Nat.zero_le k) (by omega);rw [Xk (by omega),KZ (by omega) (by omega),Bq0,e0,KZ (by omega) (Nat.le_refl _)];have:((k:Int)== ((k + 1:Nat):Int))=false:=by simp;omega
 rw [this,Cq0];simp only [Bq0,List.drop_zero,List.take_length];rw [XJ (by simp;omega) (by decide)]
 rfl
theorem Zp7 (hF:1000 <=F) (R:Rt w) (f:Fits w m) {d:Zn} (hf:Jj d w.cells.length=true) (he:YS w d d.at_.toNat=0):∃ m',Zsy F m w d=some m'∧Fits (Yf w d) m':=by
 obtain⟨hu,hw⟩:=f.small R;obtain⟨D1,D2,D3,D4,D5⟩:=Zgo R hf he;have hnt:=R.nts;unfold Zsy
 have kinds:d.Z6=1∨d.Z6=2∨d.Z6=3∨d.Z6=4∨d.Z6=5:=by
  rcases Y0 hf with⟨k,_⟩ | ⟨k,_⟩ | ⟨k,_⟩ | ⟨k,_⟩ <;> omega
 rcases kinds with k | k | k | k | k
 ·obtain⟨a,b⟩:=D1 k;rw [show(d.Z6==1)=true by simp [k],Cq1,XJ (by simp;omega) (by decide),Bq0];refine⟨_,rfl,⟨fun s=>?_,?_,?_⟩⟩
  ·rw [a,List.mem_append,f.mem,List.mem_singleton]
  ·show(m.uses ++ [_]).Nodup;rw [List.nodup_append];refine⟨f.nd,by simp,fun x hx y hy e=>?_⟩;rw [List.mem_singleton] at hy;subst e;rw [hy] at hx;have:= ((f.mem _).1 hx).name R;unfold Yn at this;simp at this
  ·show m.ways=_;rw [b];exact f.ways
 ·obtain⟨a,b,_⟩:=D2 k;rw [show(d.Z6==1)=false by simp [k],show(d.Z6==2)=true by simp [k],Cq0,Cq1,XJ (by simp;omega) (by decide),Bq0];refine⟨_,rfl,⟨fun s=>?_,f.nd,?_⟩⟩
  ·rw [a];exact f.mem s
  ·show m.ways ++ _=_;rw [b,f.ways]
 ·obtain⟨a,b,c⟩:=D3 k;rw [show(d.Z6==1)=false by simp [k],show(d.Z6==2)=false by simp [k],show(d.Z6==3)=true by simp [k],Cq0,Cq0,Cq1];have hmem:(⟨d.at_,d.name⟩:ZV) ∈ m.uses:= (f.mem _).2 c
  have e:=Y1 m.uses (fun v (_:Unit)=>v) (Zgd F m d) (fun k y s next=>bif Kn y ⟨d.at_,d.name⟩ then Za5 F m d (k:Int) else next ()) (fun _=>Za5 F m d (-1)) (by omega) (fun k y s next hy hk=>by
   simp only [Zgd,Z0,hy,hk,decide_true,Bq0,Cq1]) (fun s next=>by simp [Zgd]) (by omega:m.uses.length < F) ()
  rw [show loop F (Zgd F m d) 0=_ from e];rcases ZfQ (l:=m.uses) (i:=0) (s:= ()) (d:=fun _=>Za5 F m d (-1)) (g:=fun k (y:ZV) (_:Unit) next=>bif Kn y ⟨d.at_,d.name⟩ then Za5 F m d (k:Int) else next ()) (fun k=>Za5 F m d (k:Int)) (fun y=>Kn y ⟨d.at_,d.name⟩) (fun _ _ _ _=>rfl) with⟨j,y,h1,h2,h3⟩ | ⟨h1,h2⟩
  ·rw [h3,Nat.zero_add];have hy:=List.find?_some h1;rw [QT,decide_eq_true_eq] at hy;obtain⟨hj,hjy⟩:=Li0 h2
   have Zdx:m.uses=m.uses.take j ++ y::m.uses.drop (j + 1):=by
    rw [← hjy,← List.drop_eq_getElem_cons hj,List.take_append_drop]
   have ZJA:y ∉ m.uses.take j:=by
    intro z;have:=f.nd;rw [Zdx,List.nodup_append] at this;exact this.2.2 y z y (by simp) rfl
   unfold Za5;rw [show((j:Int)==-1)=false by simp,Cq0,Xk (by omega)];refine⟨_,ZvS rfl m.uses (by omega) (m.uses.length - (j + 1)) (j + 1) j F m.uses (by omega) (by omega) (by omega) rfl ?_ rfl,⟨fun s=>?_,?_,?_⟩⟩
   ·unfold less;rw [List.take_succ,h2,List.filter_append]
    have q1:(m.uses.take j).filter (fun x=>!(Kn x ⟨d.at_,d.name⟩))=m.uses.take j:=by
     rw [List.filter_eq_self];intro x hx;rw [QT,← hy];have:x ≠ y:=fun z=>ZJA (z ▸ hx)
     simp [this]
    rw [q1];simp only [Option.toList_some];rw [List.filter_cons_of_neg (by rw [QT,hy];simp)];simp
   ·rw [a,Zur,f.mem]
   ·exact List.Pairwise.filter _ f.nd
   ·show m.ways=_;rw [b];exact f.ways
  ·exfalso;rw [List.find?_eq_none] at h1;have:=h1 _ hmem;rw [QT] at this;simp at this
 ·obtain⟨a,b⟩:=D4 k;rw [show(d.Z6==1)=false by simp [k],show(d.Z6==2)=false by simp [k],show(d.Z6==3)=false by simp [k],show(d.Z6==5)=false by simp [k],Cq0,Cq0,Cq0,Cq0];exact⟨_,rfl,⟨fun s=>by rw [a];exact f.mem s,f.nd,by rw [b];exact f.ways⟩⟩
 ·obtain⟨x,hx,a,b⟩:=D5 k;rw [show(d.Z6==1)=false by simp [k],show(d.Z6==2)=false by simp [k],show(d.Z6==3)=false by simp [k],show(d.Z6==5)=true by simp [k],Cq0,Cq0,Cq0,Cq1];obtain⟨hk,_⟩:=Li0 hx;obtain⟨j,hj⟩:∃ j,d.at_.toNat=j:= ⟨_,rfl⟩
  rw [hj] at hx b hk;have h0:0 <=d.at_:=by rcases Y0 hf with⟨z,_⟩ | ⟨z,_⟩ | ⟨z,_⟩ | ⟨_,z⟩ <;> omega
  have hat:d.at_= (j:Int):=by omega
  rw [hat,Z0,hx,Bq0];obtain⟨g1,g2⟩:=ZkA hx;by_cases h:x.kind=1
  ·rw [show(x.kind !=1)=false by simp [h],Cq0];have e0:=KZ (xs:=w.notes) (a:=0) (b:=j) (Nat.zero_le j) (by omega);rw [List.drop_zero] at e0;rw [show slL w.notes 0 (j:Int)=some (w.notes.take j) from e0,Bq0];have g2:=g2 h;rw [← f.ways] at g2;obtain⟨q,hq⟩:∃ q,(gives (w.notes.take j)).length=q:= ⟨_,rfl⟩
   rw [hq] at g2 b;obtain⟨hql,_⟩:=Li0 g2
   have e:=Y1 (w.notes.take j) (fun v (s:Int)=>(s,v)) (Zgc F m (w.notes.take j)) (fun _ c s nx=>nx (bif c.kind==1 then ZF (s + 1) else s)) (fun s=>(bif decide (s < (m.ways.length:Int)) then(Ye m.ways s).bind fun Zry=>(ZlZ F m.uses Zry).bind fun x159=>(bif(!x159) then(Ye m.ways s).bind fun x160=>(app 16 m.uses [x160]).bind fun Zov=>(ZcL m s) Zov else(ZcL m s) m.uses) else(ZbZ) (m.uses,m.ways))) (by rw [List.length_take];omega) (fun k y s nx hy hk=>by
    simp only [Zgc,Z0,hy,hk,decide_true,Cq1,Bq0];cases (y.kind==1) <;> rfl) (fun s nx=>by
    simp only [Zgc];rw [decide_eq_false (by omega),Cq0]) (by rw [List.length_take];omega:(w.notes.take j).length < F) 0
   rw [show loop F (Zgc F m (w.notes.take j)) (0,0)=_ from e];rw [(Qo (fun _ (c:Zd) (s:Int)=>bif c.kind==1 then ZF (s + 1) else s) (fun _ _=>True) trivial (fun _ _ _ _ _ _=>⟨rfl,trivial⟩)).1,Qv];have hc:=Zja (fun c:Zd=>c.kind==1) (w.notes.take j) 0 (by rw [List.length_take];omega)
   have hcq:(w.notes.take j).countP (fun c:Zd=>c.kind==1)=q:=by
    rw [← hq];unfold gives;rw [List.length_map,List.countP_eq_length_filter]
   rw [hcq,Nat.zero_add] at hc;rw [show((0:Nat):Int)=0 from rfl] at hc;rw [hc,decide_eq_true (by omega),Cq1,Z0,g2,Bq0,ZaZ hF (by omega),Bq0]
   have fin:∀ u:List ZV,ZcL m (q:Int) u=some ⟨u,m.ways.take q ++ m.ways.drop (q + 1)⟩:=by
    intro u;unfold ZcL;rw [Zy5 hql (by omega),Bq0];rfl
   have Zz5:m.ways.take q ++ m.ways.drop (q + 1)=gives (Yf w d).notes:=by
    rw [b,if_pos h,f.ways]
   by_cases hin:(⟨x.Zv,x.name⟩:ZV) ∈ m.uses
   ·rw [decide_eq_true hin];simp only [Bool.not_true,Cq0];refine⟨_,fin _,⟨fun s=>?_,f.nd,Zz5⟩⟩;rw [a,← f.mem];refine⟨.inl,?_⟩;rintro(z | ⟨_,z⟩)
    ·exact z
    ·rw [z];exact hin
   ·rw [decide_eq_false hin];simp only [Bool.not_false,Cq1,Bq0];rw [XJ (by simp;omega) (by decide),Bq0];refine⟨_,fin _,⟨fun s=>?_,?_,Zz5⟩⟩
    ·show s ∈ m.uses ++ [_]↔_;rw [a,List.mem_append,f.mem,List.mem_singleton];exact⟨fun z=>z.imp id fun y=>⟨h,y⟩,fun z=>z.imp id fun y=>y.2⟩
    ·show(m.uses ++ [_]).Nodup;rw [List.nodup_append];refine⟨f.nd,by simp,fun u hu y hy e=>?_⟩;rw [List.mem_singleton] at hy;subst e;rw [hy] at hu;exact hin hu
  ·rw [show(x.kind !=1)=true by simp [h],Cq1];refine⟨_,rfl,⟨fun s=>?_,f.nd,?_⟩⟩
   ·rw [a,← f.mem];exact⟨.inl,fun z=>z.elim id fun y=>absurd y.1 h⟩
   ·rw [b,if_neg h];exact f.ways
end
end Go.Proofs.Ytekpjgmhkkjhgaa
end
section
namespace Go.Proofs.Ytekpjgmhkkjhgaa
open Go.Lf
def G (w:Za) (n a:Int):Int:=JX (YW w n) (QB w n) a
section
variable {w w':Za} {m:Nat} {n:Int}
theorem ZH1 (hm:m < w.cells.length) (Yx:∀ m,m < w.cells.length ->U7 (rowOf w m)) {d:Zb} (hd:d.name=n) (k a:Int):G (cw w m (put d (rowOf w m))) k a=if k=n∧a= (m:Int) then d.out + YD (Yu a) (QB w n) else G w k a:=by
 obtain⟨U,V1,V2⟩:=Qk hm Yx hd;unfold G JX;by_cases h:k=n
 ·subst h;rw [V1,V2];by_cases e:a= (m:Int)
  ·rw [if_pos ⟨rfl,e⟩,e,WG];rfl
  ·rw [if_neg (fun z=>e z.2),ZaF e]
 ·rw [if_neg (fun z=>h z.1),U.oc _ h,U.on _ h]
theorem Zkm (hm:m < w.cells.length) (n:Int):XP (YW w n (m:Int))= (look (rowOf w m) n).out:=by
 rw [Jb hm,Y9];unfold look;cases Kr (rowOf w m) n <;> rfl
theorem ZmF (hm:m < w.cells.length) (Yx:∀ m,m < w.cells.length ->U7 (rowOf w m)) {d:Zb} (hd:d.name=n) {x:Int} (hx:0 <=x) (hu:d.out <= (look (rowOf w m) n).out + x) (k a:Int):G (cw w m (put d (rowOf w m))) k a <=G w k a + if k=n∧a= (m:Int) then x else 0:=by
 rw [ZH1 hm Yx hd];by_cases h:k=n∧a= (m:Int)
 ·rw [if_pos h,if_pos h,h.1,h.2];unfold G JX;rw [Zkm hm];omega
 ·rw [if_neg h,if_neg h];omega
theorem ZwB (x:Zd) (k a:Int):G (sent w x) k a=G w k a + if x.name=k then Yu a x else 0:=by
 unfold G JX;have h1:YW (sent w x) k=YW w k:=rfl
 have h2:QB (sent w x) k=QB w k ++ (if x.name=k then [x] else []):=by
  unfold QB sent;rw [List.filter_append];congr 1;by_cases h:x.name=k
  ·rw [if_pos h,List.filter_cons_of_pos (by simp [h])];rfl
  ·rw [if_neg h,List.filter_cons_of_neg (by simp [h])];rfl
 rw [h1,h2,Xy];by_cases h:x.name=k
 ·rw [if_pos h,if_pos h,Qs];omega
 ·rw [if_neg h,if_neg h];simp [YD]
theorem ZhQ {x:Zd} (h:x.kind ≠ 3) (k a:Int):G (sent w x) k a=G w k a:=by
 rw [ZwB];have:Yu a x=0:=by unfold Yu;rw [if_neg (fun z=>h z.1)]
 rw [this];split <;> omega
theorem ZH0 (hm:m < w.cells.length) (Yx:∀ m,m < w.cells.length ->U7 (rowOf w m)) (ho:(look (rowOf w m) n).out=0) (k a:Int):G (cw w m (rmv n (rowOf w m))) k a=G w k a:=by
 obtain⟨U,V1,V2⟩:=Zla (n:=n) hm Yx;unfold G JX;by_cases h:k=n
 ·subst h;rw [V1,V2];by_cases e:a= (m:Int)
  ·rw [e,WG,Zkm hm,ho];rfl
  ·rw [ZaF e]
 ·rw [U.oc _ h,U.on _ h]
theorem ZeC (hm:m < w.cells.length) (Yx:∀ m,m < w.cells.length ->U7 (rowOf w m)) {c:Zb} (hc:(look (rowOf w m) n).out=c.out) (k a:Int):G (XD w m n c) k a=G w k a:=by
 unfold XD;cases hu:(c.use || (c.out !=0))
 ·simp only [Cq0]
  have hco:c.out=0:=by
   rw [Bool.or_eq_false_iff] at hu
   simpa using hu.2
  rw [← ZH0 hm Yx (hc.trans hco) k a];cases c.root
  ·simp only [Cq0];cases decide (c.from_ >=0)
   ·rfl
   ·rw [Cq1];exact ZhQ (w:=cw w m (rmv n (rowOf w m))) (x:= ⟨2,c.from_,n,0,c.has⟩) (show(2:Int) ≠ 3 by decide) k a
  ·rfl
 ·rfl
theorem Zv7 (hm:m < w.cells.length) (Yx:∀ m,m < w.cells.length ->U7 (rowOf w m)) {Zv x:Int} (hx:0 <=x∧x <=1000000) (ho:-16 <= (look (rowOf w m) n).out∧(look (rowOf w m) n).out <=2000000) (k a:Int):G (XV w m n Zv x) k a <=G w k a:=by
 unfold XV;cases (Zv != (m:Int))
 ·rw [Cq0]
  have:=ZmF hm Yx (n:=n) (d:= {look (rowOf w m) n with out:=ZF ((look (rowOf w m) n).out - x)}) (J7 _ _) (x:=0) (by omega) (by
   show ZF ((look (rowOf w m) n).out - x) <=_;rw [YX (by omega) (by omega)];omega) k a
  split at this <;> omega
 ·rw [Cq1,ZhQ (show(2:Int) ≠ 3 by decide)];omega
theorem Zt6 (a:Int) (x:Zd):Yu a x <=16:=by unfold Yu;split <;> omega
theorem ZH2 {k:Nat} {x:Zd} (hk:w.notes[k]? =some x) (n a:Int):G w n a=G (WJ w k) n a + if x.name=n then Yu a x else 0:=by
 obtain⟨hkl,hkx⟩:=Li0 hk
 have Zdx:w.notes=w.notes.take k ++ x::w.notes.drop (k + 1):=by
  rw [← hkx,← List.drop_eq_getElem_cons hkl,List.take_append_drop]
 unfold G JX;have h1:YW (WJ w k) n=YW w n:=rfl
 have h2:YD (Yu a) (QB w n)=YD (Yu a) (QB (WJ w k) n) + if x.name=n then Yu a x else 0:=by
  unfold QB WJ;dsimp only;rw [List.filter_append,Xy]
  conv=>lhs;rw [Zdx]
  rw [List.filter_append,Xy];by_cases h:x.name=n
  ·rw [if_pos h,List.filter_cons_of_pos (by simp [h])];simp only [YD];omega
  ·rw [if_neg h,List.filter_cons_of_neg (by simp [h])];omega
 rw [h1,h2];omega
theorem Zy9 (R:Rt w) {k:Nat} {x:Zd} (hk:w.notes[k]? =some x) (n a:Int):G (Jc (WJ w k) x) n a <=G w n a:=by
 obtain⟨R0,M0⟩:=ZoO R hk;rw [ZH2 hk n a];obtain⟨v,hv⟩:∃ v,WJ w k=v:= ⟨_,rfl⟩
 rw [hv] at R0 M0 ⊢;have hn:=R0.nn x (by simp);have hfl:∀ y ∈ [x],y.name=x.name:=by simp
 obtain⟨h,H⟩:=R0.nm x.name hn;rw [ZaN hfl] at H;have hMx:=M0 x.name hn;rw [ZaN hfl] at hMx;have H:Nm v.cells.length x.name (YW v x.name) (x::QB v x.name) h:=H;have hx:=H.nts x (by simp);have hxw:= (H.most hMx).2 x (by simp);obtain⟨m,hm'⟩:∃ m,x.Zv.toNat=m:= ⟨_,rfl⟩
 have hat:x.Zv= (m:Int):=by omega
 have hm:m < v.cells.length:=by omega
 have S:=ZgV H hMx x.Zv;have Zcb:look (rowOf v m) x.name=Zb9 x.name (YW v x.name) x.Zv:=by rw [Zkt hm,hat]
 rw [← Zcb] at S;have Yx:=R0.Yx;have hln:=J7 (rowOf v m) x.name;unfold Jc;rw [hm'];dsimp only;obtain⟨c,hc⟩:∃ c,look (rowOf v m) x.name=c:= ⟨_,rfl⟩
 rw [hc] at S hln ⊢;cases k1:(x.kind==1)
 ·rw [Cq0];cases k2:(x.kind==2)
  ·rw [Cq0]
   have k3:x.kind=3:=by
    rcases hx.2.2.2 with z | z | z
    ·rw [z.1] at k1;cases k1
    ·rw [z.1] at k2;cases k2
    ·exact z.1
   have hd:(⟨c.name,true,-1,0,ZF (c.out + 16),c.use⟩:Zb).name=x.name:=hln;have ho:ZF (c.out + 16)=c.out + 16:=YX (by omega) (by omega);have g1:=ZmF hm Yx hd (x:=16) (by omega) (by show ZF (c.out + 16) <=_;rw [ho,hc];omega) n a;have hlk:=Wl hm (Yx m hm) hd;obtain⟨U,_,_⟩:=Qk hm Yx hd;obtain⟨b,hb⟩:∃ b,cw v m (put ⟨c.name,true,-1,0,ZF (c.out + 16),c.use⟩ (rowOf v m))=b:= ⟨_,rfl⟩
   rw [hb] at U g1 hlk ⊢;have hm2:m < b.cells.length:=by rw [U.len];exact hm
   have ZoF:∀ k,k < b.cells.length ->U7 (rowOf b k):=fun k hk=>U.Yx k (by rw [← U.len];exact hk)
   have ZLN:(if n=x.name∧a= (m:Int) then(16:Int) else 0) <=if x.name=n then Yu a x else 0:=by
    by_cases e:n=x.name∧a= (m:Int)
    ·rw [if_pos e,if_pos e.1.symm,Zhu k3,if_pos (by rw [hat];exact e.2.symm)];omega
    ·rw [if_neg e];split
     ·exact KD a x
     ·omega
   cases decide (c.from_ >=0)
   ·simp only [Cq0];rw [ZeC hm2 ZoF (n:=x.name) (c:=look (rowOf b m) x.name) rfl];omega
   ·simp only [Cq1];obtain⟨l3,s3⟩:=Zrn hm2 ZoF (n:=x.name) c.from_ c.has;have g2:=Zv7 hm2 ZoF (n:=x.name) (Zv:=c.from_) (x:=c.has) (by omega) (by rw [hlk];show -16 <=ZF (c.out + 16)∧ZF (c.out + 16) <=2000000;rw [ho];omega) n a;rw [ZeC (by rw [l3];exact hm2) (fun k hk=>s3 k (by rw [← l3];exact hk)) (n:=x.name) (c:=look (rowOf (XV b m x.name c.from_ c.has) m) x.name) rfl];omega
  ·rw [Cq1];have hd:(⟨c.name,c.root,c.from_,c.has,ZF (c.out - x.w),c.use⟩:Zb).name=x.name:=hln;have g1:=ZmF hm Yx hd (x:=0) (by omega) (by show ZF (c.out - x.w) <=_;rw [YX (by omega) (by omega),hc];omega) n a;have hlk:=Wl hm (Yx m hm) hd;obtain⟨U,_,_⟩:=Qk hm Yx hd;rw [ZeC (by rw [U.len];exact hm) (fun k hk=>U.Yx k (by rw [← U.len];exact hk)) (n:=x.name) (by rw [hlk])];have:=KD a x;split at g1 <;> split <;> omega
 ·rw [Cq1]
  have hng:0 <= (if x.name=n then Yu a x else 0):=by
   have:=KD a x;split <;> omega
  have ZA9:∀ d:Zb,d.name=x.name ->d.out=c.out ->G (cw v m (put d (rowOf v m))) n a <=G v n a:=fun d hd ho=>by
   have:=ZmF hm Yx hd (x:=0) (by omega) (by rw [ho,hc];omega) n a;split at this <;> omega
  generalize ((!c.root && (c.from_==-1)) && (x.via !=x.Zv))=b1;generalize ((!c.root && decide (c.from_ >=0)) && (c.from_==x.via))=b2;cases b1
  ·simp only [Cq0];cases b2
   ·simp only [Cq0];have hd:(⟨c.name,c.root,c.from_,c.has,c.out,true⟩:Zb).name=x.name:=hln;have hlk:=Wl hm (Yx m hm) hd;obtain⟨U,_,_⟩:=Qk hm Yx hd;have g1:=ZA9 _ hd rfl;have g2:=Zv7 (by rw [U.len];exact hm) (fun k hk=>U.Yx k (by rw [← U.len];exact hk)) (n:=x.name) (Zv:=x.via) (x:=x.w) (by omega) (by rw [hlk];show -16 <=c.out∧c.out <=2000000;omega) n a;omega
   ·simp only [Cq1];have:=ZA9 ⟨c.name,c.root,c.from_,ZF (c.has + x.w),c.out,true⟩ hln rfl;omega
  ·simp only [Cq1];have:=ZA9 ⟨c.name,c.root,x.via,x.w,c.out,true⟩ hln rfl;omega
theorem Zv0 (R:Rt w) {d:Zn} (h1:d.Z6 ≠ 1) (h5:d.Z6 ≠ 5) (hm:m < w.cells.length) (he:YS w d m=0):∃ c,look (rowOf w m) d.name=c∧c.name=d.name∧-16 <=c.out∧c.out <=1000000:=by
 obtain⟨c,hc,_,_⟩:=QC h1 h5 he;obtain⟨_,e,hn⟩:=R.Qn hm hc;obtain⟨h,H,Mx⟩:=R.nm _ hn;have S:= (H.most Mx).1 _ c e;exact⟨c,Q9 hc,Qg hc,S.1,S.2.1⟩
theorem ZvR (R:Rt w) {d:Zn} (hf:Jj d w.cells.length=true) (he:YS w d d.at_.toNat=0) (n a:Int):G (Yf w d) n a <=G w n a + 16:=by
 have Yx:=R.Yx;obtain⟨m,hm'⟩:∃ m,d.at_.toNat=m:= ⟨_,rfl⟩
 have he0:=he;unfold Yf;rw [hm'] at he ⊢;rcases Y0 hf with⟨k,a0⟩ | ⟨k,a0,t0,ne,nm⟩ | ⟨k,a0,nm⟩ | ⟨k,a0⟩
 ·rw [show(d.Z6==1)=true by simp [k],Cq1];have hm:m < w.cells.length:=by omega
  have e:G (ZeL w m) n a=G (cw w m (put (ZfI w) (rowOf w m))) n a:=rfl;rw [e]
  have hnone:(look (rowOf w m) w.names).out=0:=by
   unfold look;cases h:Kr (rowOf w m) w.names with
   | none=>rfl
   | some c=>
     exfalso;have:=R.rx.1.range m hm c (ZbW h);have:=Qg h;omega
  have:=ZmF hm Yx (n:=w.names) (d:=ZfI w) rfl (x:=0) (by omega) (by rw [hnone];exact Int.le_refl _) n a;split at this <;> omega
 ·have hm:m < w.cells.length:=by omega
  have q1:d.Z6 ≠ 1:=by omega
  have q5:d.Z6 ≠ 5:=by omega
  obtain⟨c,hl,hcn,o1,o2⟩:=Zv0 R q1 q5 hm he;rw [hl];by_cases k2:d.Z6=2
  ·rw [show(d.Z6==1)=false by simp [k2],show(d.Z6==2)=true by simp [k2],Cq0,Cq1];unfold ZeF;cases (decide (c.from_ >=0) && decide (c.has >=2))
   ·rw [Cq0,ZhQ (show(1:Int) ≠ 3 by decide)];have:=ZmF hm Yx (n:=d.name) (d:= ⟨c.name,c.root,c.from_,c.has,ZF (c.out + 16),c.use⟩) hcn (x:=16) (by omega) (by show ZF (c.out + 16) <=_;rw [YX (by omega) (by omega),hl];omega) n a;split at this <;> omega
   ·rw [Cq1,ZhQ (show(1:Int) ≠ 3 by decide)];have:=ZmF hm Yx (n:=d.name) (d:= ⟨c.name,c.root,c.from_,ZF (c.has - ZF (c.has.tdiv 2)),c.out,c.use⟩) hcn (x:=0) (by omega) (by rw [hl];show c.out <=_;omega) n a;split at this <;> omega
  ·have k4:d.Z6=4:=k.resolve_left k2;rw [show(d.Z6==1)=false by simp [k4],show(d.Z6==2)=false by simp [k4],show(d.Z6==5)=false by simp [k4],show(d.Z6==3)=false by simp [k4],Cq0,Cq0,Cq0,Cq0];unfold goW;rw [ZwB];have:=ZmF hm Yx (n:=d.name) (d:=goC c d.Zv) hcn (x:=0) (by omega) (by rw [hl];show c.out <=_;omega) n a;have:=Zt6 a ⟨3,d.Zv,d.name,0,16⟩;split at * <;> split <;> omega
 ·have hm:m < w.cells.length:=by omega
  have q1:d.Z6 ≠ 1:=by omega
  have q5:d.Z6 ≠ 5:=by omega
  obtain⟨c,hl,hcn,o1,o2⟩:=Zv0 R q1 q5 hm he;rw [hl];rw [show(d.Z6==1)=false by simp [k],show(d.Z6==2)=false by simp [k],show(d.Z6==5)=false by simp [k],show(d.Z6==3)=true by simp [k],Cq0,Cq0,Cq0,Cq1];unfold Zha;have hd:(ZaR c).name=d.name:=hcn;have hlk:=Wl hm (Yx m hm) hd;obtain⟨U,_,_⟩:=Qk hm Yx hd;rw [ZeC (by rw [U.len];exact hm) (fun k hk=>U.Yx k (by rw [← U.len];exact hk)) (n:=d.name) (by rw [hlk])];have:=ZmF hm Yx hd (x:=0) (by omega) (by rw [hl];show c.out <=_;omega) n a;split at this <;> omega
 ·rw [show(d.Z6==1)=false by simp [k],show(d.Z6==2)=false by simp [k],show(d.Z6==5)=true by simp [k],Cq0,Cq0,Cq1];obtain⟨x,hx,_⟩:= (Zgo R hf he0).2.2.2.2 k;rw [hm'] at hx;rw [hx,Option.getD_some];have:=Zy9 R hx n a;omega
end
end Go.Proofs.Ytekpjgmhkkjhgaa
end
section
namespace Go.Proofs.Ytekpjgmhkkjhgaa
open Go.Lf
section
variable {w:Za} {m:Model} {F:Nat}
theorem ZLr (X:Rx w KE []) (n a:Int):-16 <=G w n a:=by
 have h2:0 <=YD (Yu a) (QB w n):=Kc fun x _=>KD a x
 unfold G JX;cases e:YW w n a with
 | none=>simp only [XP];omega
 | some c=>
   obtain⟨h,H⟩:=X.nm n (X.cn n a c e).1;have H:Nm w.cells.length n (YW w n) (QB w n) h:=H;have:= (H.Zle e).1;simp only [XP];omega
theorem Zxt (R:Rt w) {d:Zn} (hf:Jj d w.cells.length=true) (he:YS w d d.at_.toNat=0) {K:Int} (hG:∀ n a,G w n a <=K) (hK:K <=900000) (hn:(Yf w d).notes.length <=80):Kk (Yf w d)=false:=by
 obtain⟨X1,X2,X3,X4,X5⟩:=Zmi R hf he;unfold Kk;rw [decide_eq_false (by omega),Bool.false_or,List.any_eq_false];intro a ha;rw [List.mem_range] at ha;rw [Bool.not_eq_true,List.any_eq_false];intro n hn2;have h1:=ZvR R hf he (n:Int) (a:Int);have h2:=hG n a;have h3:=ZLr X1 (n:Int) (a:Int);rw [Zaj _ ha];rw [show ZF (JX (YW (Yf w d) (n:Int)) (QB (Yf w d) (n:Int)) (a:Int))=G (Yf w d) n a from YX (by show _ <=G _ _ _;omega) (by show G _ _ _ <=_;omega)];simp;omega
theorem ZpN (R:Rt w) {d:Zn} (hf:Jj d w.cells.length=true) (he:YS w d d.at_.toNat=0):(Yf w d).notes.length <=w.notes.length + 1∧(d.Z6=1∨d.Z6=5 ->(Yf w d).notes.length <=w.notes.length):=by
 obtain⟨_,_,_,_,D5⟩:=Zgo R hf he;unfold Yf;rcases Y0 hf with⟨k,a0⟩ | ⟨k,a0,t0,ne,nm⟩ | ⟨k,a0,nm⟩ | ⟨k,a0⟩
 ·rw [show(d.Z6==1)=true by simp [k],Cq1];exact⟨Nat.le_succ _,fun _=>Nat.le_refl _⟩
 ·by_cases k2:d.Z6=2
  ·rw [show(d.Z6==1)=false by simp [k2],show(d.Z6==2)=true by simp [k2],Cq0,Cq1];exact⟨Nat.le_of_eq (Zm1 _ _ _).1,fun z=>by omega⟩
  ·have k4:d.Z6=4:=by omega
   rw [show(d.Z6==1)=false by simp [k4],show(d.Z6==2)=false by simp [k4],show(d.Z6==5)=false by simp [k4],show(d.Z6==3)=false by simp [k4],Cq0,Cq0,Cq0,Cq0];exact⟨Nat.le_of_eq (ZeE _),fun z=>by omega⟩
 ·rw [show(d.Z6==1)=false by simp [k],show(d.Z6==2)=false by simp [k],show(d.Z6==5)=false by simp [k],show(d.Z6==3)=true by simp [k],Cq0,Cq0,Cq0,Cq1];exact⟨(Ke _ _ _).1,fun z=>by omega⟩
 ·rw [show(d.Z6==1)=false by simp [k],show(d.Z6==2)=false by simp [k],show(d.Z6==5)=true by simp [k],Cq0,Cq0,Cq1];obtain⟨x,hx,_⟩:=D5 k;rw [hx,Option.getD_some];obtain⟨hkl,_⟩:=Li0 hx;obtain⟨R0,M0⟩:=ZoO R hx;have q:= (Zn8 R0 M0).2.2.1;have:(WJ w d.at_.toNat).notes.length + 1=w.notes.length:=by unfold WJ;simp;omega
  exact⟨by omega,fun _=>by omega⟩
theorem ZrK (R:Rt w) {d:Zn} {M nm nt:Int} (hM:M=w.cells.length) (hnm:nm=w.names) (hnt:nt=w.notes.length) (D:Zjr d M nm nt) {K:Int} (hG:∀ n a,G w n a <=K) (hK:K <=900000):
 ((stepW w d).2=7∧YS w d d.at_.toNat=7∧(d.Z6=2∨d.Z6=3 ->¬ Uses w ⟨d.at_,d.name⟩)∧(d.Z6=2∨d.Z6=3∨d.Z6=4))∨((stepW w d).2=3∧d.Z6 ≠ 5∧w.notes.length=80)∨((stepW w d).2=0∧(stepW w d).1=Yf w d∧YS w d d.at_.toNat=0∧Kk (Yf w d)=false):=by
 have hf:Jj d w.cells.length=true:=by rw [← hM];exact D.form
 have ZJz:=R.nts
 have e07:YS w d d.at_.toNat=0∨(YS w d d.at_.toNat=7∧(d.Z6=2∨d.Z6=3 ->¬ Uses w ⟨d.at_,d.name⟩)∧(d.Z6=2∨d.Z6=3∨d.Z6=4)):=by
  rcases D.kind with k | k | k | k | k
  ·left;have:=D.make k;unfold YS;rw [show(d.Z6==1)=true by simp [k],Cq1,decide_eq_false (by omega),Cq0]
  ·have hat:0 <=d.at_∧d.at_ < (w.cells.length:Int):=by rcases Y0 hf with⟨z,_⟩ | ⟨_,z,_⟩ | ⟨z,_⟩ | ⟨z,_⟩ <;> omega
   have hl:=KO (w:=w) (m:=d.at_.toNat) (n:=d.name) (by omega);rw [show((d.at_.toNat:Nat):Int)=d.at_ by omega] at hl;unfold YS;rw [show(d.Z6==1)=false by simp [k],show(d.Z6==5)=false by simp [k],Cq0,Cq0,show(d.Z6==4)=false by simp [k]];unfold look at hl;cases h:Kr (rowOf w d.at_.toNat) d.name with
   | none=>rw [h] at hl;exact .inr ⟨rfl,fun _ z=>(by have:=hl.2 z;cases this),.inl k⟩
   | some c=>
     rw [h] at hl;simp only [Cq0];cases hu:c.use
     ·exact .inr ⟨rfl,fun _ z=>(by have:=hl.2 z;simp [hu] at this),.inl k⟩
     ·exact .inl rfl
  ·have hat:0 <=d.at_∧d.at_ < (w.cells.length:Int):=by rcases Y0 hf with⟨z,_⟩ | ⟨z,_⟩ | ⟨_,z,_⟩ | ⟨z,_⟩ <;> omega
   have hl:=KO (w:=w) (m:=d.at_.toNat) (n:=d.name) (by omega);rw [show((d.at_.toNat:Nat):Int)=d.at_ by omega] at hl;unfold YS;rw [show(d.Z6==1)=false by simp [k],show(d.Z6==5)=false by simp [k],Cq0,Cq0,show(d.Z6==4)=false by simp [k]];unfold look at hl;cases h:Kr (rowOf w d.at_.toNat) d.name with
   | none=>rw [h] at hl;exact .inr ⟨rfl,fun _ z=>(by have:=hl.2 z;cases this),.inr (.inl k)⟩
   | some c=>
     rw [h] at hl;simp only [Cq0];cases hu:c.use
     ·exact .inr ⟨rfl,fun _ z=>(by have:=hl.2 z;simp [hu] at this),.inr (.inl k)⟩
     ·exact .inl rfl
  ·unfold YS;rw [show(d.Z6==1)=false by simp [k],show(d.Z6==5)=false by simp [k],Cq0,Cq0,show(d.Z6==4)=true by simp [k]];cases h:Kr (rowOf w d.at_.toNat) d.name with
   | none=>exact .inr ⟨rfl,fun z=>(by omega),.inr (.inr k)⟩
   | some c=>
     simp only [Cq1];cases hu:c.root
     ·exact .inr ⟨rfl,fun z=>(by omega),.inr (.inr k)⟩
     ·exact .inl rfl
  ·left;have:=D.note k;unfold YS;rw [show(d.Z6==1)=false by simp [k],show(d.Z6==5)=true by simp [k],Cq0,Cq1,decide_eq_false (by omega),Cq0]
 rcases e07 with e | ⟨e,e2,e3⟩
 ·right;obtain⟨n1,n2⟩:=ZpN R hf e;cases ho:Kk (Yf w d)
  ·right;unfold stepW;rw [e,ho];exact⟨rfl,rfl,rfl,rfl⟩
  ·left;have h3:(stepW w d).2=3:=by unfold stepW;rw [e,ho];rfl
   by_cases hn:(Yf w d).notes.length <=80
   ·rw [Zxt R hf e hG hK hn] at ho;cases ho
   ·refine⟨h3,fun k=>?_,by omega⟩;have:=n2 (.inr k);omega
 ·left;refine⟨?_,e,e2,e3⟩;unfold stepW;rw [e];rfl
structure LV (M:Nat) (K:Nat) (w:Za) (m:Model):Prop where
 rt:Rt w
 fit:Fits w m
 len:w.cells.length=M
 g:∀ n a,G w n a <=16 * (K:Int)
theorem LV.mono {M K K':Nat} (h:LV M K w m) (hk:K <=K'):LV M K' w m:= ⟨h.rt,h.fit,h.len,fun n a=>by have:=h.g n a;omega⟩
theorem LV.step (hF:1000 <=F) {M K:Nat} (L:LV M K w m) {d:Zn} (hf:Jj d w.cells.length=true) (he:YS w d d.at_.toNat=0) (hv:Kk (Yf w d)=false):∃ m',Zsy F m w d=some m'∧LV M (K + 1) (Yf w d) m':=by
 obtain⟨m',e,f⟩:=Zp7 hF L.rt L.fit hf he;obtain⟨r,l⟩:=Zrj L.rt hf he hv;exact⟨m',e,⟨r,f,l.trans L.len,fun n a=>by have:=ZvR L.rt hf he n a;have:=L.g n a;omega⟩⟩
theorem ZoZ (hF:1000 <=F) {M:Nat} (z:List Za8) (hz:z.length <=120) (hu:∀ a ∈ z,U8 a):∀ (k i F':Nat) (w:Za) (m:Model),LV M i w m ->i + k=z.length ->k < F' ->
 ∃ w' m',loop F' (Zek F z) ((i:Int),m.uses,m.ways,w.cells,w.notes,w.names,w.freed)=some (w',m',true)∧LV M z.length w' m':=by
 intro k
 induction k with
 | zero=>
   intro i F' w m L hi hF';obtain⟨F',rfl⟩:=Ne0 (n:=F') (by omega);rw [Yl];simp only [Zek];rw [decide_eq_false (by omega),Cq0];exact⟨w,m,rfl,L.mono (by omega)⟩
 | succ k ih=>
   intro i F' w m L hi hF';obtain⟨F',rfl⟩:=Ne0 (n:=F') (by omega);have hlt:i < z.length:=by omega
   have hua:=hu z[i] (List.getElem_mem hlt);have R:=L.rt;have:=R.c1;have:=R.c6;have:=R.n0;have:=R.n12;have ZJz:=R.nts;obtain⟨hus,hws⟩:=L.fit.small R;rw [Yl];simp only [Zek];rw [decide_eq_true (by omega),Cq1,Z0,List.getElem?_eq_getElem hlt,Bq0];obtain⟨d,b,e1,e2⟩:=Zy6 hua (M:=w.cells.length) (nm:=w.names) (nt:=w.notes.length) ⟨by omega,by omega⟩ ⟨by omega,by omega⟩ ⟨by omega,by omega⟩;rw [e1,Bq0]
   have skip:∃ w' m',Zb0 (i:Int) (loop F' (Zek F z)) (m.uses,m.ways,w.cells,w.notes,w.names,w.freed)=some (w',m',true)∧LV M z.length w' m':=by
    unfold Zb0;rw [Xk (by omega)];exact ih (i + 1) F' w m (L.mono (by omega)) (by omega) (by omega)
   cases b
   ·simp only [Bool.not_false,Cq1];exact skip
   ·have D:=e2 rfl;have hfd:=D.form;simp only [Bool.not_true,Cq0];have ew:(⟨w.cells,w.notes,w.names,w.freed⟩:Za)=w:=rfl;have em:(⟨m.uses,m.ways⟩:Model)=m:=rfl;rw [ew,Zy3 hF R.small,Bq0,Zy2 R hfd];rcases ZrK R rfl rfl rfl D L.g (by omega) with⟨s1,s2,s3,s4⟩ | ⟨s1,s2,s3⟩ | ⟨s1,s2,s3,s4⟩
    ·rw [s1];rw [show((7:Int)==7)=true from rfl,Cq1];by_cases k4:d.Z6=4
     ·rw [show(d.Z6 !=4)=false by simp [k4]];simp only [Bool.false_and,ZeS,Bq0,Cq0];exact skip
     ·have hk:d.Z6=2∨d.Z6=3:=by omega
      have hni:¬ (⟨d.at_,d.name⟩:ZV) ∈ m.uses:=fun z=>s3 hk ((L.fit.mem _).1 z)
      have hb:((d.Z6 !=2) && (d.Z6 !=3))=false:=by rcases hk with h | h <;> simp [h]
      rw [show(d.Z6 !=4)=true by simp [k4],hb];simp only [Bool.not_false,Bool.and_true,KH];rw [ZaZ hF (by omega),decide_eq_false hni];simp only [Bq0,Bool.or_self,Bool.and_false,Cq0];exact skip
    ·rw [s1];rw [show((3:Int)==7)=false from rfl,Cq0,show((3:Int)==3)=true from rfl,show(d.Z6 !=5)=true by simp [s2],show((w.notes.length:Int)==80)=true by simp;omega];simp only [Bool.and_self,Cq1];exact skip
    ·rw [s1,s2];rw [show((0:Int)==7)=false from rfl,Cq0,show((0:Int)==3)=false from rfl];simp only [Bool.false_and,Cq0];obtain⟨m',q1,q2⟩:=L.step hF (by exact hfd) s3 s4;rw [show((0:Int) !=0)=false from rfl,show(((Yf w d).cells.length:Int) != (w.cells.length:Int))=false by rw [q2.len,L.len];simp];simp only [Bool.or_self,Cq0];rw [em,q1,Bq0,ZyE hF q2.rt q2.fit,Bq0];simp only [Bool.not_true,Cq0];unfold Zb0;rw [Xk (by omega)];exact ih (i + 1) F' _ m' q2 (by omega) (by omega)
theorem ZyF (p:Int) (n a:Int):G (JY p) n a=0:=by
 unfold G JX
 have h1:YW (JY p) n a=none:=by
  unfold YW;split
  ·rw [Y9]
   have:rowOf (JY p) a.toNat= []:=by
    unfold rowOf JY;rw [List.getElem?_replicate];split <;> rfl
   rw [this];rfl
  ·rfl
 rw [h1];rfl
theorem Zpw (p:Int):Fits (JY p) ⟨[],[]⟩:=by
 refine⟨fun s=>⟨fun z=>(by cases z),fun z=>?_⟩,List.nodup_nil,rfl⟩;exfalso;obtain⟨c,h,_⟩:=z;obtain⟨h1,h2⟩:=X6 h;rw [Y9] at h2
 have:rowOf (JY p) s.at_.toNat= []:=by
  unfold rowOf JY;rw [List.getElem?_replicate];split <;> rfl
 rw [this] at h2;cases h2
theorem Zuq (hF:1000 <=F) {p:Int} (h0:0 <=p) (h1:p <=255) {l:List Za8} (hl:∀ a ∈ l,U8 a):∃ w m,Zsz F p l=some (w,m,true)∧LV (1 + p % 6).toNat 120 w m:=by
 rw [Zne hF h0 h1,show slL l 0 (if 120 < (l.length:Int) then 120 else(l.length:Int))=some (l.take 120) from Zw8 l 120,Bq0];obtain⟨R0,hlen⟩:=ZnC h0;have hl2:(l.take 120).length <=120:=by rw [List.length_take];omega
 obtain⟨w,m,e,L⟩:=ZoZ hF (l.take 120) hl2 (fun a h=>hl a (List.mem_of_mem_take h)) (l.take 120).length 0 F (JY p) ⟨[],[]⟩ ⟨R0,Zpw p,hlen,fun n a=>by rw [ZyF];omega⟩ (by omega) (by omega);exact⟨w,m,e,L.mono hl2⟩
end
end Go.Proofs.Ytekpjgmhkkjhgaa
end
section
namespace Go.Proofs.Ytekpjgmhkkjhgaa
open Go.Lf
section
variable {w:Za} {m:Model} {F:Nat} {n:Int}
end
end Go.Proofs.Ytekpjgmhkkjhgaa
end
section
namespace Go.Proofs.Ytekpjgmhkkjhgaa
open Go.Lf
section
variable {w:Za} {m:Model} {F:Nat}
end
end Go.Proofs.Ytekpjgmhkkjhgaa
end
section
namespace Go.Proofs.Ytekpjgmhkkjhgaa
open Go.Lf
section
variable {w:Za} {m:Model} {F:Nat}
section
variable {M K:Nat} {w0:Za} {k:Nat} {next:Int×(List (List Zb))×(List Zd)×Int×(List Int)×(List ZV)×(List ZV) ->Option Bool}
end
end
end Go.Proofs.Ytekpjgmhkkjhgaa
end
section
namespace Go.Proofs.Ytekpjgmhkkjhgaa
open Go.Lf
section
variable {F:Nat}
end
end Go.Proofs.Ytekpjgmhkkjhgaa
end
section
namespace Go.Proofs.Ytekpjgmhkkjhgaa
open Go.Lf
abbrev UM:=List (ZV×Int)
def JB (v:UM) (k:ZV):Int:= (YV v k).getD 0
def KW (v:UM) (k:ZV) (x:Int):UM:=YL (JS v k 0) k (ZF (JB v k + x))
theorem Ztu (v:UM) (k k':ZV) (x:Int):JB (KW v k x) k'=if k'=k then ZF (JB v k + x) else JB v k':=by
 unfold JB KW;rw [WM,Zdg];by_cases h:k'=k
 ·rw [if_pos h,if_pos h];rfl
 ·rw [if_neg h,if_neg h,if_neg h]
theorem UK.KW {v:UM} (u:UK v) (k:ZV) (x:Int):UK (KW v k x):= (u.JS k 0).YL k _
def Ks {ν:Type} (P:ZV ->Prop) (v:List (ZV×ν)):Prop:=∀ k,YV v k ≠ none ->P k
theorem Ks.KW {P:ZV ->Prop} {v:UM} (h:Ks P v) {k:ZV} (hk:P k) (x:Int):Ks P (KW v k x):=by
 intro k' h';unfold Go.Proofs.Ytekpjgmhkkjhgaa.KW at h';rw [WM,Zdg] at h';by_cases e:k'=k
 ·rw [e];exact hk
 ·rw [if_neg e,if_neg e] at h';exact h k' h'
theorem up1 {v:UM} {a n t:Int} (h:JB v ⟨a,n⟩=ZF t) (b m x:Int):JB (KW v ⟨b,m⟩ x) ⟨a,n⟩=ZF (t + if b=a∧m=n then x else 0):=by
 rw [Ztu];by_cases z:b=a∧m=n
 ·obtain⟨rfl,rfl⟩:=z;rw [if_pos rfl,if_pos ⟨rfl,rfl⟩,h,Zhq]
 ·rw [if_neg (fun e=>z (by injection e with e1 e2;exact⟨e1.symm,e2.symm⟩)),if_neg z,h];simp
def K5 (x:Zd) (s:UM×UM×List (ZV×Bool)):UM×UM×List (ZV×Bool):=
 bif x.kind==1 then(KW s.1 ⟨x.via,x.name⟩ x.w,s.2.1,s.2.2) else bif x.kind==2 then(KW s.1 ⟨x.Zv,x.name⟩ x.w,s.2.1,s.2.2) else
 bif x.kind==3 then(s.1,KW s.2.1 ⟨x.Zv,x.name⟩ 16,YL s.2.2 ⟨x.Zv,x.name⟩ true) else s
theorem ZrV (x:Zd) (s:UM×UM×List (ZV×Bool)) {a n t1 t2:Int} (h1:JB s.1 ⟨a,n⟩=ZF t1) (h2:JB s.2.1 ⟨a,n⟩=ZF t2):
 JB (K5 x s).1 ⟨a,n⟩=ZF (t1 + if x.name=n then Ju a x else 0)∧JB (K5 x s).2.1 ⟨a,n⟩=ZF (t2 + if x.name=n then Yu a x else 0):=by
 unfold K5 Ju Yu;by_cases k1:x.kind=1
 ·have e1:(x.kind==1)=true:=by simp [k1]
  rw [e1,Cq1];refine⟨(up1 h1 _ _ _).trans ?_,?_⟩
  ·congr 2;by_cases z1:x.via=a <;> by_cases z2:x.name=n <;> simp [z1,z2,k1]
  ·have:(if x.name=n then(if x.kind=3∧x.Zv=a then(16:Int) else 0) else 0)=0:=by
    rw [if_neg (fun z=>by omega:¬ (x.kind=3∧x.Zv=a))];split <;> rfl
   rw [this,Int.add_zero];exact h2
 ·have e1:(x.kind==1)=false:=by simp [k1]
  rw [e1,Cq0];by_cases k2:x.kind=2
  ·have e2:(x.kind==2)=true:=by simp [k2]
   rw [e2,Cq1];refine⟨(up1 h1 _ _ _).trans ?_,?_⟩
   ·congr 2;by_cases z1:x.Zv=a <;> by_cases z2:x.name=n <;> simp [z1,z2,k2]
   ·have:(if x.name=n then(if x.kind=3∧x.Zv=a then(16:Int) else 0) else 0)=0:=by
     rw [if_neg (fun z=>by omega:¬ (x.kind=3∧x.Zv=a))];split <;> rfl
    rw [this,Int.add_zero];exact h2
  ·have e2:(x.kind==2)=false:=by simp [k2]
   rw [e2,Cq0]
   have hH:(if x.name=n then(if(x.kind=1∧x.via=a)∨(x.kind=2∧x.Zv=a) then x.w else 0) else(0:Int))=0:=by
    rw [if_neg (fun z=>by omega:¬ ((x.kind=1∧x.via=a)∨(x.kind=2∧x.Zv=a)))];split <;> rfl
   rw [hH,Int.add_zero];by_cases k3:x.kind=3
   ·have e3:(x.kind==3)=true:=by simp [k3]
    rw [e3,Cq1];refine⟨h1,(up1 h2 _ _ _).trans ?_⟩;congr 2;by_cases z1:x.Zv=a <;> by_cases z2:x.name=n <;> simp [z1,z2,k3]
   ·have e3:(x.kind==3)=false:=by simp [k3]
    rw [e3,Cq0];refine⟨h1,?_⟩
    have:(if x.name=n then(if x.kind=3∧x.Zv=a then(16:Int) else 0) else 0)=0:=by
     rw [if_neg (fun z=>k3 z.1:¬ (x.kind=3∧x.Zv=a))];split <;> rfl
    rw [this,Int.add_zero];exact h2
theorem ZgJ (f:Zd ->Int) (n:Int) (x:Zd) (l:List Zd):YD f ((x::l).filter fun x=>x.name==n)= (if x.name=n then f x else 0) + YD f (l.filter fun x=>x.name==n):=by
 rw [List.filter_cons];by_cases h:x.name=n
 ·rw [if_pos (by simp [h]),if_pos h];rfl
 ·rw [if_neg (by simp [h]),if_neg h,Int.zero_add]
def UO (l:List Zd) (s:UM×UM×List (ZV×Bool)):UM×UM×List (ZV×Bool):=l.foldl (fun s x=>K5 x s) s
theorem ZrX (l:List Zd):∀ (s:UM×UM×List (ZV×Bool)) {a n t1 t2:Int},JB s.1 ⟨a,n⟩=ZF t1 ->JB s.2.1 ⟨a,n⟩=ZF t2 ->
 JB (UO l s).1 ⟨a,n⟩=ZF (t1 + YD (Ju a) (l.filter fun x=>x.name==n))∧JB (UO l s).2.1 ⟨a,n⟩=ZF (t2 + YD (Yu a) (l.filter fun x=>x.name==n)):=by
 induction l with
 | nil=>intro s a n t1 t2 h1 h2;simpa [UO,YD] using ⟨h1,h2⟩
 | cons x l ih=>
   intro s a n t1 t2 h1 h2;obtain⟨q1,q2⟩:=ZrV x s h1 h2;rw [ZgJ,ZgJ,← Int.add_assoc,← Int.add_assoc];exact ih (K5 x s) q1 q2
structure NK (P:ZV ->Prop) (s:UM×UM×List (ZV×Bool)):Prop where
 h:UK s.1∧Ks P s.1
 g:UK s.2.1∧Ks P s.2.1
theorem ZoT {P:ZV ->Prop} (l:List Zd) (hl:∀ x ∈ l,(x.kind=1 ->P ⟨x.via,x.name⟩)∧P ⟨x.Zv,x.name⟩):∀ s,NK P s ->NK P (UO l s):=by
 induction l with
 | nil=>intro s h;exact h
 | cons x l ih=>
   intro s h;refine ih (fun y hy=>hl y (List.mem_cons_of_mem _ hy)) (K5 x s) ?_;obtain⟨p1,p2⟩:=hl x (by simp);unfold K5;cases k1:(x.kind==1)
   ·cases k2:(x.kind==2)
    ·cases k3:(x.kind==3)
     ·exact h
     ·exact⟨h.h,h.g.1.KW _ _,h.g.2.KW p2 _⟩
    ·exact⟨⟨h.h.1.KW _ _,h.h.2.KW p2 _⟩,h.g⟩
   ·exact⟨⟨h.h.1.KW _ _,h.h.2.KW (p1 (by simpa using k1)) _⟩,h.g⟩
theorem ZoU {a n:Int} (l:List Zd):∀ s:UM×UM×List (ZV×Bool),(YV s.2.2 ⟨a,n⟩=some true∨∃ x ∈ l,x.kind=3∧x.Zv=a∧x.name=n) ->YV (UO l s).2.2 ⟨a,n⟩=some true:=by
 induction l with
 | nil=>
   rintro s (h | ⟨x,hx,_⟩)
   ·exact h
   ·simp at hx
 | cons x l ih=>
   intro s h;refine ih (K5 x s) ?_
   have keep:YV s.2.2 ⟨a,n⟩=some true ->YV (K5 x s).2.2 ⟨a,n⟩=some true:=by
    intro h;unfold K5;cases k1:(x.kind==1) <;> cases k2:(x.kind==2) <;> cases k3:(x.kind==3) <;> simp only [Cq1,Cq0] <;> first | exact h | skip
    rw [WM];split <;> first | rfl | exact h
   rcases h with h | ⟨y,hy,h3,h4,h5⟩
   ·exact .inl (keep h)
   ·rcases List.mem_cons.1 hy with rfl | hy
    ·left;unfold K5;rw [show(y.kind==1)=false by simp [h3],Cq0,show(y.kind==2)=false by simp [h3],Cq0,show(y.kind==3)=true by simp [h3],Cq1];dsimp only;rw [WM,h4,h5,if_pos rfl]
    ·exact .inr ⟨y,hy,h3,h4,h5⟩
def ZcT (m:Int) (c:Zb) (s:UM×UM):UM×UM:= (bif decide (c.from_ >=0) then KW s.1 ⟨c.from_,c.name⟩ c.has else s.1,KW s.2 ⟨m,c.name⟩ c.out)
theorem ZsG (m:Int) (c:Zb) (s:UM×UM) {a n t1 t2:Int} (ha:0 <=a) (h1:JB s.1 ⟨a,n⟩=ZF t1) (h2:JB s.2 ⟨a,n⟩=ZF t2):
 JB (ZcT m c s).1 ⟨a,n⟩=ZF (t1 + if c.name=n then JW a (some c) else 0)∧JB (ZcT m c s).2 ⟨a,n⟩=ZF (t2 + if c.name=n then(if m=a then c.out else 0) else 0):=by
 unfold ZcT JW;refine⟨?_,(up1 h2 _ _ _).trans ?_⟩
 ·cases hf:decide (c.from_ >=0)
  ·rw [Cq0,h1];have:¬ c.from_=a:=by have:=of_decide_eq_false hf;omega
   dsimp only;rw [if_neg this];split <;> simp
  ·rw [Cq1];refine(up1 h1 _ _ _).trans ?_;congr 2;by_cases z1:c.from_=a <;> by_cases z2:c.name=n <;> simp [z1,z2]
 ·congr 2;by_cases z1:m=a <;> by_cases z2:c.name=n <;> simp [z1,z2]
def ZaG (m:Int) (row:List Zb) (s:UM×UM):UM×UM:=row.foldl (fun s c=>ZcT m c s) s
theorem Zss {row:List Zb} {n:Int} (h:∀ c ∈ row,c.name ≠ n):row.find? (fun c=>c.name==n)=none:=List.find?_eq_none.2 fun c hc=>by simpa using h c hc
theorem ZrN (m:Int) (row:List Zb):∀ (s:UM×UM) {a n t1 t2:Int},U7 row ->0 <=a ->JB s.1 ⟨a,n⟩=ZF t1 ->JB s.2 ⟨a,n⟩=ZF t2 ->
 JB (ZaG m row s).1 ⟨a,n⟩=ZF (t1 + JW a (row.find? fun c=>c.name==n))∧JB (ZaG m row s).2 ⟨a,n⟩=ZF (t2 + if m=a then XP (row.find? fun c=>c.name==n) else 0):=by
 induction row with
 | nil=>intro s a n t1 t2 _ _ h1 h2;simpa [ZaG,JW,XP] using ⟨h1,h2⟩
 | cons c row ih=>
   intro s a n t1 t2 hs ha h1 h2;obtain⟨q1,q2⟩:=ZsG m c s ha h1 h2;have hs':=List.pairwise_cons.1 hs;obtain⟨r1,r2⟩:=ih (ZcT m c s) hs'.2 ha q1 q2;by_cases hn:c.name=n
   ·have e:(c::row).find? (fun c=>c.name==n)=some c:=by rw [List.find?_cons];simp [hn]
    have e0:row.find? (fun c=>c.name==n)=none:=Zss fun c' hc'=>by have:=hs'.1 c' hc';omega
    rw [e0] at r1 r2;rw [e];refine⟨r1.trans ?_,r2.trans ?_⟩
    ·rw [if_pos hn];simp [JW]
    ·rw [if_pos hn];by_cases z:m=a <;> simp [z,XP]
   ·have e:(c::row).find? (fun c=>c.name==n)=row.find? (fun c=>c.name==n):=List.find?_cons_of_neg (by simp [hn]);rw [e];refine⟨r1.trans ?_,r2.trans ?_⟩
    ·rw [if_neg hn];simp
    ·rw [if_neg hn];simp
variable {w:Za}
def Zbq (w:Za) (M:Nat) (s:UM×UM):UM×UM:= (List.range M).foldl (fun s (m:Nat)=>ZaG (m:Int) (rowOf w m) s) s
theorem Zjb (w:Za) (M:Nat) (s:UM×UM):Zbq w (M + 1) s=ZaG M (rowOf w M) (Zbq w M s):=by
 unfold Zbq;rw [List.range_succ,List.foldl_append];rfl
theorem ZsL (R:Rt w) {s:UM×UM} {a n t1 t2:Int} (ha:0 <=a) (h1:JB s.1 ⟨a,n⟩=ZF t1) (h2:JB s.2 ⟨a,n⟩=ZF t2):∀ M,M <=w.cells.length ->
 JB (Zbq w M s).1 ⟨a,n⟩=ZF (t1 + U3 (fun k=>JW a (YW w n k)) M)∧JB (Zbq w M s).2 ⟨a,n⟩=ZF (t2 + if a < (M:Int) then XP (YW w n a) else 0):=by
 intro M
 induction M with
 | zero=>
   intro _;rw [if_neg (by omega)]
   simpa [Zbq,U3] using ⟨h1,h2⟩
 | succ M ih=>
   intro hM;obtain⟨q1,q2⟩:=ih (by omega);rw [Zjb];obtain⟨r1,r2⟩:=ZrN (M:Int) (rowOf w M) (Zbq w M s) (R.Yx M (by omega)) ha q1 q2;have e:YW w n (M:Int)= (rowOf w M).find? fun c=>c.name==n:=Jb (by omega) n
   refine⟨r1.trans ?_,r2.trans ?_⟩
   ·simp only [U3];rw [e];congr 1;omega
   ·congr 1;by_cases z:(M:Int)=a
    ·subst z;rw [if_neg (by omega),if_pos rfl,if_pos (by omega),e];omega
    ·rw [if_neg z];by_cases z2:a < (M:Int)
     ·rw [if_pos z2,if_pos (by omega)];omega
     ·rw [if_neg z2,if_neg (by omega)];omega
theorem ZoM {P:ZV ->Prop} (m:Int) (row:List Zb) (hr:∀ c ∈ row,(0 <=c.from_ ->P ⟨c.from_,c.name⟩)∧P ⟨m,c.name⟩):∀ s:UM×UM,(UK s.1∧Ks P s.1) ->(UK s.2∧Ks P s.2) ->(UK (ZaG m row s).1∧Ks P (ZaG m row s).1)∧(UK (ZaG m row s).2∧Ks P (ZaG m row s).2):=by
 induction row with
 | nil=>intro s h1 h2;exact⟨h1,h2⟩
 | cons c row ih=>
   intro s h1 h2;obtain⟨p1,p2⟩:=hr c (by simp);refine ih (fun y hy=>hr y (List.mem_cons_of_mem _ hy)) (ZcT m c s) ?_ ⟨h2.1.KW _ _,h2.2.KW p2 _⟩;unfold ZcT;cases hf:decide (c.from_ >=0)
   ·exact h1
   ·exact⟨h1.1.KW _ _,h1.2.KW (p1 (of_decide_eq_true hf)) _⟩
theorem ZpU {P:ZV ->Prop} (hr:∀ m,m < w.cells.length ->∀ c ∈ rowOf w m,(0 <=c.from_ ->P ⟨c.from_,c.name⟩)∧P ⟨(m:Int),c.name⟩) {s:UM×UM} (h1:UK s.1∧Ks P s.1) (h2:UK s.2∧Ks P s.2):∀ M,M <=w.cells.length ->
 (UK (Zbq w M s).1∧Ks P (Zbq w M s).1)∧(UK (Zbq w M s).2∧Ks P (Zbq w M s).2):=by
 intro M
 induction M with
 | zero=>intro _;exact⟨h1,h2⟩
 | succ M ih=>
   intro hM;obtain⟨q1,q2⟩:=ih (by omega);rw [Zjb];exact ZoM (M:Int) (rowOf w M) (hr M (by omega)) _ q1 q2
end Go.Proofs.Ytekpjgmhkkjhgaa
end
section
namespace Go.Proofs.Ytekpjgmhkkjhgaa
open Go.Lf
section
variable {F:Nat} {w:Za}
def Rm (w:Za) (m:Nat):Nat ->List ZY
 | 0=>[]
 | n + 1=>Rm w m n ++ (bif(Ya w m n !=0) || (Xv w m n !=0) then [⟨m,n,Ya w m n,Xv w m n⟩] else [])
def SSm (w:Za) (N:Nat):Nat ->List ZY
 | 0=>[]
 | m + 1=>SSm w N m ++ Rm w m N
theorem Zut (w:Za) (m:Nat) (N:Nat) (s:List ZY):(List.range N).foldl (fun s n=>Zj2 w m n s) s=s ++ Rm w m N:=by
 induction N with
 | zero=>simp [Rm]
 | succ N ih=>
   rw [List.range_succ,List.foldl_append,ih];simp only [List.foldl_cons,List.foldl_nil,Rm,Zj2];cases (Ya w m N !=0) || (Xv w m N !=0) <;> simp
theorem Zck (w:Za):UF w=SSm w w.names.toNat w.cells.length:=by
 unfold UF
 have:∀ M,(List.range M).foldl (fun s m=>(List.range w.names.toNat).foldl (fun s n=>Zj2 w m n s) s) []=SSm w w.names.toNat M:=by
  intro M
  induction M with
  | zero=>rfl
  | succ M ih=>
    rw [List.range_succ,List.foldl_append,ih];simp only [List.foldl_cons,List.foldl_nil,SSm];exact Zut w M _ _
 exact this _
theorem ZoX {m N:Nat} {x:ZY}:x ∈ Rm w m N↔∃ n:Nat,n < N∧x= ⟨m,n,Ya w m n,Xv w m n⟩∧(Ya w m n ≠ 0∨Xv w m n ≠ 0):=by
 induction N with
 | zero=>simp [Rm]
 | succ N ih=>
   simp only [Rm,List.mem_append,ih]
   constructor
   ·rintro(⟨n,h1,h2⟩ | h)
    ·exact⟨n,by omega,h2⟩
    ·cases hc:(Ya w m N !=0) || (Xv w m N !=0)
     ·rw [hc] at h;simp at h
     ·rw [hc] at h;simp only [Cq1,List.mem_singleton] at h;exact⟨N,by omega,h,by simpa using hc⟩
   ·rintro⟨n,h1,h2,h3⟩;by_cases hn:n=N
    ·subst hn;right;have:((Ya w m n !=0) || (Xv w m n !=0))=true:=by simpa using h3
     rw [this,Cq1,h2];simp
    ·exact .inl ⟨n,by omega,h2,h3⟩
theorem Zhv {M N:Nat} {x:ZY}:x ∈ SSm w N M↔∃ m n:Nat,m < M∧n < N∧x= ⟨m,n,Ya w m n,Xv w m n⟩∧(Ya w m n ≠ 0∨Xv w m n ≠ 0):=by
 induction M with
 | zero=>simp [SSm]
 | succ M ih=>
   simp only [SSm,List.mem_append,ih,ZoX]
   constructor
   ·rintro(⟨m,n,h1,h2⟩ | ⟨n,h1,h2⟩)
    ·exact⟨m,n,by omega,h2⟩
    ·exact⟨M,n,by omega,h1,h2⟩
   ·rintro⟨m,n,h1,h2⟩;by_cases hm:m=M
    ·subst hm;exact .inr ⟨n,h2⟩
    ·exact .inl ⟨m,n,by omega,h2⟩
def Zxy (a b:ZY):Prop:=a.at_ < b.at_∨(a.at_=b.at_∧a.name < b.name)
theorem ZDw (w:Za) (m N:Nat):(Rm w m N).Pairwise Zxy:=by
 induction N with
 | zero=>simp [Rm]
 | succ N ih=>
   simp only [Rm];refine List.pairwise_append.2 ⟨ih,by cases (Ya w m N !=0) || (Xv w m N !=0) <;> simp,fun a ha b hb=>?_⟩;obtain⟨n,h1,h2,_⟩:=ZoX.1 ha;cases hc:(Ya w m N !=0) || (Xv w m N !=0)
   ·rw [hc] at hb;simp at hb
   ·rw [hc] at hb;simp only [Cq1,List.mem_singleton] at hb;subst hb h2;exact .inr ⟨rfl,by dsimp only;omega⟩
theorem Zwy (w:Za) (N M:Nat):(SSm w N M).Pairwise Zxy:=by
 induction M with
 | zero=>simp [SSm]
 | succ M ih=>
   simp only [SSm];refine List.pairwise_append.2 ⟨ih,ZDw w M N,fun a ha b hb=>?_⟩;obtain⟨m,n,h1,_,h2,_⟩:=Zhv.1 ha;obtain⟨n',_,h3,_⟩:=ZoX.1 hb;subst h2 h3;exact .inl (by dsimp only;omega)
theorem ZmD (R:Rt w) {m:Nat} (hm:m < w.cells.length) (n:Int):Ya w m n=Xv w m n:=by
 rw [Zaj w hm,ZfR];cases hn:Yn w n
 ·have hc:∀ a,YW w n a=none:=by
   intro a;cases e:YW w n a with
   | none=>rfl
   | some c=>
     obtain⟨⟨h0,h1⟩,h2⟩:=X6 e;have h3:= (R.cn a.toNat (by omega) c (List.mem_of_find?_eq_some h2)).1;have h4:=Qc h2;rw [h4,hn] at h3;cases h3
  have hx:QB w n= []:=by
   unfold QB;refine List.filter_eq_nil_iff.2 fun x hx z=>?_
   have h3:=R.nn x hx;rw [show x.name=n by simpa using z,hn] at h3;cases h3
  unfold JX QE;rw [hx,hc];have:U3 (fun k=>JW (m:Int) (YW w n (k:Nat))) w.cells.length=U3 (fun _=>0) w.cells.length:=ZhX fun k _=>by rw [hc];rfl
  rw [this]
  have z:∀ M,U3 (fun _=>0) M=0:=fun M=>by induction M with
   | zero=>rfl
   | succ M ih=>simp only [U3,ih];rfl
  rw [z];rfl
 ·obtain⟨h,N,_⟩:=R.nm n hn;rw [N.acc m (by omega) (by omega)]
theorem Zpg (R:Rt w) {m:Nat} (hm:m < w.cells.length) {c:Zb} (hc:c ∈ rowOf w m) (hb:c.out < 0∨(c.from_ < 0∧c.root=false)):∃ x ∈ w.notes,x.kind=3∧x.Zv= (m:Int)∧x.name=c.name:=by
 have hn:= (R.cn m hm c hc).1;have hv:=R.Zdq hm hc;obtain⟨h,N,_⟩:=R.nm c.name hn
 have pick:∀ x ∈ QB w c.name,x ∈ w.notes∧x.name=c.name:=fun x hx=>by
  unfold QB at hx;obtain⟨h1,h2⟩:=List.mem_filter.1 hx;exact⟨h1,by simpa using h2⟩
 rcases hb with hb | ⟨hf,hr⟩
 ·have ha:=N.acc m (by omega) (by omega)
  have hh:0 <=QE w.cells.length (YW w c.name) (QB w c.name) m:=by
   unfold QE
   have h1:0 <=U3 (fun k=>JW (m:Int) (YW w c.name (k:Nat))) w.cells.length:=ZaB fun k hk=>by
    unfold JW;cases e:YW w c.name (k:Nat) with
    | none=>exact Int.le_refl _
    | some c'=>
      dsimp only;have:=N.cel _ _ e;split <;> rcases this with⟨_,_,_,_,q⟩ | ⟨_,q⟩ <;> omega
   have h2:0 <=YD (Ju (m:Int)) (QB w c.name):=Kc fun x hx=>by
    unfold Ju;have:= (N.nts x hx).2.2.1;split <;> omega
   omega
  rw [← ha] at hh;unfold JX at hh;rw [hv] at hh;simp only [XP] at hh;have hs:0 < YD (Yu (m:Int)) (QB w c.name):=by omega
  have:∃ x ∈ QB w c.name,Yu (m:Int) x ≠ 0:=by
   refine Classical.byContradiction fun z=>?_
   have z':∀ x ∈ QB w c.name,Yu (m:Int) x=0:=fun x hx=>Classical.byContradiction fun q=>z ⟨x,hx,q⟩
   have:∀ l:List Zd,(∀ x ∈ l,Yu (m:Int) x=0) ->YD (Yu (m:Int)) l=0:=fun l=>by
    induction l with
    | nil=>intro _;rfl
    | cons y l ih=>intro h;simp only [YD,h y (by simp),ih fun x hx=>h x (List.mem_cons_of_mem _ hx)];rfl
   rw [this _ z'] at hs;omega
  obtain⟨x,hx,hg⟩:=this;unfold Yu at hg;by_cases z:x.kind=3∧x.Zv= (m:Int)
  ·exact⟨x,(pick x hx).1,z.1,z.2,(pick x hx).2⟩
  ·rw [if_neg z] at hg;exact absurd rfl hg
 ·obtain⟨dep,hd⟩:=N.lead
  have hmh:(m:Int)=h:=by
   refine Classical.byContradiction fun z=>?_
   have:= (hd m c hv z).1;omega
  have h1:=N.one;rw [← hmh,hv] at h1;simp only [Ue,hr] at h1
  have:∃ x ∈ QB w c.name,x.kind=3:=by
   refine Classical.byContradiction fun z=>?_
   rw [ZsI fun x hx q=>z ⟨x,hx,q⟩] at h1;simp at h1
  obtain⟨x,hx,hk⟩:=this;have h2:= (N.nts x hx).2.2.2;have:x.Zv=h:=by rcases h2 with⟨q,_⟩ | ⟨q,_⟩ | ⟨_,_,_,q⟩ <;> first | omega | exact q
  exact⟨x,(pick x hx).1,hk,this.trans hmh.symm,(pick x hx).2⟩
theorem Zik {κ ν:Type} {b:κ ->ν ->Option (Option Bool)} {c:κ×ν ->Bool}:∀ {l:List (κ×ν)},(∀ x ∈ l,b x.1 x.2=some (some (c x))) ->ZfM b l=some (some (l.countP c))
 | [],_=>rfl
 | x::l,h=>by
   unfold ZfM;rw [h x (by simp),Bq0,Zik fun y hy=>h y (List.mem_cons_of_mem _ hy),Bq0,List.countP_cons];cases c x <;> simp
theorem Zo3 {k:Nat} (h:k < 1000000):Zca (fun a=>ZF (a + 1)) k 0= (k:Int):=by
 induction k with
 | zero=>rfl
 | succ k ih=>unfold Zca;rw [ih (by omega),Xk (by omega)]
theorem ZqG {home:List (ZV×Bool)} {a j:Int} {G H:UM} {next:Int×UM×UM ->Option Bool} {c:Zb} {x:Int} (hc:c.out < 0∨(c.from_ < 0∧c.root=false) ->YV home ⟨a,c.name⟩=some true):
 Zgg home a j G next c x H=next (ZF (j + 1),H,YL (JS G ⟨a,c.name⟩ 0) ⟨a,c.name⟩ (ZF (x + c.out))):=by
 unfold Zgg QG;cases hb:(decide (c.out < 0)) || ((decide (c.from_ < 0)) && (!c.root))
 ·rfl
 ·rw [hc (by simpa using hb)];rfl
theorem ZtP (hF:1000 <=F) {home:List (ZV×Bool)} {k:Nat} {row:List Zb} (hr:row.length < 1000) (hh:∀ c ∈ row,c.out < 0∨(c.from_ < 0∧c.root=false) ->YV home ⟨(k:Int),c.name⟩=some true) (next:Int×UM×UM ->Option Bool) (s:UM×UM):
 loop F (Zgh home (k:Int) next row) (0,s.1,s.2)=next (ZF ((k:Int) + 1),(ZaG k row s).1,(ZaG k row s).2):=by
 refine(Y1 row (fun v (s:UM×UM)=>(v,s.1,s.2)) (Zgh home (k:Int) next row) (fun _ c s nx=>nx (ZcT k c s)) (fun s=>next (ZF ((k:Int) + 1),s.1,s.2)) (by omega) (fun j c s nx hy hj=>?_) (fun s nx=>?_) (by omega) s).trans ?_
 ·simp only [Zgh];rw [decide_eq_true hj,Cq1,Z0,hy,Bq0];have hcc:=hh c (List.mem_of_getElem? hy);unfold QG;rw [Bq0];unfold ZcT;cases hf:decide (c.from_ >=0)
  ·rw [Cq0,ZqG hcc];rfl
  ·rw [Cq1,Bq0,ZqG hcc];rfl
 ·simp only [Zgh];rw [decide_eq_false (by omega),Cq0]
 ·rw [(Qo (fun _ c s=>ZcT k c s) (fun _ _=>True) trivial (fun _ _ _ _ _ _=>⟨rfl,trivial⟩)).1,Qv (fun c s=>ZcT k c s)];rfl
theorem ZoQ (hF:1000 <=F) {x1:Za×Model×Bool} {x2:List ZY×Int} (hl:x1.1.notes.length < 1000):
 loop F (Zgi F x1 x2) (0,[],[],[])=loop F (ZcM F x1 x2 (UO x1.1.notes ([],[],[])).2.2) (0,(UO x1.1.notes ([],[],[])).1,(UO x1.1.notes ([],[],[])).2.1):=by
 refine(Y1 x1.1.notes (fun v (s:UM×UM×List (ZV×Bool))=>(v,s.1,s.2.1,s.2.2)) (Zgi F x1 x2) (fun _ x s nx=>nx (K5 x s)) (fun s=>loop F (ZcM F x1 x2 s.2.2) (0,s.1,s.2.1)) (by omega) (fun j x s nx hy hj=>?_) (fun s nx=>?_) (by omega) ([],[],[])).trans ?_
 ·simp only [Zgi];rw [decide_eq_true hj,Cq1,Z0,hy,Bq0];unfold K5 Zel QG;cases k1:(x.kind==1)
  ·cases k2:(x.kind==2)
   ·cases k3:(x.kind==3) <;> rfl
   ·rfl
  ·rfl
 ·simp only [Zgi];rw [decide_eq_false (by omega),Cq0]
 ·rw [(Qo (fun _ x s=>K5 x s) (fun _ _=>True) trivial (fun _ _ _ _ _ _=>⟨rfl,trivial⟩)).1,Qv K5];rfl
def ZdK (w:Za):UM:= (Zbq w w.cells.length ((UO w.notes ([],[],[])).1,(UO w.notes ([],[],[])).2.1)).1
def ZdB (w:Za):UM:= (Zbq w w.cells.length ((UO w.notes ([],[],[])).1,(UO w.notes ([],[],[])).2.1)).2
theorem Zil (R:Rt w) {m:Nat} (hm:m < w.cells.length) (n:Int):JB (ZdK w) ⟨(m:Int),n⟩=Xv w m n∧JB (ZdB w) ⟨(m:Int),n⟩=Ya w m n:=by
 have z:JB ([]:UM) ⟨(m:Int),n⟩=ZF 0:=ZmR.symm;obtain⟨q1,q2⟩:=ZrX w.notes ([],[],[]) (a:= (m:Int)) (n:=n) z z;obtain⟨r1,r2⟩:=ZsL R (s:= ((UO w.notes ([],[],[])).1,(UO w.notes ([],[],[])).2.1)) (a:= (m:Int)) (n:=n) (by omega) q1 q2 w.cells.length (Nat.le_refl _);rw [Zaj w hm,ZfR];refine⟨r1.trans ?_,r2.trans ?_⟩
 ·unfold QE QB;congr 1;omega
 ·unfold JX QB;rw [if_pos (by omega)];congr 1;omega
def InR (w:Za) (k:ZV):Prop:= (0 <=k.at_∧k.at_ < (w.cells.length:Int))∧0 <=k.name∧k.name < w.names
theorem Zkn {n:Int} (h:Yn w n=true):0 <=n∧n < w.names:=by
 unfold Yn at h;simp only [Ba0,decide_eq_true_eq] at h;exact h.1
theorem Zt5 (R:Rt w) {x:Zd} (hx:x ∈ w.notes):(x.kind=1 ->InR w ⟨x.via,x.name⟩)∧InR w ⟨x.Zv,x.name⟩:=by
 have h:=R.Wj hx;unfold Wj K9 at h;simp only [Ba0,decide_eq_true_eq] at h;have hn:=Zkn h.1.1.2;refine⟨fun k=>?_,⟨h.1.1.1,hn⟩⟩;have h2:=h.2;rw [show(x.kind==1)=true by simp [k],Cq1] at h2;simp only [Ba0,decide_eq_true_eq] at h2;exact⟨h2,hn⟩
theorem ZvZ (R:Rt w) (m:Nat) (hm:m < w.cells.length) (c:Zb) (hc:c ∈ rowOf w m):(0 <=c.from_ ->InR w ⟨c.from_,c.name⟩)∧InR w ⟨(m:Int),c.name⟩:=by
 obtain⟨h1,_,_,h4⟩:=KR (R.Wx hm hc);have hn:=Zkn h1;refine⟨fun k=>⟨?_,hn⟩,⟨by show 0 <= (m:Int);omega,by show(m:Int) < _;omega⟩,hn⟩;rcases h4 with⟨_,a,b,_⟩ | ⟨a,_⟩
 ·exact⟨a,b⟩
 ·omega
theorem ZfN (R:Rt w):(UK (ZdK w)∧Ks (InR w) (ZdK w))∧(UK (ZdB w)∧Ks (InR w) (ZdB w)):=by
 have z:∀ {ν:Type},Ks (ν:=ν) (InR w) []:=fun k h=>absurd rfl h
 have N:=ZoT (P:=InR w) w.notes (fun x hx=>Zt5 R hx) ([],[],[]) ⟨⟨UK.nil,z⟩,⟨UK.nil,z⟩⟩;exact ZpU (P:=InR w) (fun m hm c hc=>ZvZ R m hm c hc) N.h N.g w.cells.length (Nat.le_refl _)
theorem Zlq (R:Rt w) {k:ZV} (hk:InR w k):∃ m n:Nat,(m < w.cells.length∧n < w.names.toNat)∧k= ⟨(m:Int),(n:Int)⟩∧JB (ZdK w) k=Ya w m n∧JB (ZdB w) k=Ya w m n:=by
 obtain⟨⟨h0,h1⟩,h2,h3⟩:=hk;obtain⟨a,b⟩:=k;simp only at h0 h1 h2 h3;have ea:((a.toNat:Nat):Int)=a:=by omega
 have eb:((b.toNat:Nat):Int)=b:=by omega
 have hm:a.toNat < w.cells.length:=by omega
 obtain⟨q1,q2⟩:=Zil R hm b;rw [← ZmD R hm] at q1;rw [ea] at q1 q2;exact⟨a.toNat,b.toNat,⟨hm,by omega⟩,by rw [ea,eb],by rw [eb];exact q1,by rw [eb];exact q2⟩
theorem Zgl {v:UM} (u:UK v) {k:ZV} {x:Int} (h:(k,x) ∈ v):YV v k ≠ none∧JB v k=x:=by
 have:=u.get h;unfold JB;rw [this];exact⟨(fun z=>by cases z),rfl⟩
theorem Zpp (R:Rt w):ZfM (Zgf (ZdK w)) (ZdB w)=some (some ((ZdB w).countP fun x=>x.2 !=0)):=by
 obtain⟨⟨u1,k1⟩,u2,k2⟩:=ZfN R;refine Zik fun x hx=>?_
 obtain⟨k,v⟩:=x;obtain⟨h1,h2⟩:=Zgl u2 hx;obtain⟨m,n,_,_,e1,e2⟩:=Zlq R (k2 k h1);unfold Zgf QG;rw [Bq0,show(YV (ZdK w) k).getD 0=v from(e1.trans e2.symm).trans h2,show(v !=v)=false by simp,Cq0];cases (v !=0) <;> rfl
theorem Zsc (R:Rt w):ZfM (Zge (ZdB w)) (ZdK w)=some (some ((ZdK w).countP fun _=>false)):=by
 obtain⟨⟨u1,k1⟩,u2,k2⟩:=ZfN R;refine Zik fun x hx=>?_
 obtain⟨k,v⟩:=x;obtain⟨h1,h2⟩:=Zgl u1 hx;obtain⟨m,n,_,_,e1,e2⟩:=Zlq R (k1 k h1);unfold Zge QG;rw [Bq0,show(YV (ZdB w) k).getD 0=v from(e2.trans e1.symm).trans h2,show(v !=v)=false by simp,Cq0]
theorem ZoD (R:Rt w):((ZdB w).countP fun x=>x.2 !=0)= (UF w).length:=by
 obtain⟨_,u2,k2⟩:=ZfN R;rw [List.countP_eq_length_filter,← List.length_map (f:=fun x:ZV×Int=>x.1),← @List.length_map _ _ (UF w) (fun s:ZY=>(⟨s.at_,s.name⟩:ZV))];refine List.Perm.length_eq ((List.perm_ext_iff_of_nodup ?_ ?_).2 fun k=>?_)
 ·exact List.Nodup.sublist (List.Sublist.map _ List.filter_sublist) u2
 ·rw [Zck];refine List.pairwise_map.2 ((Zwy w _ _).imp fun h z=>?_);injection z with z1 z2
  rcases h with h | ⟨_,h⟩ <;> omega
 ·rw [List.mem_map,List.mem_map]
  constructor
  ·rintro⟨⟨k',v⟩,h1,rfl⟩;obtain⟨h1,h2⟩:=List.mem_filter.1 h1;obtain⟨q1,q2⟩:=Zgl u2 h1;obtain⟨m,n,⟨hm,hn⟩,e0,e1,e2⟩:=Zlq R (k2 k' q1);refine⟨⟨m,n,Ya w m n,Xv w m n⟩,?_,e0.symm⟩;rw [Zck];refine Zhv.2 ⟨m,n,hm,hn,rfl,.inl ?_⟩;rw [← e2,q2];simpa using h2
  ·rintro⟨s,h1,rfl⟩;rw [Zck] at h1;obtain⟨m,n,hm,hn,rfl,h2⟩:=Zhv.1 h1
   have hg:Ya w m n ≠ 0:=by
    rcases h2 with h2 | h2
    ·exact h2
    ·rwa [ZmD R hm]
   have hv:= (Zil R hm (n:Int)).2;refine⟨(⟨m,n⟩,Ya w m n),List.mem_filter.2 ⟨?_,by simpa using hg⟩,rfl⟩;unfold JB at hv;cases e:YV (ZdB w) ⟨(m:Int),(n:Int)⟩ with
   | none=>rw [e] at hv;exact absurd hv.symm hg
   | some v=>rw [e] at hv;rw [← show v=Ya w m n from hv];exact Znc e
theorem ZrG (hF:1000 <=F) (R:Rt w):loop F (Zem (UF w,0) (ZdB w) (UF w).length) 0=some true:=by
 have hlen:=ZrH R.shp;have hlex:(UF w).Pairwise Zxy:=by rw [Zck];exact Zwy w _ _
 refine KJ (l:=UF w) (by omega) hF _ (fun k y next hy=>?_) (fun next=>?_)
 ·have hk:= (Li0 hy).1;have hin:=List.mem_of_getElem? hy;rw [Zck] at hin;obtain⟨m,n,hm,hn,rfl,h2⟩:=Zhv.1 hin
  have hg:Ya w m n ≠ 0:=by
   rcases h2 with h2 | h2
   ·exact h2
   ·rwa [ZmD R hm]
  simp only [Zem];rw [decide_eq_true (by omega),Cq1,Z0,hy,Bq0];dsimp only;have e1:(Ya w m n !=Xv w m n)=false:=by rw [ZmD R hm];simp
  have hv:(YV (ZdB w) ⟨(m:Int),(n:Int)⟩).getD 0=Ya w m n:= (Zil R hm (n:Int)).2;unfold QG;rw [e1,hv];simp only [Bool.not_false,KH,Bq0,Bool.false_or,bne_self_eq_false];rw [show(Ya w m n==0)=false by simpa using hg];simp only [Bool.not_false,Bool.true_and,Bool.false_or];cases k with
  | zero=>
    rw [decide_eq_false (by omega)];simp only [Bool.false_and,ZeS,Bq0,Cq0]
  | succ k=>
    rw [decide_eq_true (by omega:(((k + 1:Nat):Int) > 0))];have hk':k < (UF w).length:=by omega
    have hp:(UF w)[k]? =some (UF w)[k]:=List.getElem?_eq_getElem hk'
    have hlt:Zxy (UF w)[k] ⟨m,n,Ya w m n,Xv w m n⟩:=by
     have:=List.pairwise_iff_getElem.1 hlex k (k + 1) hk' hk (by omega)
     rwa [(Li0 hy).2] at this
    rw [ZhT (by omega) (by omega),show k + 1 - 1=k from rfl,Z0,hp];simp only [Bool.true_and,KH,Bq0];generalize (UF w)[k]=p at hlt;rcases hlt with h | ⟨h3,h4⟩
    ·dsimp only at h;rw [decide_eq_false (by omega:¬ ((m:Int) < p.at_))];simp only [Bool.not_false,KH,Bq0,Bool.false_or];rw [show((m:Int)==p.at_)=false by simp;omega];simp only [ZeS,Bq0,Bool.false_and,Cq0]
     rfl
    ·dsimp only at h3 h4;rw [decide_eq_false (by omega:¬ ((m:Int) < p.at_))];simp only [Bool.not_false,KH,Bq0,Bool.false_or];rw [show((m:Int)==p.at_)=true by simp;omega];simp only [KH,Bq0,Bool.true_and];rw [decide_eq_false (by omega:¬ ((n:Int) <=p.name)),Cq0]
 ·simp only [Zem];rw [decide_eq_false (by omega),Cq0,Zo3 (by omega)];simp [ZCW]
  rfl
theorem ZpV (hF:1000 <=F) (R:Rt w) {x1:Za×Model×Bool} (hx:x1.1=w):
 loop F (ZcM F x1 (UF w,0) (UO w.notes ([],[],[])).2.2) (0,(UO w.notes ([],[],[])).1,(UO w.notes ([],[],[])).2.1)=some true:=by
 have h6:=R.c6;have sm:=R.small
 refine(Zaa w.cells.length (fun v (s:UM×UM)=>(v,s.1,s.2)) (ZcM F x1 (UF w,0) (UO w.notes ([],[],[])).2.2) (fun k s nx=>nx (ZaG (k:Int) (rowOf w k) s))
  (fun s=>(ZfM (Zgf s.1) s.2).bind fun q=>Option.elim q (some false) fun k=>(ZfM (Zge s.2) s.1).bind fun q'=>Option.elim q' (some false) fun _=>loop F (Zem (UF w,0) s.2 k) 0)
  (by omega) (fun k s nx hk=>?_) (fun s nx=>?_) (by omega) ((UO w.notes ([],[],[])).1,(UO w.notes ([],[],[])).2.1)).trans ?_
 ·simp only [ZcM,hx];rw [decide_eq_true (by omega),Cq1,Z0,Qz hk,Bq0];exact ZtP hF (sm.row k) (fun c hc hb=>ZoU w.notes _ (.inr (Zpg R hk hc hb))) _ s
 ·simp only [ZcM,hx];rw [decide_eq_false (by omega),Cq0]
 ·rw [(Qo (fun _ (k:Nat) s=>ZaG (k:Int) (rowOf w k) s) (fun _ _=>True) trivial (fun _ _ _ _ _ _=>⟨rfl,trivial⟩)).1,Qv (fun(k:Nat) s=>ZaG (k:Int) (rowOf w k) s)];show(ZfM (Zgf (ZdK w)) (ZdB w)).bind _=_;rw [Zpp R,Bq0];show(ZfM (Zge (ZdB w)) (ZdK w)).bind _=_;rw [Zsc R,Bq0];show loop F (Zem (UF w,0) (ZdB w) ((ZdB w).countP fun x=>x.2 !=0)) 0=_;rw [ZoD R];exact ZrG hF R
theorem Zj4 (p:Int) (l:List Za8) (hp:0 <=p∧p <=255) (hl:∀ a ∈ l,U8 a):ZsA 1000 p l=some true:=by
 have hF:1000 <=1000:=Nat.le_refl _;obtain⟨w,m,e,L⟩:=Zuq hF hp.1 hp.2 hl;have R:=L.rt;unfold ZsA;rw [e,Bq0];simp only [Bool.not_true,Cq0];rw [ZrF hF R.small,R.right,Cq1,Bq0];rw [show(((UF w,(0:Int)):List ZY×Int).2 !=0)=false from rfl,Cq0,ZoQ hF R.small.notes];exact ZpV hF R rfl
end
end Go.Proofs.Ytekpjgmhkkjhgaa
end
