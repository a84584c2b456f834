/- Parts Part 13 of the proof. -/
import Derived.Test.YtekpjgmhkkjhgaaRa12
set_option linter.all false
section
namespace Go.Proofs.Ytekpjgmhkkjhgaa
open Go.Lf
def Zgc (w:Za) (d:Zm) (m:Nat) (c:Zb):Za:=
 bif decide (c.from_ >=0) && decide (c.has >=2) then sent (cw w m (put ⟨c.name,c.root,c.from_,ZV (c.has - ZV (c.has.tdiv 2)),c.out,c.use⟩ (rowOf w m))) ⟨1,d.ZG,d.name,c.from_,ZV (c.has.tdiv 2)⟩
 else sent (cw w m (put ⟨c.name,c.root,c.from_,c.has,ZV (c.out + 16),c.use⟩ (rowOf w m))) ⟨1,d.ZG,d.name,d.at_,16⟩
theorem ZGi (a:Int):Zp5 a 2=some (ZV (a.tdiv 2)):=rfl
theorem ZrD {w:Za} {st:Store} (s:X8 w st) (u:UK st.cells) {m:Nat} (hm:m < w.cells.length) (X9:KN (rowOf w m)) (hnl:w.notes.length < 1000) (d:Zm) (hat:d.at_= (m:Int)) {c:Zb} (hc:KL (rowOf w m) d.name=some c):
 ∃ st',Zmm st d=some st'∧X8 (Zgc w d m c) st'∧UK st'.cells:=by
 have hn:=J8 hc;unfold Zmm Zgc;rw [hat,Zeo s hm,UH hc,Option.bind_some];simp only [ZGi,Option.bind_some];cases (decide (c.from_ >=0) && decide (c.has >=2))
 ·simp only [cond_false];unfold ZcA;rw [hat];have h1:=s.put hm X9 (c:= ⟨c.name,c.root,c.from_,c.has,ZV (c.out + 16),c.use⟩) hn;obtain⟨st',q1,q2⟩:=h1.sent (by show w.notes.length < 1000;exact hnl) ⟨1,d.ZG,d.name,(m:Int),16⟩;refine⟨st',(congrArg (fun o=>Option.bind o fun x21=>some x21) q1).trans rfl,q2,?_⟩;unfold KZ at q1;dsimp only at q1;rw [s.notes,QD (by simp;omega) (by decide)] at q1;cases q1;exact u.YR _ _
 ·simp only [cond_true];unfold ZcA;rw [hat];have h1:=s.put hm X9 (c:= ⟨c.name,c.root,c.from_,ZV (c.has - ZV (c.has.tdiv 2)),c.out,c.use⟩) hn;obtain⟨st',q1,q2⟩:=h1.sent (by show w.notes.length < 1000;exact hnl) ⟨1,d.ZG,d.name,c.from_,ZV (c.has.tdiv 2)⟩;refine⟨st',(congrArg (fun o=>Option.bind o fun x21=>some x21) q1).trans rfl,q2,?_⟩;unfold KZ at q1;dsimp only at q1;rw [s.notes,QD (by simp;omega) (by decide)] at q1;cases q1;exact u.YR _ _
theorem Zdb {α:Type} {xs:List α} {a b:Nat} (h1:a <=b) (h2:b <=xs.length):slL xs (a:Int) (b:Int)=some ((xs.take b).drop a):=by
 unfold slL;rw [decide_eq_true (by omega),decide_eq_true (by omega),decide_eq_true (by omega)];simp
theorem ZrW {l:List Zd} {k:Nat} (hk:k < l.length) (hl:l.length < 1000):Zml l (k:Int) (ZV ((k:Int) + 1))=some (l.take k ++ l.drop (k + 1)):=by
 unfold Zml;have e0:slL l 0 (k:Int)=some ((l.take k).drop 0):=Zdb (a:=0) (Nat.zero_le k) (by omega);rw [QX (by omega),Zdb (by omega) (by omega),Option.bind_some,e0,Zdb (by omega) (Nat.le_refl _)];have:((k:Int)== ((k + 1:Nat):Int))=false:=by simp;omega
 rw [this,cond_false];simp only [Option.bind_some,List.drop_zero,List.take_length];rw [QD (by simp;omega) (by decide)]
 rfl
def ZjU (w:Za):Zb:= ⟨w.names,true,-1,0,0,true⟩
def Zgd (w:Za) (m:Nat):Za:= ⟨w.cells.set m (put (ZjU w) (rowOf w m)),w.notes,ZV (w.names + 1),w.freed⟩
theorem Zr9 {w:Za} {st:Store} (s:X8 w st) (u:UK st.cells) {m:Nat} (hm:m < w.cells.length) (X9:KN (rowOf w m)):X8 (Zgd w m) ⟨st.machines,ZV (st.names + 1),YR st.cells ⟨m,w.names⟩ (ZjU w),st.notes,st.freed⟩∧UK (YR st.cells (⟨m,w.names⟩:Ze) (ZjU w)):=by
 have h:=s.put hm X9 (c:=ZjU w) (n:=w.names) rfl;refine⟨⟨?_,by show ZV (st.names + 1)=ZV (w.names + 1);rw [s.n],s.notes,s.freed,?_⟩,u.YR _ _⟩
 ·show st.machines=_;rw [s.m];unfold Zgd;simp
 ·exact h.cells
def Zc4 (c:Zb):Zb:= ⟨c.name,c.root,c.from_,c.has,c.out,false⟩
def Zjp (w:Za) (m:Nat) (n:Int) (c:Zb):Za:=Jf (cw w m (put (Zc4 c) (rowOf w m))) m n (Zc4 c)
theorem ZqP {F:Nat} (hF:100 <=F) {w:Za} {st:Store} (s:X8 w st) (u:UK st.cells) {m:Nat} (hm:m < w.cells.length) (X9:KN (rowOf w m)) (hnl:w.notes.length < 1000) {n:Int} {c:Zb} (hc:KL (rowOf w m) n=some c) (hi:CI c) (ha:Asc w.freed) (hf:w.freed.length <=11):
 ∃ st',Zf1 F ⟨st.machines,st.names,YR st.cells ⟨m,n⟩ (Zc4 c),st.notes,st.freed⟩ m n=some st'∧X8 (Zjp w m n c) st'∧UK st'.cells:=by
 have hn:=J8 hc;have h1:=s.put hm X9 (c:=Zc4 c) (n:=n) hn;exact KP hF h1 (u.YR _ _) (by rw [Ym];exact hm) hnl (ZhA hm X9 (show(Zc4 c).name=n from hn)) hi ha hf
def goC (c:Zb) (ZG:Int):Zb:= ⟨c.name,false,ZG,16,c.out,c.use⟩
def goW (w:Za) (d:Zm) (m:Nat) (c:Zb):Za:=sent (cw w m (put (goC c d.ZG) (rowOf w m))) ⟨3,d.ZG,d.name,0,16⟩
theorem ZvK {w:Za} {st:Store} (s:X8 w st) (u:UK st.cells) {m:Nat} (hm:m < w.cells.length) (X9:KN (rowOf w m)) (hnl:w.notes.length < 1000) (d:Zm) {c:Zb} (hc:KL (rowOf w m) d.name=some c):
 ∃ st',KZ ⟨st.machines,st.names,YR st.cells ⟨m,d.name⟩ (goC c d.ZG),st.notes,st.freed⟩ ⟨3,d.ZG,d.name,0,16⟩=some st'∧X8 (goW w d m c) st'∧UK st'.cells:=by
 have hn:=J8 hc;have h1:=s.put hm X9 (c:=goC c d.ZG) (n:=d.name) hn;obtain⟨st',q1,q2⟩:=h1.sent (by show w.notes.length < 1000;exact hnl) ⟨3,d.ZG,d.name,0,16⟩;refine⟨st',q1,q2,?_⟩;unfold KZ at q1;dsimp only at q1;rw [s.notes,QD (by simp;omega) (by decide)] at q1;cases q1;exact u.YR _ _
def Qj (w:Za) (d:Zm) (m:Nat):Int:=
 bif d.Xa==1 then(bif decide (w.names >=12) then 3 else 0) else bif d.Xa==5 then(bif decide (d.at_ >= (w.notes.length:Int)) then 5 else 0) else
  match KL (rowOf w m) d.name with
  | none=>7
  | some c=>bif d.Xa==4 then(bif !c.root then 7 else 0) else(bif !c.use then 7 else 0)
theorem Zop {w:Za} {st:Store} (s:X8 w st) {m:Nat} (hm:m < w.cells.length) (d:Zm) (hat:d.Xa=1∨d.Xa=5∨d.at_= (m:Int)):Zmn st d=some (bif Qj w d m==0 then .ok () else .Jc (Qj w d m)):=by
 unfold Zmn Qj KS;rw [Option.bind_some,s.n,s.notes];cases h1:(d.Xa==1)
 ·cases h5:(d.Xa==5)
  ·have ha:d.at_= (m:Int):=by
    rcases hat with h | h | h
    ·rw [h] at h1;cases h1
    ·rw [h] at h5;cases h5
    ·exact h
   rw [ha,s.get hm];simp only [cond_false];cases hf:KL (rowOf w m) d.name with
   | none=>
     cases (d.Xa==4) <;> rfl
   | some c=>
     cases (d.Xa==4)
     ·cases hu:c.use <;> simp [hu]
     ·cases hr:c.root <;> simp [hr]
  ·simp only [cond_false,cond_true];cases decide (d.at_ >= (w.notes.length:Int)) <;> rfl
 ·simp only [cond_true];cases decide (w.names >=12) <;> rfl
theorem Zu3 {F:Nat} (hF:1000 <=F) {w:Za} (sm:Small w):∃ cs,ZhJ F w=some ⟨(w.cells.length:Int),w.names,cs,w.notes,w.freed⟩∧UK cs:=by
 have hc:=sm.cells;have hn:=sm.notes;have hf:=sm.freed;unfold ZhJ Zn6 Zn5;rw [QD (by simp only [List.length_nil];omega) (by decide),QD (by simp only [List.length_nil];omega) (by decide)];simp only [Option.bind_some,List.nil_append]
 have inner:∀ (m:Nat) (row:List Zb) (next:Int×(List (Ze×Zb)) ->Option Store) (l:List (Ze×Zb)),w.cells[m]? =some row ->UK l ->∃ l',UK l'∧loop F (Zae m next row) (0,l)=next (ZV ((m:Int) + 1),l'):=by
  intro m row next l hm hI;have hr:=sm.rows row (List.mem_of_getElem? hm)
  have e:=XR row (fun v s=>(v,s)) (Zae m next row) (fun _ c s nx=>nx (YR s (Ze.mk m c.name) c)) (fun s=>next (ZV ((m:Int) + 1),s)) (by omega) (fun k y s nx hy hk=>by
   simp only [Zae,Yt,hy,hk,decide_true,cond_true,Option.bind_some]) (fun s nx=>by simp only [Zae];rw [decide_eq_false (by omega),cond_false]) (by omega:row.length < F) l
  obtain⟨e2,hJ⟩:=U7 (d:=fun s=>next (ZV ((m:Int) + 1),s)) (g:=fun(_:Nat) (c:Zb) s nx=>nx (YR s (Ze.mk m c.name) c)) (fun _ c s=>YR s (Ze.mk m c.name) c) (fun _ s=>UK s) (l:=row) (i:=0) (s:=l) hI (fun k c s nx hk hJ=>⟨rfl,hJ.YR _ _⟩);exact⟨_,hJ,e.trans e2⟩
 have key:∀ (d m:Nat) (F':Nat) (l:List (Ze×Zb)),m + d=w.cells.length ->d < F' ->UK l ->∃ cs,loop F' (Zaf F w w.notes w.freed) ((m:Int),l)=some ⟨(w.cells.length:Int),w.names,cs,w.notes,w.freed⟩∧UK cs:=by
  intro d
  induction d with
  | zero=>
    intro m F' l hm hF' hI;obtain⟨F',rfl⟩:=Nat.exists_eq_succ_of_ne_zero (n:=F') (by omega);refine⟨l,?_,hI⟩;rw [YF];simp only [Zaf];rw [decide_eq_false (by omega),cond_false]
  | succ d ih=>
    intro m F' l hm hF' hI;obtain⟨F',rfl⟩:=Nat.exists_eq_succ_of_ne_zero (n:=F') (by omega);have hr:=Jl (w:=w) (m:=m) (by omega);obtain⟨l',q1,q2⟩:=inner m _ (loop F' (Zaf F w w.notes w.freed)) l hr hI;obtain⟨cs,q3,q4⟩:=ih (m + 1) F' l' (by omega) (by omega) q1;refine⟨cs,?_,q4⟩;rw [YF];simp only [Zaf];rw [decide_eq_true (by omega),cond_true,Yt,hr,Option.bind_some,q2,QX (by omega),q3]
 exact key w.cells.length 0 F [] (by omega) (by omega) UK.nil
def Xj (w:Za) (n:Int):CV:=fun a=>if 0 <=a∧a < (w.cells.length:Int) then cellOf w a.toNat n else none
def Uh (w:Za) (n:Int):List Zd:=w.notes.filter fun x=>x.name==n
def Mst (M:Nat) (cv:CV) (ns:List Zd):Prop:=∀ a:Int,0 <=a ->a < M ->Kt cv ns a <=1000000
structure Rt (w:Za):Prop where
 c1:1 <=w.cells.length
 c6:w.cells.length <=6
 n0:0 <=w.names
 n12:w.names <=12
 nts:w.notes.length <=80
 fr:w.freed.Pairwise (· < ·)
 frr:∀ x ∈ w.freed,0 <=x∧x < w.names
 X9:∀ m,m < w.cells.length ->KN (rowOf w m)
 cn:∀ m,m < w.cells.length ->∀ c ∈ rowOf w m,Yx w c.name=true∧(c.use=true∨c.out ≠ 0)
 nn:∀ x ∈ w.notes,Yx w x.name=true
 nm:∀ n,Yx w n=true ->∃ h,Nm w.cells.length n (Xj w n) (Uh w n) h∧Mst w.cells.length (Xj w n) (Uh w n)
section
variable {w:Za} {n:Int}
theorem UJ {m:Nat} (hm:m < w.cells.length) (n:Int):Xj w n (m:Int)=cellOf w m n:=by
 unfold Xj;rw [if_pos (by omega)]
 rfl
theorem QB {a:Int} {c:Zb} (h:Xj w n a=some c):(0 <=a∧a < (w.cells.length:Int))∧cellOf w a.toNat n=some c:=by
 unfold Xj at h;split at h
 ·rename_i z;exact⟨z,h⟩
 ·cases h
theorem Zc9 (w:Za) (m n:Int):YN (XY m) (Uh w n)=16 * (ZbQ w m n:Int):=by
 unfold Uh ZbQ
 induction w.notes with
 | nil=>rfl
 | cons x l ih=>
   rw [List.countP_cons,List.filter_cons];by_cases hn:x.name=n
   ·have:(x.name==n)=true:=by simp [hn]
    rw [this,if_pos rfl];simp only [YN,ih,Bool.and_true];unfold XY;by_cases z:x.kind=3∧x.ZG=m
    ·rw [if_pos z,if_pos (by simp [z.1,z.2])];omega
    ·rw [if_neg z,if_neg (by simpa using z)];omega
   ·have:(x.name==n)=false:=by simp [hn]
    rw [this,if_neg (by simp),ih];simp
theorem Zhy (w:Za) {m:Nat} (hm:m < w.cells.length) (n:Int):JK w m n=ZV (Kt (Xj w n) (Uh w n) m):=by
 unfold JK Kt;rw [Zc9,UJ hm];unfold ZoU Qh;congr 1;cases cellOf w m n <;> dsimp only <;> omega
theorem ZnO (m n:Int) (l:List Zd) (t:Int):l.foldl (fun s x=>ZfW m n x s) (ZV t)=ZV (t + YN (UG m) (l.filter fun x=>x.name==n)):=by
 induction l generalizing t with
 | nil=>simp [YN]
 | cons x l ih=>
   rw [List.foldl_cons,List.filter_cons];by_cases hn:x.name=n
   ·have hb:(x.name==n)=true:=by simp [hn]
    rw [hb,if_pos rfl];unfold ZfW;rw [hb,Bool.true_and];simp only [YN];rw [show UG m x=if(x.kind=1∧x.via=m)∨(x.kind=2∧x.ZG=m) then x.w else 0 from rfl];by_cases z:(x.kind=1∧x.via=m)∨(x.kind=2∧x.ZG=m)
    ·have:((x.kind==1) && (x.via==m) || (x.kind==2) && (x.ZG==m))=true:=by simpa using z
     rw [this,cond_true,ZjH,if_pos z];refine(ih _).trans ?_;congr 1;omega
    ·have:((x.kind==1) && (x.via==m) || (x.kind==2) && (x.ZG==m))=false:=by
      rw [← Bool.not_eq_true];simpa using z
     rw [this,cond_false,if_neg z];refine(ih _).trans ?_;congr 1;omega
   ·have hb:(x.name==n)=false:=by simp [hn]
    rw [hb,if_neg (by simp)];have:ZfW m n x (ZV t)=ZV t:=by unfold ZfW;rw [hb];rfl
    rw [this];exact ih t
theorem ZnP (w:Za) (m n:Int) {M:Nat} (hM:M <=w.cells.length):(List.range M).foldl (fun s k=>Zl6 w m n k s) 0=ZV (KJ (fun k=>WA m (Xj w n k)) M):=by
 induction M with
 | zero=>rfl
 | succ M ih=>
   rw [List.range_succ,List.foldl_append,ih (by omega)];simp only [List.foldl_cons,List.foldl_nil,KJ];rw [UJ (by omega)];unfold Zl6 WA;cases cellOf w M n with
   | none=>simp
   | some c=>
     dsimp only;by_cases z:c.from_=m
     ·rw [if_pos z,show(c.from_==m)=true by simp [z],cond_true,ZjH]
     ·rw [if_neg z,show(c.from_==m)=false by simp [z],cond_false];simp
theorem Zqo (w:Za) (m n:Int):Zdw w m n=ZV (Jg w.cells.length (Xj w n) (Uh w n) m):=by
 unfold Zdw Jg Uh;rw [ZnP w m n (Nat.le_refl _),ZnO]
theorem ZgR {f:Zd ->Int} {l:List Zd} {B:Int} (h:∀ x ∈ l,0 <=f x∧f x <=B):0 <=YN f l∧YN f l <=B * (l.length:Int):=by
 induction l with
 | nil=>simp [YN]
 | cons x l ih=>
   have h1:=h x (by simp);have h2:=ih fun y hy=>h y (by simp [hy])
   simp only [YN,List.length_cons]
   have:B * ((l.length + 1:Nat):Int)=B * (l.length:Int) + B:=by
    rw [Int.natCast_add,Int.mul_add];simp
   omega
theorem Znf {f:Nat ->Int} {B:Int} {M:Nat} (h:∀ m,m < M ->0 <=f m∧f m <=B):0 <=KJ f M∧KJ f M <=B * (M:Int):=by
 induction M with
 | zero=>simp [KJ]
 | succ M ih=>
   have h1:=h M (by omega);have h2:=ih fun m hm=>h m (by omega)
   simp only [KJ]
   have:B * ((M + 1:Nat):Int)=B * (M:Int) + B:=by
    rw [Int.natCast_add,Int.mul_add];simp
   omega
theorem ZaC {m:Int} {c:Zb} (h:WG w m c=true):Yx w c.name=true∧(-16 <=c.out∧c.out <=1000000)∧(c.use=true∨c.out ≠ 0)∧
 ((c.root=false∧0 <=c.from_∧c.from_ < (w.cells.length:Int)∧c.from_ ≠ m∧1 <=c.has∧c.has <=1000000)∨(c.from_=-1∧c.has=0)):=by
 unfold WG KW at h;rw [Bool.and_eq_true,Bool.and_eq_true,Bool.and_eq_true] at h;obtain⟨⟨⟨h1,h2⟩,h3⟩,h4⟩:=h;refine⟨h1,by simpa using h2,?_,?_⟩
 ·simpa using h3
 ·cases hr:(c.root || c.from_==-1)
  ·rw [hr,cond_false] at h4;simp at h4 hr;exact .inl ⟨hr.1,by omega,by omega,h4.1.2,by omega,by omega⟩
  ·rw [hr,cond_true] at h4;simp at h4;exact .inr h4
theorem ZtR {m:Int} {c:Zb} (h1:Yx w c.name=true) (h2:-16 <=c.out∧c.out <=1000000) (h3:c.use=true∨c.out ≠ 0)
 (h4:(c.root=false∧0 <=c.from_∧c.from_ < (w.cells.length:Int)∧c.from_ ≠ m∧1 <=c.has∧c.has <=1000000)∨(c.from_=-1∧c.has=0)):WG w m c=true:=by
 unfold WG KW;rw [Bool.and_eq_true,Bool.and_eq_true,Bool.and_eq_true];refine⟨⟨⟨h1,by simpa using h2⟩,by simpa using h3⟩,?_⟩;rcases h4 with⟨q1,q2,q3,q4,q5,q6⟩ | ⟨q1,q2⟩
 ·have:(c.root || c.from_==-1)=false:=by simp [q1];omega
  rw [this,cond_false];simp;exact⟨⟨⟨q2,q3⟩,q4⟩,q5,q6⟩
 ·have:(c.root || c.from_==-1)=true:=by simp [q1]
  rw [this,cond_true];simp [q1,q2]
theorem Zaq {x:Zd} (h:Ww w x=true):(0 <=x.ZG∧x.ZG < (w.cells.length:Int))∧Yx w x.name=true∧(1 <=x.w∧x.w <=1000000)∧
 ((x.kind=1∧0 <=x.via∧x.via < (w.cells.length:Int))∨(x.kind=2∧x.via=0)∨(x.kind=3∧x.via=0∧x.w=16)):=by
 unfold Ww KW at h;rw [Bool.and_eq_true,Bool.and_eq_true,Bool.and_eq_true] at h;obtain⟨⟨⟨h1,h2⟩,h3⟩,h4⟩:=h;refine⟨by simpa using h1,h2,by simpa using h3,?_⟩;cases k1:(x.kind==1)
 ·rw [k1,cond_false] at h4;cases k2:(x.kind==2)
  ·rw [k2,cond_false] at h4;simp at h4;exact .inr (.inr ⟨h4.1.1,h4.1.2,h4.2⟩)
  ·rw [k2,cond_true] at h4;exact .inr (.inl ⟨by simpa using k2,by simpa using h4⟩)
 ·rw [k1,cond_true] at h4;exact .inl ⟨by simpa using k1,by simpa using h4⟩
theorem ZrY {x:Zd} (h1:0 <=x.ZG∧x.ZG < (w.cells.length:Int)) (h2:Yx w x.name=true) (h3:1 <=x.w∧x.w <=1000000)
 (h4:(x.kind=1∧0 <=x.via∧x.via < (w.cells.length:Int))∨(x.kind=2∧x.via=0)∨(x.kind=3∧x.via=0∧x.w=16)):Ww w x=true:=by
 unfold Ww KW;rw [Bool.and_eq_true,Bool.and_eq_true,Bool.and_eq_true];refine⟨⟨⟨by simpa using h1,h2⟩,by simpa using h3⟩,?_⟩;rcases h4 with⟨k,v⟩ | ⟨k,v⟩ | ⟨k,v,u⟩
 ·rw [k];simpa using v
 ·rw [k];simpa using v
 ·rw [k];simp [v,u]
theorem Shp.ZfK (sh:Shp w) {m:Nat} (hm:m < w.cells.length) (n:Int):JK w m n=Kt (Xj w n) (Uh w n) m:=by
 rw [Zhy w hm];have h1:=ZgR (f:=XY (m:Int)) (l:=Uh w n) (B:=16) (fun x _=>by unfold XY;split <;> omega);have h2:(Uh w n).length <=w.notes.length:=List.length_filter_le _ _;have h3:=sh.notes
 have h4:-16 <=Qh (Xj w n m)∧Qh (Xj w n m) <=1000000:=by
  rw [UJ hm];cases e:cellOf w m n with
  | none=>simp [Qh]
  | some c=>
    obtain⟨row,k,r1,r2⟩:=KE e;exact(ZaC (sh.cell m row k c r1 r2).1).2.1
 unfold Kt;rw [YW] <;> omega
theorem Shp.ZgT (sh:Shp w) {m:Nat} (hm:m < w.cells.length) (n:Int):Zdw w m n=Jg w.cells.length (Xj w n) (Uh w n) m:=by
 rw [Zqo w]
 have h1:=ZgR (f:=UG (m:Int)) (l:=Uh w n) (B:=1000000) (fun x hx=>by
  have:=Zaq (sh.note x (List.mem_filter.1 hx).1);unfold UG;split <;> omega)
 have h2:(Uh w n).length <=w.notes.length:=List.length_filter_le _ _;have h3:=sh.notes
 have h4:=Znf (f:=fun k=>WA (m:Int) (Xj w n k)) (B:=1000000) (M:=w.cells.length) (fun k hk=>by
  rw [UJ hk];cases e:cellOf w k n with
  | none=>simp [WA]
  | some c=>
    obtain⟨row,j,r1,r2⟩:=KE e;have:= (ZaC (sh.cell k row j c r1 r2).1).2.2.2;unfold WA;dsimp only;split <;> omega)
 have:=sh.c6;unfold Jg;rw [YW] <;> omega
theorem Wy (n h:Int) (k:Nat):Y0 w n h k h=true:=by cases k <;> simp [Y0]
theorem ZfV {h:Int}:∀ {k:Nat} {a:Int},Y0 w n h k a=true ->Y0 w n h (k + 1) a=true
 | 0,a,q=>by
   have:a=h:=by simpa [Y0] using q
   subst this;exact Wy _ _ _
 | k + 1,a,q=>by
   rw [Y0] at q ⊢;cases e:(a==h)
   ·rw [e,cond_false] at q;rw [cond_false];cases ec:cellOf w a.toNat n with
    | none=>rw [ec] at q;cases q
    | some c=>
      rw [ec] at q;dsimp only at q ⊢;cases ef:decide (c.from_ < 0)
      ·rw [ef,cond_false] at q;exact ZfV q
      ·rw [ef] at q;cases q
   ·rfl
theorem ZjZ {h:Int} {k:Nat} {a:Int} (q:Y0 w n h k a=true):a=h∨cellOf w a.toNat n ≠ none:=by
 by_cases e:a=h
 ·exact .inl e
 ·right;intro z;cases k with
  | zero=>exact e (by simpa [Y0] using q)
  | succ k=>
    rw [Y0,z,show(a==h)=false by simp [e]] at q;cases q
theorem Ur {h:Int} {k:Nat} {a:Int} {c:Zb} (ha:a ≠ h) (hc:cellOf w a.toNat n=some c):Y0 w n h (k + 1) a= (!decide (c.from_ < 0) && Y0 w n h k c.from_):=by
 rw [Y0,hc,show(a==h)=false by simp [ha],cond_false];dsimp only;cases decide (c.from_ < 0) <;> rfl
theorem Zfs {α:Type} {p q:α ->Bool} {l:List α} (h:∀ x ∈ l,p x=true ->q x=true) {x:α} (hx:x ∈ l) (h1:p x=false) (h2:q x=true):l.countP p < l.countP q:=by
 induction l with
 | nil=>simp at hx
 | cons y l ih=>
   rw [List.countP_cons,List.countP_cons];have hm:l.countP p <=l.countP q:=List.countP_mono_left fun z hz=>h z (by simp [hz])
   have hy:=h y (by simp);rcases List.mem_cons.1 hx with rfl | hx
   ·rw [h1,h2];simp;omega
   ·have:=ih (fun z hz=>h z (by simp [hz])) hx;cases ep:p y
    ·simp;omega
    ·rw [hy ep];simp;omega
theorem switch {f:Nat ->Bool}:∀ {K:Nat},f 0=false ->f (K + 1)=true ->∃ j,j <=K∧f j=false∧f (j + 1)=true
 | 0,h0,h1=>⟨0,Nat.le_refl _,h0,h1⟩
 | K + 1,h0,h1=>by
   cases e:f (K + 1) with
   | false=>exact⟨K + 1,Nat.le_refl _,e,h1⟩
   | true=>
     obtain⟨j,j1,j2⟩:=switch h0 e;exact⟨j,by omega,j2⟩
theorem Zvb {h:Int} (sh:Shp w) (L:Wz w n h=true):∃ dep:Int ->Nat,∀ m c,Xj w n m=some c ->m ≠ h ->0 <=c.from_∧(Xj w n c.from_ ≠ none∨c.from_=h)∧dep c.from_ < dep m:=by
 have all:∀ m:Nat,m < w.cells.length ->cellOf w m n ≠ none ->Y0 w n h w.cells.length m=true:=by
  intro m hm hc;unfold Wz at L;rw [Bool.not_eq_true',List.any_eq_false] at L;have:=L m (List.mem_range.2 hm);cases e:Y0 w n h w.cells.length m with
  | true=>rfl
  | false=>
    exfalso;apply this;rw [e];cases ec:cellOf w m n with
    | none=>exact absurd ec hc
    | some c=>rfl
 refine⟨fun a=>(List.range (w.cells.length + 1)).countP fun k=>!Y0 w n h k a,fun m c hc hm=>?_⟩;obtain⟨hr,hc'⟩:=QB hc;have hmn:((m.toNat:Nat):Int)=m:=by omega
 have q:=all m.toNat (by omega) (by rw [hc'];simp);rw [hmn] at q;have hM:=sh.c1;obtain⟨K,hK⟩:=Nat.exists_eq_succ_of_ne_zero (n:=w.cells.length) (by omega);rw [hK,Ur hm hc',Bool.and_eq_true] at q;have hf:0 <=c.from_:=by have:=q.1;simp at this;omega
 have hfr:=sh.from_ hc' (by omega);refine⟨hf,?_,?_⟩
 ·rcases ZjZ q.2 with z | z
  ·exact .inr z
  ·left;unfold Xj;rw [if_pos hfr];exact z
 ·have hp:w.cells.length=K + 1:=hK
  obtain⟨j,j1,j2,j3⟩:=switch (f:=fun k=>Y0 w n h k m) (K:=K) (by simp [Y0,hm]) (by
   show Y0 w n h (K + 1) m=true;rw [Ur hm hc',Bool.and_eq_true];exact q)
  rw [Ur hm hc',Bool.and_eq_true] at j3;refine Zfs (x:=j) (fun k hk hp=>?_) (List.mem_range.2 (by omega)) (by rw [j3.2];rfl) (by rw [j2];rfl);rw [Bool.not_eq_true'] at hp ⊢;cases k with
  | zero=>simp [Y0,hm]
  | succ k=>
    rw [Ur hm hc',Bool.and_eq_false_iff];right;cases e:Y0 w n h k c.from_ with
    | false=>rfl
    | true=>rw [ZfV e] at hp;cases hp
theorem Zva {h:Int} (L:∃ dep:Int ->Nat,∀ m c,Xj w n m=some c ->m ≠ h ->0 <=c.from_∧(Xj w n c.from_ ≠ none∨c.from_=h)∧dep c.from_ < dep m):Wz w n h=true:=by
 obtain⟨dep,L⟩:=L
 let S:Int ->Nat ->Bool:=fun a k=>(Xj w n (k:Int)).isSome && decide (dep k < dep a)
 let rk:Int ->Nat:=fun a=>(List.range w.cells.length).countP (S a)
 have key:∀ k a c,rk a <=k ->Xj w n a=some c ->Y0 w n h (k + 1) a=true:=by
  intro k
  induction k with
  | zero=>
    intro a c hk hc;by_cases ha:a=h
    ·subst ha;exact Wy _ _ _
    ·obtain⟨l1,l2,l3⟩:=L a c hc ha;rw [Ur ha (QB hc).2,Bool.and_eq_true];refine⟨by simp;omega,?_⟩;by_cases z:c.from_=h
     ·rw [z];exact Wy _ _ _
     ·exfalso;have l2:Xj w n c.from_ ≠ none:=by rcases l2 with q | q;exact q;exact absurd q z
      obtain⟨d,hd⟩:=Option.ne_none_iff_exists'.1 l2;have hr:= (QB hd).1;have hf:((c.from_.toNat:Nat):Int)=c.from_:=by omega
      have:0 < rk a:=by
       refine List.countP_pos_iff.2 ⟨c.from_.toNat,List.mem_range.2 (by omega),?_⟩;show((Xj w n ((c.from_.toNat:Nat):Int)).isSome && decide (dep ((c.from_.toNat:Nat):Int) < dep a))=true
       rw [hf,hd];simpa using l3
      omega
  | succ k ih=>
    intro a c hk hc;by_cases ha:a=h
    ·subst ha;exact Wy _ _ _
    ·obtain⟨l1,l2,l3⟩:=L a c hc ha;rw [Ur ha (QB hc).2,Bool.and_eq_true];refine⟨by simp;omega,?_⟩;by_cases z:c.from_=h
     ·rw [z];exact Wy _ _ _
     ·have l2:Xj w n c.from_ ≠ none:=by rcases l2 with q | q;exact q;exact absurd q z
      obtain⟨d,hd⟩:=Option.ne_none_iff_exists'.1 l2;have hr:= (QB hd).1;have hf:((c.from_.toNat:Nat):Int)=c.from_:=by omega
      refine ih c.from_ d ?_ hd
      have:rk c.from_ < rk a:=by
       refine Zfs (x:=c.from_.toNat) (fun j hj hp=>?_) (List.mem_range.2 (by omega)) ?_ ?_
       ·have hp:((Xj w n (j:Int)).isSome && decide (dep j < dep c.from_))=true:=hp;show((Xj w n (j:Int)).isSome && decide (dep j < dep a))=true;rw [Bool.and_eq_true,decide_eq_true_eq] at hp ⊢;exact⟨hp.1,by omega⟩
       ·show((Xj w n ((c.from_.toNat:Nat):Int)).isSome && decide (dep ((c.from_.toNat:Nat):Int) < dep c.from_))=false
        rw [hf];simp
       ·show((Xj w n ((c.from_.toNat:Nat):Int)).isSome && decide (dep ((c.from_.toNat:Nat):Int) < dep a))=true
        rw [hf,hd];simpa using l3
      omega
 unfold Wz;rw [Bool.not_eq_true',List.any_eq_false];intro m hm;rw [List.mem_range] at hm;rw [Bool.not_eq_true];cases e:cellOf w m n with
 | none=>rfl
 | some c=>
   have hc:Xj w n m=some c:=by rw [UJ hm];exact e
   have:rk m < w.cells.length:=by
    have:=Zfs (p:=S m) (q:=fun _=>true) (l:=List.range w.cells.length) (fun _ _ _=>rfl) (x:=m) (List.mem_range.2 hm) (by show((Xj w n (m:Int)).isSome && decide (dep m < dep m))=false;simp) rfl
    simpa [rk] using this
   obtain⟨K,hK⟩:=Nat.exists_eq_succ_of_ne_zero (n:=w.cells.length) (by omega);have:=key K m c (by omega) hc;rw [hK,this];rfl
end
end Go.Proofs.Ytekpjgmhkkjhgaa
end
section
namespace Go.Proofs.Ytekpjgmhkkjhgaa
open Go.Lf
theorem ZpN {α:Type} [Inhabited α] (f:α ->Int) {l:List α} (h:∀ k x,l[k]? =some x ->0 < k ->f (Qw l k) < f x):l.Pairwise fun a b=>f a < f b:=by
 rw [List.pairwise_iff_getElem]
 have key:∀ (j i:Nat) (hi:i < l.length) (hj:j < l.length),i < j ->f l[i] < f l[j]:=by
  intro j
  induction j with
  | zero=>intro i hi hj h;omega
  | succ j ih=>
    intro i hi hj hij;have q:=h (j + 1) l[j + 1] (by simp [hj]) (by omega)
    have e:Qw l (j + 1)=l[j]'(by omega):=by
     unfold Qw;rw [Nat.add_sub_cancel,List.getElem?_eq_getElem (by omega)];rfl
    rw [e] at q;by_cases z:i=j
    ·subst z;exact q
    ·have:=ih i hi (by omega) (by omega);omega
 exact fun i j hi hj hij=>key j i hi hj hij
theorem ZpO {α:Type} [Inhabited α] (f:α ->Int) {l:List α} (h:l.Pairwise fun a b=>f a < f b) {k:Nat} {x:α} (hk:l[k]? =some x) (h0:0 < k):f (Qw l k) < f x:=by
 rw [List.pairwise_iff_getElem] at h;obtain⟨hl,rfl⟩:=List.getElem?_eq_some_iff.1 hk
 have e:Qw l k=l[k - 1]'(by omega):=by
  unfold Qw;rw [List.getElem?_eq_getElem (by omega)];rfl
 rw [e];exact h _ _ _ _ (by omega)
theorem ZaE {b:Int}:∀ {l:List Int} {a:Int},l.Pairwise (· < ·) ->(∀ x ∈ l,a <=x∧x < b) ->a <=b ->a + (l.length:Int) <=b
 | [],a,_,_,h=>by simp;exact h
 | x::l,a,p,hr,h=>by
   rw [List.pairwise_cons] at p;have h0:=hr x (by simp);have:=ZaE (l:=l) (a:=x + 1) (b:=b) p.2 (fun y hy=>by have h1:=p.1 y hy;have h2:=hr y (by simp [hy]);omega) (by omega);simp only [List.length_cons];omega
theorem ZdB {α:Type} {c:Nat ->α ->Bool} {l:List α} (h:∀ k x,l[k]? =some x ->c k x=false):anyI c 0 l=false:=by
 rw [← Bool.not_eq_true,Zcb];rintro⟨k,x,h1,h2⟩;rw [Nat.zero_add,h k x h1] at h2;cases h2
theorem ZwO {α:Type} {c:Nat ->α ->Bool} {l:List α} (h:anyI c 0 l=false) {k:Nat} {x:α} (hk:l[k]? =some x):c k x=false:=by
 rw [← Bool.not_eq_true,Zcb] at h;cases e:c k x with
 | false=>rfl
 | true=>exact absurd ⟨k,x,hk,by rw [Nat.zero_add];exact e⟩ h
section
variable {w:Za} {n:Int}
theorem ZuW {m:Nat} (hm:m < w.cells.length) {c:Zb} (hc:c ∈ rowOf w m):∃ k:Nat,w.cells[m]? =some (rowOf w m)∧(rowOf w m)[k]? =some c:=by
 obtain⟨k,hk⟩:=List.getElem?_of_mem hc;exact⟨k,Jl hm,hk⟩
theorem ZkZ {m:Nat} (hm:m < w.cells.length) (n:Int):Zk0 w m n=ZbQ w m n + J4 (Xj w n m):=by
 rw [UJ hm];unfold Zk0 J4;cases cellOf w m n with
 | none=>rfl
 | some c=>dsimp only;cases c.root <;> rfl
theorem ZnK {m:Int} {x:Zd} (hx:x ∈ Uh w n) (k:x.kind=3) (h:x.ZG=m):1 <=ZbQ w m n:=by
 unfold Uh at hx;rw [List.mem_filter] at hx;refine List.countP_pos_iff.2 ⟨x,hx.1,?_⟩;simp [k,h];simpa using hx.2
theorem Rt.of (h:Kl w=true):Rt w:=by
 unfold Kl at h;rw [Bool.and_eq_true] at h;obtain⟨hs,hn⟩:=h;have sh:=ZfL hs;unfold KO at hs;simp only [Bool.and_eq_true,Bool.not_eq_true'] at hs;obtain⟨s1,s2,s3,s4⟩:=hs
 have hfr:∀ k x,w.freed[k]? =some x ->(0 <=x∧x < w.names)∧(0 < k ->Qw w.freed k < x):=by
  intro k x hk;have:=ZwO s2 hk;unfold Ku at this;simp at this;exact⟨this.1,fun h0=>this.2 h0⟩
 refine⟨sh.c1,sh.c6,sh.n0,sh.n12,sh.notes,ZpN (fun x=>x) (fun k x hk h0=>(hfr k x hk).2 h0),?_,?_,?_,?_,?_⟩
 ·intro x hx;obtain⟨k,hk⟩:=List.getElem?_of_mem hx;exact(hfr k x hk).1
 ·intro m hm;exact ZpN (fun c:Zb=>c.name) (fun k c hk h0=>(sh.cell m _ k c (Jl hm) hk).2 h0)
 ·intro m hm c hc;obtain⟨k,r1,r2⟩:=ZuW hm hc;have:=ZaC (sh.cell m _ k c r1 r2).1;exact⟨this.1,this.2.2.1⟩
 ·exact fun x hx=>(Zaq (sh.note x hx)).2.1
 ·intro n hnn
  have hr:0 <=n∧n < w.names:=by
   have:=hnn;unfold Yx at this;simp at this;exact this.1
  rw [Bool.not_eq_true',List.any_eq_false] at hn
  have hro:Wl w n=true:=by
   have:=hn n.toNat (List.mem_range.2 (by omega));rw [show((n.toNat:Nat):Int)=n by omega,hnn] at this;cases e:Wl w n with
   | true=>rfl
   | false=>rw [e] at this;exact absurd rfl this
  unfold Wl at hro;simp only [Bool.and_eq_true,Bool.not_eq_true',beq_iff_eq] at hro;obtain⟨h1,h2,h3⟩:=hro;rw [List.any_eq_false] at h1
  have hbad:∀ m:Nat,m < w.cells.length ->Kt (Xj w n) (Uh w n) m=Jg w.cells.length (Xj w n) (Uh w n) m∧Kt (Xj w n) (Uh w n) m <=1000000:=by
   intro m hm;have:=h1 m (List.mem_range.2 hm);unfold ZqZ at this;rw [sh.ZfK hm,sh.ZgT hm] at this
   simpa using this
  obtain⟨f1,f2⟩:=ZeO sh n
  have hL:YK w n= [(Qr w n).2]:=by
   have:(YK w n).length=1:=by
    unfold Qr at h2;rw [f1] at h2;omega
   obtain⟨z,hz⟩:=List.length_eq_one_iff.1 this;rw [show(Qr w n).2=z from f2 z hz];exact hz
  obtain⟨z,hz⟩:∃ z,(Qr w n).2=z:= ⟨_,rfl⟩
  rw [hz] at hL h3;have hzr:=Za2 sh n z (by rw [hL];simp)
  have hcnt:∀ m:Nat,m < w.cells.length ->Zk0 w m n=if(m:Int)=z then 1 else 0:=by
   intro m hm;rw [← WZ hm,hL];by_cases e:(m:Int)=z
   ·rw [if_pos e,e];simp
   ·rw [if_neg e];rw [List.count_eq_zero];simp;exact e
  have hcell:∀ m c,Xj w n m=some c ->∃ (row:List Zb) (k:Nat),w.cells[m.toNat]? =some row∧row[k]? =some c∧WG w m.toNat c=true:=by
   intro m c hc;obtain⟨row,k,r1,r2⟩:=KE (QB hc).2;exact⟨row,k,r1,r2,(sh.cell _ row k c r1 r2).1⟩
  have h3n:∀ x ∈ Uh w n,x.kind=3 ->x.ZG=z:=by
   intro x hx k;have hx':=Zaq (sh.note x (List.mem_filter.1 hx).1);have:=ZnK hx k (m:= ((x.ZG.toNat:Nat):Int)) (by omega);have hc:=hcnt x.ZG.toNat (by omega);rw [ZkZ (by omega)] at hc;by_cases e:((x.ZG.toNat:Nat):Int)=z
   ·omega
   ·rw [if_neg e] at hc;omega
  refine⟨z,⟨?_,?_,?_,?_,hzr,?_,?_,?_,?_⟩,?_⟩
  ·exact fun m c hc=>(QB hc).1
  ·exact fun m c hc=>QJ (QB hc).2
  ·intro m c hc;have hr:= (QB hc).1;obtain⟨_,_,_,_,q⟩:=hcell m c hc;have:= (ZaC q).2.2.2;rw [show((m.toNat:Nat):Int)=m by omega] at this;rcases this with⟨a1,a2,a3,a4,a5,a6⟩ | a
   ·exact .inl ⟨a1,a2,a3,a4,a5⟩
   ·exact .inr a
  ·intro x hx;have hx':=Zaq (sh.note x (List.mem_filter.1 hx).1);refine⟨hx'.1,by simpa using (List.mem_filter.1 hx).2,hx'.2.2.1.1,?_⟩;rcases hx'.2.2.2 with a | a | a
   ·exact .inl a
   ·exact .inr (.inl a)
   ·exact .inr (.inr ⟨a.1,a.2.1,a.2.2,h3n x hx a.1⟩)
  ·intro m c hc hrt;have hr:= (QB hc).1;have q:=hcnt m.toNat (by omega);unfold Zk0 at q;rw [(QB hc).2] at q;dsimp only at q;rw [hrt,cond_true] at q;split at q <;> omega
  ·have q:=hcnt z.toNat (by omega);have hzn:((z.toNat:Nat):Int)=z:=by omega
   rw [if_pos hzn,ZkZ (by omega)] at q;rw [hzn] at q;have g1:=Zc9 w z n;rw [ZgS h3n,if_pos rfl] at g1;omega
  ·intro a a0 a1;have:= (hbad a.toNat (by omega)).1;rw [show((a.toNat:Nat):Int)=a by omega] at this;exact this
  ·exact Zvb sh h3
  ·intro a a0 a1;have:= (hbad a.toNat (by omega)).2;rw [show((a.toNat:Nat):Int)=a by omega] at this;exact this
theorem Rt.Zjg (R:Rt w):(w.freed.length:Int) <=w.names:=by
 have:=ZaE R.fr R.frr R.n0;omega
theorem Rt.ZqT (R:Rt w) {m:Nat} (hm:m < w.cells.length) {c:Zb} (hc:c ∈ rowOf w m):Xj w c.name m=some c:=by
 rw [UJ hm];exact Zn0 (R.X9 m hm) hc
theorem Rt.WG (R:Rt w) {m:Nat} (hm:m < w.cells.length) {c:Zb} (hc:c ∈ rowOf w m):WG w m c=true:=by
 obtain⟨q1,q2⟩:=R.cn m hm c hc;obtain⟨h,H,Mx⟩:=R.nm _ q1;have e:=R.ZqT hm hc;have ho:=H.Znp e;have hmx:=Mx m (by omega) (by omega);rw [H.giv,e] at hmx;simp only [Qh] at hmx;refine ZtR q1 ⟨ho.1,?_⟩ q2 ?_
 ·split at hmx <;> omega
 ·rcases H.cel m c e with⟨a1,a2,a3,a4,a5⟩ | a
  ·have h1:=H.Zcw e a2;have h2:=H.acc c.from_ a2 a3;have h3:=Mx c.from_ a2 a3;exact .inl ⟨a1,a2,a3,a4,a5,by omega⟩
  ·exact .inr a
theorem Rt.Ww (R:Rt w) {x:Zd} (hx:x ∈ w.notes):Ww w x=true:=by
 have q1:=R.nn x hx;obtain⟨h,H,Mx⟩:=R.nm _ q1;have hx':x ∈ Uh w x.name:=List.mem_filter.2 ⟨hx,by simp⟩;obtain⟨a1,a2,a3,a4⟩:=H.nts x hx';refine ZrY a1 q1 ⟨a3,?_⟩ ?_
 ·rcases a4 with z | z | z
  ·have h1:=H.Us z.2.1 hx';rw [Wm z.1,if_pos rfl] at h1;have h2:=H.acc _ z.2.1 z.2.2;have h3:=Mx _ z.2.1 z.2.2;omega
  ·have h1:=H.Us a1.1 hx';rw [ZaV z.1,if_pos rfl] at h1;have h2:=H.acc _ a1.1 a1.2;have h3:=Mx _ a1.1 a1.2;omega
  ·omega
 ·rcases a4 with z | z | z
  ·exact .inl z
  ·exact .inr (.inl z)
  ·exact .inr (.inr ⟨z.1,z.2.1,z.2.2.1⟩)
theorem Rt.shaped (R:Rt w):KO w=true:=by
 have hfl:=R.Zjg;have:=R.c1;have:=R.c6;have:=R.n0;have:=R.n12;have:=R.nts;unfold KO;simp only [Bool.and_eq_true,Bool.not_eq_true'];refine⟨?_,?_,?_,?_⟩
 ·unfold Zbs;simp only [Bool.and_eq_true,decide_eq_true_eq];omega
 ·refine ZdB fun k x hk=>?_
  have h1:=R.frr x (List.mem_of_getElem? hk);unfold Ku;have h2:0 < k ->Qw w.freed k < x:=fun h0=>ZpO (fun x=>x) R.fr hk h0
  simp;exact⟨h1,h2⟩
 ·unfold ZcX;rw [Bool.not_eq_true'];refine ZdB fun m row hm=>?_
  have hml:m < w.cells.length:= (List.getElem?_eq_some_iff.1 hm).1;have hro:row=rowOf w m:=by have:=Jl hml;rw [hm] at this;exact Option.some.inj this
  subst hro;refine ZdB fun k c hk=>?_
  unfold Kk;rw [R.WG hml (List.mem_of_getElem? hk)];simp;exact fun h0=>ZpO (fun c:Zb=>c.name) (R.X9 m hml) hk h0
 ·unfold Km;rw [Bool.not_eq_true',List.any_eq_false];intro x hx;rw [R.Ww hx];simp
theorem Rt.shp (R:Rt w):Shp w:=ZfL R.shaped
theorem Rt.right (R:Rt w):Kl w=true:=by
 have sh:=R.shp;unfold Kl;rw [Bool.and_eq_true];refine⟨R.shaped,?_⟩;rw [Bool.not_eq_true',List.any_eq_false];intro k hk;rw [Bool.not_eq_true];cases hn:Yx w k with
 | false=>rfl
 | true=>
   obtain⟨h,H,Mx⟩:=R.nm _ hn;rw [Bool.true_and,Bool.not_eq_false']
   have hcnt:∀ m:Nat,m < w.cells.length ->Zk0 w m k=if(m:Int)=h then 1 else 0:=by
    intro m hm;have g1:=Zc9 w m k;rw [ZgS (h:=h) (fun x hx k3=>by rcases(H.nts x hx).2.2.2 with z | z | z <;> omega)] at g1;have o:=H.one;rw [ZkZ hm];by_cases e:(m:Int)=h
    ·rw [if_pos e] at g1 ⊢;rw [e];rw [e] at g1;omega
    ·rw [if_neg e] at g1 ⊢
     have:J4 (Xj w k m)=0:=by
      cases ec:Xj w k m with
      | none=>rfl
      | some c=>
        show(if c.root=true then 1 else 0)=0;rw [if_neg (fun z=>e (H.rt m c ec z))]
     omega
   have hr:=Za2 sh (k:Int)
   have hL:YK w k= [h]:=by
    have c1:∀ x ∈ YK w (k:Int),x=h:=by
     intro x hx;have h1:=hr x hx;have h2:=WZ (w:=w) (m:=x.toNat) (by omega) (k:Int);rw [hcnt x.toNat (by omega),show((x.toNat:Nat):Int)=x by omega] at h2;have h3:0 < (YK w (k:Int)).count x:=List.count_pos_iff.2 hx;by_cases e:x=h
     ·exact e
     ·rw [if_neg e] at h2;omega
    have c2:(YK w (k:Int)).count h=1:=by
     have hh:=H.hM;have h2:=WZ (w:=w) (m:=h.toNat) (by omega) (k:Int);rw [hcnt h.toNat (by omega),show((h.toNat:Nat):Int)=h by omega,if_pos rfl] at h2;exact h2
    have c3:(YK w (k:Int)).length=1:=by
     rw [← c2]
     symm
     rw [List.count_eq_length];exact fun x hx=>(c1 x hx).symm
    obtain⟨z,hz⟩:=List.length_eq_one_iff.1 c3;rw [hz];rw [c1 z (by rw [hz];simp)]
   obtain⟨f1,f2⟩:=ZeO sh (k:Int);unfold Wl;simp only [Bool.and_eq_true,Bool.not_eq_true',beq_iff_eq];refine⟨?_,?_,?_⟩
   ·rw [List.any_eq_false];intro m hm;rw [List.mem_range] at hm;unfold ZqZ;rw [sh.ZfK hm,sh.ZgT hm,H.acc m (by omega) (by omega)];have:=Mx m (by omega) (by omega);rw [H.acc m (by omega) (by omega)] at this;simp;exact this
   ·unfold Qr;rw [f1,hL];rfl
   ·have:(Qr w (k:Int)).2=h:=f2 h hL;rw [this];exact Zva H.lead
end
end Go.Proofs.Ytekpjgmhkkjhgaa
end
section
namespace Go.Proofs.Ytekpjgmhkkjhgaa
open Go.Lf
def flN (n:Int) (fl:List Zd):List Zd:=fl.filter fun x=>x.name==n
structure Rx (w:Za) (ex:Int ->Int ->Prop) (fl:List Zd):Prop where
 c1:1 <=w.cells.length
 c6:w.cells.length <=6
 n0:0 <=w.names
 n12:w.names <=12
 fr:w.freed.Pairwise (· < ·)
 frr:∀ x ∈ w.freed,0 <=x∧x < w.names
 X9:∀ m,m < w.cells.length ->KN (rowOf w m)
 cn:∀ n m c,Xj w n m=some c ->Yx w n=true∧(c.use=true∨c.out ≠ 0∨ex m n)
 nn:∀ x ∈ fl ++ w.notes,Yx w x.name=true
 nm:∀ n,Yx w n=true ->∃ h,Nm w.cells.length n (Xj w n) (flN n fl ++ Uh w n) h
def Mw (w:Za) (fl:List Zd):Prop:=∀ n,Yx w n=true ->Mst w.cells.length (Xj w n) (flN n fl ++ Uh w n)
def Kn:Int ->Int ->Prop:=fun _ _=>False
theorem Rt.rx {w:Za} (R:Rt w):Rx w Kn []∧Mw w []:=by
 refine⟨⟨R.c1,R.c6,R.n0,R.n12,R.fr,R.frr,R.X9,fun n m c hc=>?_,R.nn,fun n hn=>?_⟩,fun n hn=>?_⟩
 ·obtain⟨h1,h2⟩:=QB hc;have hm:m.toNat < w.cells.length:=by omega
  obtain⟨row,k,r1,r2⟩:=KE h2;have:row=rowOf w m.toNat:=by have:=Jl hm;rw [r1] at this;exact Option.some.inj this
  subst this;have q:=R.cn _ hm c (List.mem_of_getElem? r2);rw [QJ h2] at q;exact⟨q.1,q.2.elim .inl fun z=>.inr (.inl z)⟩
 ·obtain⟨h,H,_⟩:=R.nm n hn;exact⟨h,H⟩
 ·obtain⟨h,_,H⟩:=R.nm n hn;exact H
theorem Rx.rt {w:Za} (R:Rx w Kn []) (Mx:Mw w []) (hl:w.notes.length <=80):Rt w:=by
 refine⟨R.c1,R.c6,R.n0,R.n12,hl,R.fr,R.frr,R.X9,fun m hm c hc=>?_,R.nn,fun n hn=>?_⟩
 ·have e:Xj w c.name m=some c:=by rw [UJ hm];exact Zn0 (R.X9 m hm) hc
  obtain⟨q1,q2⟩:=R.cn _ _ _ e;refine⟨q1,?_⟩;rcases q2 with q | q | q
  ·exact .inl q
  ·exact .inr q
  ·exact q.elim
 ·obtain⟨h,H⟩:=R.nm n hn;exact⟨h,H,Mx n hn⟩
structure Upd (w w':Za) (n:Int):Prop where
 len:w'.cells.length=w.cells.length
 nms:w'.names=w.names
 fre:w'.freed=w.freed
 X9:∀ m,m < w.cells.length ->KN (rowOf w' m)
 oc:∀ k,k ≠ n ->Xj w' k=Xj w k
 on:∀ k,k ≠ n ->Uh w' k=Uh w k
theorem Upd.trans {w w1 w2:Za} {n:Int} (a:Upd w w1 n) (b:Upd w1 w2 n):Upd w w2 n:=
 ⟨b.len.trans a.len,b.nms.trans a.nms,b.fre.trans a.fre,fun m hm=>b.X9 m (by rw [a.len];exact hm),fun k hk=>(b.oc k hk).trans (a.oc k hk),fun k hk=>(b.on k hk).trans (a.on k hk)⟩
theorem ZbK {w w':Za} (h1:w'.names=w.names) (h2:w'.freed=w.freed) (n:Int):Yx w' n=Yx w n:=by unfold Yx;rw [h1,h2]
theorem Zkl {n:Int} {fl:List Zd} (h:∀ x ∈ fl,x.name ≠ n):flN n fl= []:=by
 unfold flN;rw [List.filter_eq_nil_iff];intro x hx;simp;exact h x hx
theorem Zcy {n:Int} {fl:List Zd} (h:∀ x ∈ fl,x.name=n):flN n fl=fl:=by
 unfold flN;rw [List.filter_eq_self];intro x hx;simp;exact h x hx
section
variable {w w':Za} {n:Int} {ex ex':Int ->Int ->Prop} {fl fl':List Zd}
theorem Rx.upd (R:Rx w ex fl) (U:Upd w w' n) (hn:Yx w n=true) (hfl:∀ x ∈ fl,x.name=n) (Zgh:∀ x ∈ fl',x.name=n)
 (he:∀ m c,Xj w' n m=some c ->c.use=true∨c.out ≠ 0∨ex' m n) (he2:∀ m k,k ≠ n ->ex m k ->ex' m k)
 (hm:∃ h,Nm w.cells.length n (Xj w' n) (fl' ++ Uh w' n) h):Rx w' ex' fl':=by
 have hB:=ZbK U.nms U.fre;refine⟨by rw [U.len];exact R.c1,by rw [U.len];exact R.c6,by rw [U.nms];exact R.n0,by rw [U.nms];exact R.n12,by rw [U.fre];exact R.fr,by rw [U.fre,U.nms];exact R.frr,by rw [U.len];exact U.X9,fun k m c hc=>?_,fun x hx=>?_,fun k hk=>?_⟩
 ·rw [hB];by_cases e:k=n
  ·subst e;exact⟨hn,he m c hc⟩
  ·rw [U.oc k e] at hc;obtain⟨q1,q2⟩:=R.cn k m c hc;exact⟨q1,q2.elim .inl fun z=>.inr (z.elim .inl fun y=>.inr (he2 m k e y))⟩
 ·rw [hB];by_cases e:x.name=n
  ·rw [e];exact hn
  ·rcases List.mem_append.1 hx with z | z
   ·exact absurd (Zgh x z) e
   ·have:x ∈ Uh w' x.name:=List.mem_filter.2 ⟨z,by simp⟩;rw [U.on _ e] at this;exact R.nn x (List.mem_append_right _ (List.mem_filter.1 this).1)
 ·rw [hB] at hk;rw [U.len];by_cases e:k=n
  ·subst e;rw [Zcy Zgh];exact hm
  ·obtain⟨h,H⟩:=R.nm k hk;refine⟨h,?_⟩;rw [U.oc k e,U.on k e,Zkl fun x hx z=>e (z.symm.trans (Zgh x hx))];rw [Zkl fun x hx z=>e (z.symm.trans (hfl x hx))] at H;exact H
theorem Mw.upd (Mx:Mw w fl) (U:Upd w w' n) (hfl:∀ x ∈ fl,x.name=n) (Zgh:∀ x ∈ fl',x.name=n)
 (hm:Mst w.cells.length (Xj w' n) (fl' ++ Uh w' n)):Mw w' fl':=by
 intro k hk;rw [ZbK U.nms U.fre] at hk;rw [U.len];by_cases e:k=n
 ·subst e;rw [Zcy Zgh];exact hm
 ·have:=Mx k hk;rw [U.oc k e,U.on k e,Zkl fun x hx z=>e (z.symm.trans (Zgh x hx))];rw [Zkl fun x hx z=>e (z.symm.trans (hfl x hx))] at this;exact this
theorem Zjs {m a:Nat} {r:Row} (hm:m < w.cells.length) (k:Int):cellOf (cw w m r) a k=if a=m then KL r k else cellOf w a k:=by
 rw [X0,X0];by_cases e:a=m
 ·subst e;rw [if_pos rfl,Jm hm]
 ·rw [if_neg e,Wt e]
theorem ZaP {m:Nat} (hm:m < w.cells.length) (X9:∀ m,m < w.cells.length ->KN (rowOf w m)) {c:Zb} (hc:c.name=n):
 Upd w (cw w m (put c (rowOf w m))) n∧Xj (cw w m (put c (rowOf w m))) n=Yr (Xj w n) m (some c)∧Uh (cw w m (put c (rowOf w m))) n=Uh w n:=by
 have key:∀ k a,Xj (cw w m (put c (rowOf w m))) k a=if a=m∧k=n then some c else Xj w k a:=by
  intro k a;unfold Xj;rw [Ym];by_cases hr:0 <=a∧a < (w.cells.length:Int)
  ·rw [if_pos hr,if_pos hr,Zjs hm];by_cases e:a=m
   ·have:a.toNat=m:=by omega
    rw [if_pos this,KX _ (X9 m hm),hc,X0,this];by_cases ek:k=n
    ·rw [if_pos ek,if_pos ⟨e,ek⟩]
    ·rw [if_neg ek,if_neg (fun z=>ek z.2)]
   ·have:¬ a.toNat=m:=by omega
    rw [if_neg this,if_neg (fun z=>e z.1)]
  ·rw [if_neg hr,if_neg hr,if_neg (by rintro⟨z,_⟩;subst z;omega)]
 refine⟨⟨Ym,rfl,rfl,fun a ha=>?_,fun k hk=>?_,fun k hk=>rfl⟩,?_,rfl⟩
 ·by_cases e:a=m
  ·subst e;rw [Jm hm];exact(X9 a hm).put
  ·rw [Wt e];exact X9 a ha
 ·funext a;rw [key,if_neg (fun z=>hk z.2)]
 ·funext a;rw [key];unfold Yr;by_cases e:a=m
  ·rw [if_pos ⟨e,rfl⟩,if_pos e]
  ·rw [if_neg (fun z=>e z.1),if_neg e]
theorem ZuX {m:Nat} (hm:m < w.cells.length) (X9:∀ m,m < w.cells.length ->KN (rowOf w m)):
 Upd w (cw w m (rmv n (rowOf w m))) n∧Xj (cw w m (rmv n (rowOf w m))) n=Yr (Xj w n) m none∧Uh (cw w m (rmv n (rowOf w m))) n=Uh w n:=by
 have key:∀ k a,Xj (cw w m (rmv n (rowOf w m))) k a=if a=m∧k=n then none else Xj w k a:=by
  intro k a;unfold Xj;rw [Ym];by_cases hr:0 <=a∧a < (w.cells.length:Int)
  ·rw [if_pos hr,if_pos hr,Zjs hm];by_cases e:a=m
   ·have:a.toNat=m:=by omega
    rw [if_pos this,Zpn,X0,this];by_cases ek:k=n
    ·rw [if_pos ek,if_pos ⟨e,ek⟩]
    ·rw [if_neg ek,if_neg (fun z=>ek z.2)]
   ·have:¬ a.toNat=m:=by omega
    rw [if_neg this,if_neg (fun z=>e z.1)]
  ·rw [if_neg hr,if_neg hr];split <;> rfl
 refine⟨⟨Ym,rfl,rfl,fun a ha=>?_,fun k hk=>?_,fun k hk=>rfl⟩,?_,rfl⟩
 ·by_cases e:a=m
  ·subst e;rw [Jm hm];exact(X9 a hm).rmv n
  ·rw [Wt e];exact X9 a ha
 ·funext a;rw [key,if_neg (fun z=>hk z.2)]
 ·funext a;rw [key];unfold Yr;by_cases e:a=m
  ·rw [if_pos ⟨e,rfl⟩,if_pos e]
  ·rw [if_neg (fun z=>e z.1),if_neg e]
theorem ZdP (X9:∀ m,m < w.cells.length ->KN (rowOf w m)) {x:Zd} (hx:x.name=n):Upd w (sent w x) n∧Xj (sent w x) n=Xj w n∧Uh (sent w x) n=Uh w n ++ [x]:=by
 refine⟨⟨rfl,rfl,rfl,X9,fun k hk=>rfl,fun k hk=>?_⟩,rfl,?_⟩
 ·unfold Uh sent;rw [List.filter_append]
  have: [x].filter (fun x=>x.name==k)= []:=by
   rw [List.filter_eq_nil_iff];intro y hy;rw [List.mem_singleton.1 hy];simp;exact fun z=>hk (z.symm.trans hx)
  rw [this,List.append_nil]
 ·unfold Uh sent;rw [List.filter_append]
  have: [x].filter (fun x=>x.name==n)= [x]:=by
   rw [List.filter_eq_self];intro y hy;rw [List.mem_singleton.1 hy];simp;exact hx
  rw [this]
theorem Zqc {m:Nat} (hm:m < w.cells.length) (n:Int):look (rowOf w m) n=ZbN n (Xj w n) m:=by
 unfold ZbN;rw [UJ hm];rfl
theorem Mst.put {M:Nat} {cv:CV} {ns ns':List Zd} (Mx:Mst M cv ns) {m:Int} {d:Zb} (h:∀ a:Int,0 <=a ->a < M ->(if a=m then d.out else Qh (cv a)) + YN (XY a) ns' <=Qh (cv a) + YN (XY a) ns):Mst M (Yr cv m (some d)) ns':=by
 intro a a0 a1;have h1:=h a a0 a1;have h2:=Mx a a0 a1;unfold Kt at h2 ⊢;have:Qh (Yr cv m (some d) a)=if a=m then d.out else Qh (cv a):=by unfold Yr;split <;> rfl
 omega
theorem Zcm {m:Int} (R:Rx w (fun a k=>a=m∧k=n) []) (Mx:Mw w []) {m':Nat} (hmm:(m':Int)=m) (hm:m' < w.cells.length) {c:Zb} (hc:Xj w n m=some c):
 Rx (Jf w m' n c) Kn []∧Mw (Jf w m' n c) []:=by
 have hn:= (R.cn n m c hc).1;have hcn:=QJ (QB hc).2;obtain⟨h,H⟩:=R.nm n hn;have H:Nm w.cells.length n (Xj w n) (Uh w n) h:=H;have hMx:=Mx n hn;have hMx:Mst w.cells.length (Xj w n) (Uh w n):=hMx;unfold Jf;cases hu:(c.use || (c.out !=0))
 ·rw [cond_false];have hu1:c.use=false:=by cases q:c.use;rfl;rw [q] at hu;cases hu
  have hu2:c.out=0:=by rw [hu1,Bool.false_or] at hu;simpa using hu
  obtain⟨U,V1,V2⟩:=ZuX (n:=n) hm R.X9
  have hout:∀ a,Qh (Yr (Xj w n) m none a)=Qh (Xj w n a):=by
   intro a;unfold Yr;split
   ·rename_i e;rw [e,hc];simp [Qh,hu2]
   ·rfl
  rw [hmm] at V1
  have ZCV:∀ a d,Xj (cw w m' (rmv n (rowOf w m'))) n a=some d ->d.use=true∨d.out ≠ 0∨Kn a n:=by
   intro a d hd;rw [V1] at hd;unfold Yr at hd;split at hd
   ·cases hd
   ·rename_i e;rcases(R.cn n a d hd).2 with z | z | z
    ·exact .inl z
    ·exact .inr (.inl z)
    ·exact absurd z.1 e
  cases hr:c.root
  ·simp only [cond_false];cases hf:decide (c.from_ >=0)
   ·rw [cond_false];show Rx (cw w m' (rmv n (rowOf w m'))) Kn []∧Mw (cw w m' (rmv n (rowOf w m'))) [];have hf':¬ 0 <=c.from_:=by simpa using hf
    refine⟨R.upd U hn (by simp) (by simp) ZCV (fun a k hk z=>absurd z.2 hk) ⟨h,?_⟩,Mx.upd U (by simp) (by simp) ?_⟩
    ·have:=H.gone hc hu2 hr (ys:= []) (by rw [if_neg hf']);rw [List.append_nil] at this;rw [V1];exact this
    ·intro a a0 a1;have:=hMx a a0 a1;rw [V1];show Qh (Yr (Xj w n) m none a) + YN (XY a) (Uh w n) <=1000000;rw [hout];exact this
   ·rw [cond_true];show Rx (sent (cw w m' (rmv n (rowOf w m'))) ⟨2,c.from_,n,0,c.has⟩) Kn []∧Mw (sent (cw w m' (rmv n (rowOf w m'))) ⟨2,c.from_,n,0,c.has⟩) []
    have hf':0 <=c.from_:=by simpa using hf
    obtain⟨U2,W1,W2⟩:=ZdP (w:=cw w m' (rmv n (rowOf w m'))) (n:=n) (x:= ⟨2,c.from_,n,0,c.has⟩) (fun a ha=>U.X9 a (by rw [← U.len];exact ha)) rfl;rw [V1] at W1;refine⟨R.upd (U.trans U2) hn (by simp) (by simp) (fun a d hd=>ZCV a d (by rw [V1,← W1];exact hd)) (fun a k hk z=>absurd z.2 hk) ⟨h,?_⟩,Mx.upd (U.trans U2) (by simp) (by simp) ?_⟩
    ·have:=H.gone hc hu2 hr (ys:= [⟨2,c.from_,n,0,c.has⟩]) (by rw [if_pos hf']);rw [W1,W2];exact this
    ·intro a a0 a1;have:=hMx a a0 a1;rw [W1,W2];show Qh (Yr (Xj w n) m none a) + YN (XY a) (Uh w n ++ [⟨2,c.from_,n,0,c.has⟩]) <=1000000
     rw [hout,XV,Qv,Zcr rfl];unfold Kt at this;omega
  ·simp only [cond_true];obtain⟨e1,e2⟩:=H.last hc hu2 hr;have hnr:0 <=n∧n < w.names:=by have:=hn;unfold Yx at this;simp at this;exact this.1
   have hnf:n ∉ w.freed:=by
    have:=hn;unfold Yx at this;simp at this;exact fun z=>this.2 n z rfl
   have hmem:∀ x,x ∈ JB n w.freed↔x=n∨x ∈ w.freed:=by
    intro x
    constructor
    ·exact ZdZ
    ·intro hx
     have key:∀ l:List Int,x=n∨x ∈ l ->x ∈ JB n l:=by
      intro l
      induction l with
      | nil=>intro z;rcases z with z | z;subst z;simp [JB];simp at z
      | cons y l ih=>
        intro z;unfold JB;split
        ·simp only [List.mem_cons] at z ⊢;omega
        ·simp only [List.mem_cons] at z ⊢;rcases z with z | z | z
         ·exact .inr (ih (.inl z))
         ·exact .inl z
         ·exact .inr (ih (.inr z))
     exact key _ hx
   have hB:∀ k,Yx ⟨w.cells.set m' (rmv n (rowOf w m')),w.notes,w.names,JB n w.freed⟩ k= (Yx w k && !(k==n)):=by
    intro k;unfold Yx;dsimp only
    have:((JB n w.freed).any fun y=>y==k)= ((w.freed.any fun y=>y==k) || (k==n)):=by
     rw [Bool.eq_iff_iff,Bool.or_eq_true,List.any_eq_true,List.any_eq_true];simp only [beq_iff_eq,hmem]
     constructor
     ·rintro⟨x,z | z,rfl⟩
      ·exact .inr z
      ·exact .inl ⟨x,z,rfl⟩
     ·rintro(⟨x,z,rfl⟩ | z)
      ·exact⟨x,.inr z,rfl⟩
      ·exact⟨n,.inl rfl,z.symm⟩
    rw [this];cases decide (0 <=k) <;> cases decide (k < w.names) <;> cases (w.freed.any fun y=>y==k) <;> cases (k==n) <;> rfl
   have key:∀ k,Xj ⟨w.cells.set m' (rmv n (rowOf w m')),w.notes,w.names,JB n w.freed⟩ k=if k=n then(fun _=>none) else Xj w k:=by
    intro k;by_cases e:k=n
    ·subst e;rw [if_pos rfl];show Xj (cw w m' (rmv k (rowOf w m'))) k=_;rw [V1];funext a;unfold Yr;split
     ·rfl
     ·rename_i z;exact e1 a z
    ·rw [if_neg e];exact U.oc k e
   refine⟨⟨by show 1 <= (w.cells.set _ _).length;rw [List.length_set];exact R.c1,by show(w.cells.set _ _).length <=6;rw [List.length_set];exact R.c6,R.n0,R.n12,?_,?_,?_,?_,?_,?_⟩,?_⟩
   ·have q1:∀ l:List Int,l.Pairwise (· < ·) ->n ∉ l ->(JB n l).Pairwise (· < ·):=by
     intro l
     induction l with
     | nil=>intro _ _;simp [JB]
     | cons y l ih=>
       intro p q;rw [List.pairwise_cons] at p;unfold JB;split
       ·rename_i hyx;rw [List.pairwise_cons,List.pairwise_cons];refine⟨fun z hz=>?_,p⟩;rcases List.mem_cons.1 hz with rfl | hz
        ·exact hyx
        ·have:=p.1 z hz;omega
       ·rename_i hyx;have hne:n ≠ y:=fun z=>q (by rw [z];simp)
        rw [List.pairwise_cons];refine⟨fun z hz=>?_,ih p.2 fun z=>q (by simp [z])⟩;rcases ZdZ hz with rfl | hz
        ·omega
        ·exact p.1 z hz
    exact q1 _ R.fr hnf
   ·intro x hx;rcases(hmem x).1 hx with z | z
    ·subst z;exact hnr
    ·exact R.frr x z
   ·intro a ha;have ha:a < w.cells.length:=by simpa using ha
    exact U.X9 a ha
   ·intro k a d hd;rw [key] at hd;split at hd
    ·cases hd
    ·rename_i hk;obtain⟨q1,q2⟩:=R.cn k a d hd;refine⟨by rw [hB,q1];simp [hk],?_⟩;rcases q2 with z | z | z
     ·exact .inl z
     ·exact .inr (.inl z)
     ·exact absurd z.2 hk
   ·intro x hx;have hx:x ∈ w.notes:=hx
    have hne:x.name ≠ n:=by
     intro z;have:x ∈ Uh w n:=List.mem_filter.2 ⟨hx,by simp [z]⟩;rw [e2] at this;simp at this
    rw [hB,R.nn x (by simpa using hx)];simp [hne]
   ·intro k hk;rw [hB] at hk;simp at hk;obtain⟨h',H'⟩:=R.nm k hk.1;refine⟨h',?_⟩;rw [key,if_neg hk.2];show Nm (w.cells.set _ _).length k (Xj w k) (Uh w k) h';rw [List.length_set];exact H'
   ·intro k hk;rw [hB] at hk;simp at hk;have:=Mx k hk.1;rw [key,if_neg hk.2];show Mst (w.cells.set _ _).length (Xj w k) (Uh w k);rw [List.length_set];exact this
 ·rw [cond_true];refine⟨{R with cn:=fun k a d hd=>?_},Mx⟩;obtain⟨q1,q2⟩:=R.cn k a d hd;refine⟨q1,?_⟩;rcases q2 with z | z | ⟨z1,z2⟩
  ·exact .inl z
  ·exact .inr (.inl z)
  ·subst z1 z2;rw [hc] at hd;cases hd;rw [Bool.or_eq_true] at hu;rcases hu with z | z
   ·exact .inl z
   ·exact .inr (.inl (by simpa using z))
end
end Go.Proofs.Ytekpjgmhkkjhgaa
end
section
namespace Go.Proofs.Ytekpjgmhkkjhgaa
open Go.Lf
section
variable {w w':Za} {n:Int}
theorem Nm.most {M:Nat} {cv:CV} {ns:List Zd} {h:Int} (H:Nm M n cv ns h) (Mx:Mst M cv ns):
 (∀ m c,cv m=some c ->-16 <=c.out∧c.out <=1000000∧0 <=c.has∧c.has <=1000000)∧∀ x ∈ ns,1 <=x.w∧x.w <=1000000:=by
 refine⟨fun m c hc=>?_,fun x hx=>?_⟩
 ·have hr:=H.rng m c hc;have h1:=Mx m hr.1 hr.2;have h2:=H.Znp hc;rw [H.giv,hc] at h1;simp only [Qh] at h1;refine⟨h2.1,by split at h1 <;> omega,?_⟩;rcases H.cel m c hc with z | z
  ·have:=H.Zcw hc z.2.1;have:=H.acc c.from_ z.2.1 z.2.2.1;have:=Mx c.from_ z.2.1 z.2.2.1;omega
  ·omega
 ·have hx':=H.nts x hx;refine⟨hx'.2.2.1,?_⟩;rcases hx'.2.2.2 with z | z | z
  ·have h1:=H.Us z.2.1 hx;rw [Wm z.1,if_pos rfl] at h1;have:=H.acc _ z.2.1 z.2.2;have:=Mx _ z.2.1 z.2.2;omega
  ·have h1:=H.Us hx'.1.1 hx;rw [ZaV z.1,if_pos rfl] at h1;have:=H.acc _ hx'.1.1 hx'.1.2;have:=Mx _ hx'.1.1 hx'.1.2;omega
  ·omega
theorem ZlU {M:Nat} {cv:CV} {ns:List Zd} {h:Int} (H:Nm M n cv ns h) (Mx:Mst M cv ns) (m:Int):-16 <= (ZbN n cv m).out∧(ZbN n cv m).out <=1000000∧0 <= (ZbN n cv m).has∧(ZbN n cv m).has <=1000000:=by
 unfold ZbN;cases e:cv m with
 | none=>simp [ZtW]
 | some c=>exact(H.most Mx).1 m c e
theorem Zdg {fl fl':List Zd} {ex ex':Int ->Int ->Prop} (R:Rx w ex fl) (Mx:Mw w fl) (hn:Yx w n=true) (hfl:∀ x ∈ fl,x.name=n) (Zgh:∀ x ∈ fl',x.name=n) {m:Int} {m':Nat} (hmm:(m':Int)=m) (hm:m' < w.cells.length) {d:Zb} (hd:d.name=n)
 (he:d.use=true∨d.out ≠ 0∨ex' m n) (he2:∀ a k,(k ≠ n∨a ≠ m) ->ex a k ->ex' a k)
 (hN:∃ h,Nm w.cells.length n (Yr (Xj w n) m (some d)) (fl' ++ Uh w n) h)
 (hM:∀ a:Int,0 <=a ->a < w.cells.length ->(if a=m then d.out else Qh (Xj w n a)) + YN (XY a) (fl' ++ Uh w n) <=Qh (Xj w n a) + YN (XY a) (fl ++ Uh w n)):
 Rx (cw w m' (put d (rowOf w m'))) ex' fl'∧Mw (cw w m' (put d (rowOf w m'))) fl'∧Xj (cw w m' (put d (rowOf w m'))) n m=some d:=by
 obtain⟨U,V1,V2⟩:=ZaP hm R.X9 hd;rw [hmm] at V1;refine⟨R.upd U hn hfl Zgh (fun a c hc=>?_) (fun a k hk=>he2 a k (.inl hk)) ?_,Mx.upd U hfl Zgh ?_,by rw [V1,Zco]⟩
 ·rw [V1] at hc;unfold Yr at hc;split at hc
  ·rename_i e;cases hc;rw [e];exact he
  ·rename_i e;rcases(R.cn n a c hc).2 with z | z | z
   ·exact .inl z
   ·exact .inr (.inl z)
   ·exact .inr (.inr (he2 a n (.inr e) z))
 ·rw [V1,V2];exact hN
 ·rw [V1,V2];have:=Mx n hn;rw [Zcy hfl] at this;exact this.put hM
theorem ZuS {fl fl':List Zd} {ex:Int ->Int ->Prop} (R:Rx w ex fl) (Mx:Mw w fl) (hn:Yx w n=true) (hfl:∀ x ∈ fl,x.name=n) (Zgh:∀ x ∈ fl',x.name=n) {y:Zd} (hy:y.name=n)
 (hN:∃ h,Nm w.cells.length n (Xj w n) (fl' ++ (Uh w n ++ [y])) h)
 (hM:∀ a:Int,0 <=a ->a < w.cells.length ->YN (XY a) (fl' ++ (Uh w n ++ [y])) <=YN (XY a) (fl ++ Uh w n)):
 Rx (sent w y) ex fl'∧Mw (sent w y) fl':=by
 obtain⟨U,V1,V2⟩:=ZdP R.X9 hy;refine⟨R.upd U hn hfl Zgh (fun a c hc=>?_) (fun a k hk z=>z) ?_,Mx.upd U hfl Zgh ?_⟩
 ·rw [V1] at hc;exact(R.cn n a c hc).2
 ·rw [V1,V2];exact hN
 ·rw [V1,V2];have:=Mx n hn;rw [Zcy hfl] at this;intro a a0 a1;have h1:=this a a0 a1;have h2:=hM a a0 a1;unfold Kt at h1 ⊢;omega
theorem KQ (m:Nat) (n:Int) (c:Zb):(Jf w m n c).notes.length <=w.notes.length + 1∧(Jf w m n c).cells.length=w.cells.length∧(Jf w m n c).names=w.names∧(c.root=true ->(Jf w m n c).notes.length=w.notes.length):=by
 unfold Jf;cases (c.use || (c.out !=0))
 ·simp only [cond_false,List.length_set,true_and];cases c.root
  ·cases decide (c.from_ >=0) <;> simp
  ·simp
 ·simp
theorem Zhj {m:Nat} (hm:m < w.cells.length) (X9:KN (rowOf w m)) {d:Zb} (hd:d.name=n):look (rowOf (cw w m (put d (rowOf w m))) m) n=d:=UH (ZhA hm X9 hd)
theorem ZtS {x:Zd} (R:Rx w Kn [x]) (Mx:Mw w [x]):
 Rx (UN w x) Kn []∧Mw (UN w x) []∧(UN w x).notes.length <=w.notes.length + 1∧(UN w x).cells.length=w.cells.length∧(UN w x).names=w.names:=by
 have hn:=R.nn x (by simp);obtain⟨n,hxn⟩:∃ n,x.name=n:= ⟨_,rfl⟩
 rw [hxn] at hn;have hfl:∀ y ∈ [x],y.name=n:=by simp [hxn]
 have hno:∀ y ∈ ([]:List Zd),y.name=n:=by simp
 obtain⟨h,H⟩:=R.nm n hn;rw [Zcy hfl] at H;have hMx:=Mx n hn;rw [Zcy hfl] at hMx;have H:Nm w.cells.length n (Xj w n) (x::Uh w n) h:=H;have hx:=H.nts x (by simp);have hxw:= (H.most hMx).2 x (by simp);obtain⟨m',hm'⟩:∃ m',x.ZG.toNat=m':= ⟨_,rfl⟩
 have hmm:(m':Int)=x.ZG:=by omega
 have hm:m' < w.cells.length:=by omega
 have L:=H.look x.ZG;have S:=ZlU H hMx x.ZG;have ZcZ:look (rowOf w m') n=ZbN n (Xj w n) x.ZG:=by rw [Zqc hm,hmm]
 unfold UN;rw [hm',hxn];dsimp only;obtain⟨c,hc⟩:∃ c,ZbN n (Xj w n) x.ZG=c:= ⟨_,rfl⟩
 rw [hc] at L S ZcZ;rw [ZcZ];have hsrt:=R.X9 m' hm;cases k1:(x.kind==1)
 ·rw [cond_false];cases k2:(x.kind==2)
  ·-- the root
   rw [cond_false]
   have k3:x.kind=3:=by
    rcases hx.2.2.2 with z | z | z
    ·rw [z.1] at k1;cases k1
    ·rw [z.1] at k2;cases k2
    ·exact z.1
   have hh:x.ZG=h:=by rcases hx.2.2.2 with z | z | z <;> omega
   rw [YW (n:=c.out + 16) (by omega) (by omega)]
   have hG:∀ a:Int,(if a=x.ZG then(c.out + 16) else Qh (Xj w n a)) + YN (XY a) (Uh w n) <=Qh (Xj w n a) + YN (XY a) (x::Uh w n):=by
    intro a;simp only [YN,ZjR k3];by_cases z:a=x.ZG
    ·rw [if_pos z,if_pos z.symm,z,L.out];omega
    ·rw [if_neg z,if_neg (by omega)];omega
   cases hf:decide (c.from_ >=0)
   ·simp only [cond_false];have hf':¬ 0 <=c.from_:=by simpa using hf
    rw [Zhj hm hsrt (by exact L.nam)];have:=H.home k3 L c.use (ys:= []) (by rw [if_neg hf']);rw [List.append_nil] at this;obtain⟨P1,P2,P3⟩:=Zdg (ex':=fun a k=>a=x.ZG∧k=n) R Mx hn hfl hno hmm hm (d:= ⟨c.name,true,-1,0,c.out + 16,c.use⟩) L.nam (.inr (.inr ⟨rfl,rfl⟩)) (fun a k _ z=>z.elim) ⟨h,this⟩ (fun a _ _=>hG a);obtain⟨Q1,Q2⟩:=Zcm P1 P2 hmm (by rw [Ym];exact hm) P3;have Q3:=KQ (w:=cw w m' (put ⟨c.name,true,-1,0,c.out + 16,c.use⟩ (rowOf w m'))) m' n ⟨c.name,true,-1,0,c.out + 16,c.use⟩;exact⟨Q1,Q2,Q3.1,Q3.2.1.trans Ym,Q3.2.2.1⟩
   ·simp only [cond_true];have hf':0 <=c.from_:=by simpa using hf
    have hce:c.root=false∧0 <=c.from_∧c.from_ < w.cells.length∧c.from_ ≠ x.ZG∧1 <=c.has:=by rcases L.cel with z | z;exact z;omega
    have hb:Jj (cw w m' (put ⟨c.name,true,-1,0,c.out + 16,c.use⟩ (rowOf w m'))) m' n c.from_ c.has=sent (cw w m' (put ⟨c.name,true,-1,0,c.out + 16,c.use⟩ (rowOf w m'))) ⟨2,c.from_,n,0,c.has⟩:=by
     unfold Jj;have:(c.from_ != (m':Int))=true:=by simp;omega
     rw [this,cond_true]
    rw [hb];have hrow:rowOf (sent (cw w m' (put ⟨c.name,true,-1,0,c.out + 16,c.use⟩ (rowOf w m'))) ⟨2,c.from_,n,0,c.has⟩) m'=rowOf (cw w m' (put ⟨c.name,true,-1,0,c.out + 16,c.use⟩ (rowOf w m'))) m':=rfl;rw [hrow,Zhj hm hsrt (by exact L.nam)];have hH:=H.home k3 L c.use (ys:= [⟨2,c.from_,n,0,c.has⟩]) (by rw [if_pos hf']);obtain⟨U,V1,V2⟩:=ZaP (n:=n) hm R.X9 (c:= ⟨c.name,true,-1,0,c.out + 16,c.use⟩) L.nam;obtain⟨U2,W1,W2⟩:=ZdP (w:=cw w m' (put ⟨c.name,true,-1,0,c.out + 16,c.use⟩ (rowOf w m'))) (n:=n) (x:= ⟨2,c.from_,n,0,c.has⟩) (fun a ha=>U.X9 a (by rw [← U.len];exact ha)) rfl;rw [hmm] at V1
    have P1:Rx (sent (cw w m' (put ⟨c.name,true,-1,0,c.out + 16,c.use⟩ (rowOf w m'))) ⟨2,c.from_,n,0,c.has⟩) (fun a k=>a=x.ZG∧k=n) []:=by
     refine R.upd (U.trans U2) hn hfl hno (fun a d hd=>?_) (fun _ _ _ z=>z.elim) ⟨h,?_⟩
     ·rw [W1,V1] at hd;unfold Yr at hd;split at hd
      ·rename_i e;exact .inr (.inr ⟨e,rfl⟩)
      ·rcases(R.cn n a d hd).2 with z | z | z
       ·exact .inl z
       ·exact .inr (.inl z)
       ·exact z.elim
     ·rw [W1,V1,W2,V2];exact hH
    have P2:Mw (sent (cw w m' (put ⟨c.name,true,-1,0,c.out + 16,c.use⟩ (rowOf w m'))) ⟨2,c.from_,n,0,c.has⟩) []:=by
     refine Mx.upd (U.trans U2) hfl hno ?_;rw [W1,V1,W2,V2];refine hMx.put fun a _ _=>?_
     have:=hG a;rw [List.nil_append,XV,Qv,Zcr rfl];show(if a=x.ZG then(c.out + 16) else Qh (Xj w n a)) + _ <=_ + YN (XY a) (x::Uh w n);omega
    have P3:Xj (sent (cw w m' (put ⟨c.name,true,-1,0,c.out + 16,c.use⟩ (rowOf w m'))) ⟨2,c.from_,n,0,c.has⟩) n x.ZG=some ⟨c.name,true,-1,0,c.out + 16,c.use⟩:=by
     rw [W1,V1,Zco]
    obtain⟨Q1,Q2⟩:=Zcm P1 P2 hmm (by show m' < (cw _ _ _).cells.length;rw [Ym];exact hm) P3;have Q3:=KQ (w:=sent (cw w m' (put ⟨c.name,true,-1,0,c.out + 16,c.use⟩ (rowOf w m'))) ⟨2,c.from_,n,0,c.has⟩) m' n ⟨c.name,true,-1,0,c.out + 16,c.use⟩;refine⟨Q1,Q2,?_,Q3.2.1.trans Ym,Q3.2.2.1⟩;rw [Q3.2.2.2 rfl];show(w.notes ++ [_]).length <=_;simp
  ·-- weight
   rw [cond_true];have k2':x.kind=2:=by simpa using k2
   rw [YW (n:=c.out - x.w) (by omega) (by omega)];have:=H.Zjb (.inr k2') L c.use
   obtain⟨P1,P2,P3⟩:=Zdg (ex':=fun a k=>a=x.ZG∧k=n) R Mx hn hfl hno hmm hm (d:= ⟨c.name,c.root,c.from_,c.has,c.out - x.w,c.use⟩) L.nam (.inr (.inr ⟨rfl,rfl⟩)) (fun a k _ z=>z.elim) ⟨h,this⟩ (fun a _ _=>by
    simp only [List.nil_append,List.cons_append,YN,Zcr k2'];by_cases z:a=x.ZG
    ·rw [if_pos z,z,L.out];omega
    ·rw [if_neg z];omega)
   obtain⟨Q1,Q2⟩:=Zcm P1 P2 hmm (by rw [Ym];exact hm) P3;have Q3:=KQ (w:=cw w m' (put ⟨c.name,c.root,c.from_,c.has,c.out - x.w,c.use⟩ (rowOf w m'))) m' n ⟨c.name,c.root,c.from_,c.has,c.out - x.w,c.use⟩;exact⟨Q1,Q2,Q3.1,Q3.2.1.trans Ym,Q3.2.2.1⟩
 ·rw [cond_true];have k1':x.kind=1:=by simpa using k1
  have hvr:0 <=x.via∧x.via < w.cells.length:=by rcases hx.2.2.2 with z | z | z <;> omega
  cases g1:((!c.root && (c.from_==-1)) && (x.via !=x.ZG))
  ·rw [cond_false];cases g2:((!c.root && decide (c.from_ >=0)) && (c.from_==x.via))
   ·rw [cond_false];by_cases hv:x.via=x.ZG
    ·have hb:Jj (cw w m' (put ⟨c.name,c.root,c.from_,c.has,c.out,true⟩ (rowOf w m'))) m' n x.via x.w=cw w m' (put ⟨c.name,c.root,c.from_,c.has,c.out - x.w,true⟩ (rowOf w m')):=by
      unfold Jj;have:(x.via != (m':Int))=false:=by simp;omega
      rw [this,cond_false,Zhj hm hsrt (by exact L.nam),ZEP,Jm hm,Zu0 hsrt (by rfl),YW (n:=c.out - x.w) (by omega) (by omega)]
     rw [hb];have:=H.Zjb (.inl ⟨k1',hv⟩) L true
     obtain⟨P1,P2,P3⟩:=Zdg (ex':=Kn) R Mx hn hfl hno hmm hm (d:= ⟨c.name,c.root,c.from_,c.has,c.out - x.w,true⟩) L.nam (.inl rfl) (fun a k _ z=>z.elim) ⟨h,this⟩ (fun a _ _=>by
      simp only [List.nil_append,List.cons_append,YN,Wn k1'];by_cases z:a=x.ZG
      ·rw [if_pos z,z,L.out];omega
      ·rw [if_neg z];omega)
     exact⟨P1,P2,by show w.notes.length <=_;omega,Ym,rfl⟩
    ·have hce:Xj w n x.ZG=some c:=by
      rcases L.or with z | ⟨z1,z2,z3,z4⟩
      ·exact z
      ·rw [z2,z3] at g1;simp at g1;exact absurd g1 hv
     have hb:Jj (cw w m' (put ⟨c.name,c.root,c.from_,c.has,c.out,true⟩ (rowOf w m'))) m' n x.via x.w=sent (cw w m' (put ⟨c.name,c.root,c.from_,c.has,c.out,true⟩ (rowOf w m'))) ⟨2,x.via,n,0,x.w⟩:=by
      unfold Jj;have:(x.via != (m':Int))=true:=by simp;omega
      rw [this,cond_true]
     rw [hb];have hH:=H.use hce true
     obtain⟨P1,P2,P3⟩:=Zdg (ex':=Kn) R Mx hn hfl hfl hmm hm (d:= ⟨c.name,c.root,c.from_,c.has,c.out,true⟩) L.nam (.inl rfl) (fun a k _ z=>z.elim) ⟨h,hH⟩ (fun a _ _=>by
      by_cases z:a=x.ZG
      ·rw [if_pos z,z,L.out];exact Int.le_refl _
      ·rw [if_neg z];exact Int.le_refl _)
     obtain⟨U,V1,V2⟩:=ZaP (n:=n) hm R.X9 (c:= ⟨c.name,c.root,c.from_,c.has,c.out,true⟩) L.nam;rw [hmm] at V1
     obtain⟨Q1,Q2⟩:=ZuS (n:=n) (y:= ⟨2,x.via,n,0,x.w⟩) P1 P2 (by rw [ZbK U.nms U.fre];exact hn) hfl hno rfl (by
      rw [Ym,V1,V2];exact⟨h,hH.Zqt k1' rfl⟩) (fun a _ _=>by
      rw [V2,List.nil_append,XV,Qv,Zcr rfl];simp only [List.cons_append,List.nil_append,YN,Wn k1'];omega)
     refine⟨Q1,Q2,?_,Ym,rfl⟩;show(w.notes ++ [_]).length <=_;simp
   ·rw [cond_true];simp at g2;rw [YW (n:=c.has + x.w) (by omega) (by omega)];have:=H.Zqs k1' L g2.1.2 g2.2 true
    obtain⟨P1,P2,P3⟩:=Zdg (ex':=Kn) R Mx hn hfl hno hmm hm (d:= ⟨c.name,c.root,c.from_,c.has + x.w,c.out,true⟩) L.nam (.inl rfl) (fun a k _ z=>z.elim) ⟨h,this⟩ (fun a _ _=>by
     simp only [List.nil_append,List.cons_append,YN,Wn k1'];by_cases z:a=x.ZG
     ·rw [if_pos z,z,L.out];omega
     ·rw [if_neg z];omega)
    exact⟨P1,P2,by show w.notes.length <=_;omega,Ym,rfl⟩
  ·rw [cond_true];simp at g1;have:=H.Zs3 k1' L g1.1.1 g1.1.2 g1.2 true
   obtain⟨P1,P2,P3⟩:=Zdg (ex':=Kn) R Mx hn hfl hno hmm hm (d:= ⟨c.name,c.root,x.via,x.w,c.out,true⟩) L.nam (.inl rfl) (fun a k _ z=>z.elim) ⟨h,this⟩ (fun a _ _=>by
    simp only [List.nil_append,List.cons_append,YN,Wn k1'];by_cases z:a=x.ZG
    ·rw [if_pos z,z,L.out];omega
    ·rw [if_neg z];omega)
   exact⟨P1,P2,by show w.notes.length <=_;omega,Ym,rfl⟩
def ZbG (w:Za) (k:Nat):Za:= ⟨w.cells,w.notes.take k ++ w.notes.drop (k + 1),w.names,w.freed⟩
theorem ZyD (R:Rt w) {k:Nat} {x:Zd} (hk:w.notes[k]? =some x):Rx (ZbG w k) Kn [x]∧Mw (ZbG w k) [x]:=by
 obtain⟨hkl,hkx⟩:=List.getElem?_eq_some_iff.1 hk
 have Ziu:w.notes=w.notes.take k ++ x::w.notes.drop (k + 1):=by
  rw [← hkx,← List.drop_eq_getElem_cons hkl,List.take_append_drop]
 obtain⟨R0,M0⟩:=R.rx
 have hp:∀ n,(Uh w n).Perm (flN n [x] ++ Uh (ZbG w k) n):=by
  intro n;unfold Uh ZbG flN
  conv=>lhs;rw [Ziu]
  rw [List.filter_append,List.filter_append,List.filter_cons,List.filter_cons];split
  ·exact List.perm_middle
  ·exact List.Perm.refl _
 have hmem:∀ y ∈ [x] ++ (ZbG w k).notes,y ∈ w.notes:=by
  intro y hy;rw [Ziu];simp only [ZbG,List.mem_append,List.mem_cons,List.mem_singleton,List.not_mem_nil,or_false] at hy ⊢;rcases hy with z | z | z
  ·exact .inr (.inl z)
  ·exact .inl z
  ·exact .inr (.inr z)
 refine⟨{R0 with nn:=fun y hy=>R0.nn y (by simpa using hmem y hy),nm:=fun n hn=>?_},fun n hn=>?_⟩
 ·obtain⟨h,H⟩:=R0.nm n hn;exact⟨h,H.perm (hp n)⟩
 ·have:=M0 n hn;intro a a0 a1;have:=this a a0 a1;unfold Kt at this ⊢;rw [← ZeI (hp n)];exact this
theorem ZtT (R:Rt w) {k:Nat} {x:Zd} (hk:w.notes[k]? =some x):Rt (UN (ZbG w k) x)∧(UN (ZbG w k) x).cells.length=w.cells.length∧(UN (ZbG w k) x).names=w.names:=by
 obtain⟨R0,M0⟩:=ZyD R hk;obtain⟨q1,q2,q3,q4,q5⟩:=ZtS R0 M0;obtain⟨hkl,_⟩:=List.getElem?_eq_some_iff.1 hk;refine⟨q1.rt q2 ?_,q4,q5⟩
 have:(ZbG w k).notes.length=w.notes.length - 1:=by
  unfold ZbG;simp;omega
 have:=R.nts;omega
end
end Go.Proofs.Ytekpjgmhkkjhgaa
end
section
namespace Go.Proofs.Ytekpjgmhkkjhgaa
open Go.Lf
theorem Zjj (K:Nat):∀ {r:Row},KN r ->r.filter (fun c=>decide (c.name < ((K + 1:Nat):Int)))=r.filter (fun c=>decide (c.name < (K:Int))) ++ (KL r K).toList
 | [],_=>rfl
 | d::r,s=>by
   have hh:=s.head;rw [Y5];by_cases h1:d.name < (K:Int)
   ·rw [List.filter_cons_of_pos (by simp;omega),List.filter_cons_of_pos (by simpa using h1),if_neg (by omega),Zjj K s.tail];rfl
   ·have h3:r.filter (fun c=>decide (c.name < (K:Int)))= []:=by
     rw [List.filter_eq_nil_iff];intro c hc;have:=hh c hc;simp;omega
    have h4:r.filter (fun c=>decide (c.name < ((K + 1:Nat):Int)))= []:=by
     rw [List.filter_eq_nil_iff];intro c hc;have:=hh c hc;simp;omega
    rw [List.filter_cons_of_neg (p:=fun c:Zb=>decide (c.name < (K:Int))) (by simpa using h1),h3];by_cases h2:d.name= (K:Int)
    ·rw [List.filter_cons_of_pos (by simp;omega),h4,if_pos h2];rfl
    ·rw [List.filter_cons_of_neg (by simp;omega),h4,if_neg h2,Zhz (by intro c hc;have:=hh c hc;omega)];rfl
def ZiN (a:Int) (c:Zb) (s:List (List Zb)):List (List Zb):=s.set a.toNat ((s[a.toNat]?.getD []) ++ [c])
section
variable {w:Za} {st:Store}
theorem ZoB {m:Nat} (X9:KN (rowOf w m)) (hn:∀ c ∈ rowOf w m,0 <=c.name) {s:List (List Zb)} (hs:s[m]? =some []) (K:Nat):
 (List.range K).foldl (fun s n=>Je w ZiN m n s) s=s.set m ((rowOf w m).filter fun c=>decide (c.name < (K:Int))):=by
 have hm:m < s.length:= (List.getElem?_eq_some_iff.1 hs).1
 induction K with
 | zero=>
   have:(rowOf w m).filter (fun c=>decide (c.name < ((0:Nat):Int)))= []:=by
    rw [List.filter_eq_nil_iff];intro c hc;have:=hn c hc;simp;omega
   rw [this,set_self hs];rfl
 | succ K ih=>
   rw [List.range_succ,List.foldl_append,ih];simp only [List.foldl_cons,List.foldl_nil];rw [Zjj K X9];unfold Je;rw [X0];cases hf:KL (rowOf w m) (K:Int) with
   | none=>simp
   | some c=>
     dsimp only;unfold ZiN;rw [Int.toNat_natCast,List.getElem?_set_self hm,List.set_set]
     rfl
theorem ZoA {N:Nat} (X9:∀ m,m < w.cells.length ->KN (rowOf w m)) (hn:∀ m,m < w.cells.length ->∀ c ∈ rowOf w m,0 <=c.name∧c.name < (N:Int)):
 (List.range w.cells.length).foldl (fun s m=>(List.range N).foldl (fun s n=>Je w ZiN m n s) s) (List.replicate w.cells.length [])=w.cells:=by
 have key:∀ M,M <=w.cells.length ->((List.range M).foldl (fun s m=>(List.range N).foldl (fun s n=>Je w ZiN m n s) s) (List.replicate w.cells.length [])).length=w.cells.length∧
  ∀ i,i < w.cells.length ->((List.range M).foldl (fun s m=>(List.range N).foldl (fun s n=>Je w ZiN m n s) s) (List.replicate w.cells.length []))[i]? =some (if i < M then rowOf w i else []):=by
  intro M
  induction M with
  | zero=>intro _;simp;intro i hi;simp [hi]
  | succ M ih=>
    intro hM;obtain⟨i1,i2⟩:=ih (by omega);rw [List.range_succ,List.foldl_append];simp only [List.foldl_cons,List.foldl_nil];rw [ZoB (X9 M (by omega)) (fun c hc=>(hn M (by omega) c hc).1) (by rw [i2 M (by omega),if_neg (by omega)])]
    have hfull:(rowOf w M).filter (fun c=>decide (c.name < (N:Int)))=rowOf w M:=by
     rw [List.filter_eq_self];intro c hc;simpa using (hn M (by omega) c hc).2
    rw [hfull];refine⟨by rw [List.length_set,i1],fun i hi=>?_⟩;by_cases e:i=M
    ·subst e;rw [List.getElem?_set_self (by rw [i1];exact hi),if_pos (by omega)]
    ·rw [List.getElem?_set_ne (fun z=>e z.symm),i2 i hi];congr 1;by_cases z:i < M
     ·rw [if_pos z,if_pos (by omega)]
     ·rw [if_neg z,if_neg (by omega)]
 obtain⟨k1,k2⟩:=key w.cells.length (Nat.le_refl _);apply List.ext_getElem?;intro i;by_cases hi:i < w.cells.length
 ·rw [k2 i hi,if_pos hi,Jl hi]
 ·rw [List.getElem?_eq_none (by omega),List.getElem?_eq_none (by omega)]
theorem Szd.ZjM (n12:w.names <=12) {m:Nat} (X9:KN (rowOf w m)) (hn:∀ c ∈ rowOf w m,0 <=c.name∧c.name < w.names):(rowOf w m).length <=12:=by
 have h0:((rowOf w m).map fun c=>c.name).Pairwise (· < ·):=by rw [List.pairwise_map];exact X9
 by_cases e:0 <=w.names
 ·have:=ZaE (b:=w.names) (a:=0) h0 (by
   intro x hx;obtain⟨c,hc,rfl⟩:=List.mem_map.1 hx;exact hn c hc) e
  rw [List.length_map] at this;omega
 ·cases h:rowOf w m with
  | nil=>simp
  | cons c r=>have:=hn c (by rw [h];simp);omega
theorem ZuR {F:Nat} (hF:1000 <=F) (sm:Small w) (sz:Szd w) (so:X8 w st) (X9:∀ m,m < w.cells.length ->KN (rowOf w m)) (hn:∀ m,m < w.cells.length ->∀ c ∈ rowOf w m,0 <=c.name∧c.name < w.names):ZhP F st=some w:=by
 have hc:=sz.c6;have hno:=sm.notes;have hfr:=sm.freed;have h0:=sz.n0;have h12:=sz.n12;unfold ZhP Zn6 Zn5 mkL;rw [so.m,so.notes,so.freed]
 have hb:(decide (0 <= (w.cells.length:Int)) && (decide ((w.cells.length:Int) <= (w.cells.length:Int)) && Nat.ble (24 * ((w.cells.length:Int)).toNat) 100000))=true:=by
  rw [Bool.and_eq_true,Bool.and_eq_true];refine⟨by simp,by simp,Nat.ble_eq_true_of_le (by omega)⟩
 rw [hb,cond_true,Option.bind_some,QD (by simp only [List.length_nil];omega) (by decide),QD (by simp only [List.length_nil];omega) (by decide)];simp only [Option.bind_some,List.nil_append,Int.toNat_natCast]
 obtain⟨h1,_⟩:=Zlb hF sm sz so (z:=Zb.mk 0 false 0 0 0 false) (fun i (s:List (List Zb))=>s.length=w.cells.length∧∀ r ∈ s,r.length <=i) (fun i s h=>⟨h.1,fun r hr=>Nat.le_succ_of_le (h.2 r hr)⟩) (E:=Zfg st w.notes w.freed) (B1:=Zky F st w.notes w.freed) (B2:=Zkx st w.notes w.freed)
  (Y:=fun a c s k=>(Yb s a).bind fun x66=>(app 48 x66 [c]).bind fun z74=>(Yb s a).bind fun x78=>k (JI s a z74)) ZiN (fun v s next=>by simp only [Zky]) (fun v0 next v s nx=>by
    simp only [Zkx];cases decide (v < st.names)
    ·rfl
    ·simp only [cond_true];rfl) (fun i a c s k ha hi hs=>by
    have hg:s[a]? =some (s[a]'(by omega)):=by simp
    have hl:(s[a]'(by omega)).length <=i:=hs.2 _ (List.getElem_mem _)
    have hset:JI s (a:Int) (s[a]'(by omega) ++ [c])=ZiN a c s:=by
     unfold JI ZiN;rw [Int.toNat_natCast,hg];rfl
    rw [Yt,hg,Option.bind_some,QD (by simp;omega) (by decide),Option.bind_some,Option.bind_some,hset];refine⟨rfl,?_,fun r hr=>?_⟩
    ·unfold ZiN;rw [List.length_set];exact hs.1
    ·unfold ZiN at hr;rcases List.mem_or_eq_of_mem_set hr with z | z
     ·exact Nat.le_succ_of_le (hs.2 r z)
     ·rw [z,Int.toNat_natCast,hg];simp;omega) (List.replicate w.cells.length []) ⟨by simp,by
    intro r hr;rw [List.mem_replicate] at hr;rw [hr.2];simp⟩
 have:=ZoA (w:=w) X9 (N:=w.names.toNat) (fun m hm c hc=>by have:=hn m hm c hc;omega);rw [h1,this];unfold Zfg;rw [so.n]
theorem Rt.small (R:Rt w):Small w:=by
 have:=R.c6;have:=R.nts;have:=R.Zjg;have:=R.n12;refine⟨by omega,fun r hr=>?_,by omega,by omega⟩;obtain⟨m,hm⟩:=List.getElem?_of_mem hr;have hml:= (List.getElem?_eq_some_iff.1 hm).1;have e:r=rowOf w m:=by have:=Jl hml;rw [hm] at this;exact Option.some.inj this
 have:=Szd.ZjM R.n12 (R.X9 m hml) (fun c hc=>by have:= (R.cn m hml c hc).1;unfold Yx at this;simp at this;exact this.1);rw [e];omega
theorem Rt.names (R:Rt w):∀ m,m < w.cells.length ->∀ c ∈ rowOf w m,0 <=c.name∧c.name < w.names:=fun m hm c hc=>by
 have:= (R.cn m hm c hc).1;unfold Yx at this;simp at this;exact this.1
theorem Rt.shut {F:Nat} (hF:1000 <=F) (R:Rt w) (so:X8 w st):ZhP F st=some w:=ZuR hF R.small R.shp.szd so R.X9 R.names
theorem Rt.open_ {F:Nat} (hF:1000 <=F) (R:Rt w):∃ st,ZhJ F w=some st∧X8 w st∧UK st.cells:=by
 obtain⟨cs,q1,q2⟩:=ZoV hF R.small R.shp;obtain⟨cs',q3,q4⟩:=Zu3 hF R.small;rw [q1] at q3;have:cs=cs':=congrArg Store.cells (Option.some.inj q3);subst this;exact⟨_,q1,⟨rfl,rfl,rfl,rfl,q2⟩,q4⟩
theorem Rt.copy {F:Nat} (hF:1000 <=F) (R:Rt w) (so:X8 w st):∃ st',Ztf F st=some st'∧X8 w st'∧UK st'.cells:=by
 obtain⟨st',q1,q2,q3⟩:=R.open_ hF;refine⟨st',?_,q2,q3⟩;unfold Ztf;rw [R.shut hF so,Option.bind_some,q1];rfl
end
end Go.Proofs.Ytekpjgmhkkjhgaa
end
section
namespace Go.Proofs.Ytekpjgmhkkjhgaa
open Go.Lf
def XE (d:Zm) (M:Int):Bool:=
 bif d.Xa==1 then(((decide (d.at_ >=0)) && (decide (d.at_ < M))) && (d.name==0)) && (d.ZG==0)
 else bif(d.Xa==2 || d.Xa==4) then(((decide (d.at_ >=0)) && (decide (d.at_ < M))) && ((decide (d.ZG >=0)) && (decide (d.ZG < M)))) && ((d.at_ !=d.ZG) && decide (d.name >=0))
 else bif d.Xa==3 then(((decide (d.at_ >=0)) && (decide (d.at_ < M))) && (decide (d.name >=0))) && (d.ZG==0)
 else(((d.Xa==5) && (decide (d.at_ >=0))) && (d.name==0)) && (d.ZG==0)
theorem Zji (d:Zm) (M:Int):Zoa d M=some (XE d M):=by
 unfold Zoa XE ZhK;generalize (d.Xa==1)=b1;generalize (d.Xa==2)=b2;generalize (d.Xa==3)=b3;generalize (d.Xa==4)=b4;generalize (d.Xa==5)=b5;cases b1 <;> cases b2 <;> cases b3 <;> cases b4 <;> cases decide (d.at_ >=0) <;> cases decide (d.at_ < M) <;> simp [Bool.and_assoc]
theorem ZbU {d:Zm} {M:Int} (h:XE d M=true):
 (d.Xa=1∧0 <=d.at_∧d.at_ < M)∨((d.Xa=2∨d.Xa=4)∧(0 <=d.at_∧d.at_ < M)∧(0 <=d.ZG∧d.ZG < M)∧d.at_ ≠ d.ZG∧0 <=d.name)∨(d.Xa=3∧(0 <=d.at_∧d.at_ < M)∧0 <=d.name)∨(d.Xa=5∧0 <=d.at_):=by
 unfold XE at h;by_cases k1:d.Xa=1
 ·simp [k1] at h;exact .inl ⟨k1,h.1.1⟩
 ·by_cases k2:d.Xa=2
  ·simp [k2] at h;exact .inr (.inl ⟨.inl k2,h.1.1,h.1.2,h.2.1,h.2.2⟩)
  ·by_cases k4:d.Xa=4
   ·simp [k4] at h;exact .inr (.inl ⟨.inr k4,h.1.1,h.1.2,h.2.1,h.2.2⟩)
   ·by_cases k3:d.Xa=3
    ·simp [k3] at h;exact .inr (.inr (.inl ⟨k3,h.1.1,h.1.2⟩))
    ·simp [k1,k2,k3,k4] at h;exact .inr (.inr (.inr ⟨h.1.1.1,h.1.1.2⟩))
def XO (w:Za) (d:Zm):Za:=
 bif d.Xa==1 then Zgd w d.at_.toNat
 else bif d.Xa==2 then Zgc w d d.at_.toNat (look (rowOf w d.at_.toNat) d.name)
 else bif d.Xa==5 then UN (ZbG w d.at_.toNat) (w.notes[d.at_.toNat]?.getD ⟨0,0,0,0,0⟩)
 else bif d.Xa==3 then Zjp w d.at_.toNat d.name (look (rowOf w d.at_.toNat) d.name)
 else goW w d d.at_.toNat (look (rowOf w d.at_.toNat) d.name)
section
variable {w:Za} {n:Int}
theorem Rx.range {ex:Int ->Int ->Prop} {fl:List Zd} (R:Rx w ex fl):∀ m,m < w.cells.length ->∀ c ∈ rowOf w m,0 <=c.name∧c.name < w.names:=fun m hm c hc=>by
 have:= (R.cn c.name m c (by rw [UJ hm];exact Zn0 (R.X9 m hm) hc)).1;unfold Yx at this;simp at this;exact this.1
theorem Rx.small {ex:Int ->Int ->Prop} {fl:List Zd} (R:Rx w ex fl) (hl:w.notes.length < 900):Small w:=by
 have:=R.c6;have:=R.n12;have hf:=ZaE R.fr R.frr R.n0;refine⟨by omega,fun r hr=>?_,by omega,by omega⟩;obtain⟨m,hm⟩:=List.getElem?_of_mem hr;have hml:= (List.getElem?_eq_some_iff.1 hm).1;have e:r=rowOf w m:=by have:=Jl hml;rw [hm] at this;exact Option.some.inj this
 have:=Szd.ZjM R.n12 (R.X9 m hml) (R.range m hml);rw [e];omega
theorem Rx.szd {ex:Int ->Int ->Prop} (R:Rx w ex []):Szd w:= ⟨R.c6,R.n0,R.n12,fun x hx=>by
 have hn:=R.nn x (by simpa using hx);obtain⟨h,H⟩:=R.nm _ hn;have:= (H.nts x (List.mem_append_right _ (List.mem_filter.2 ⟨hx,by simp⟩))).2.2.2;rcases this with z | z | z
 ·exact .inl z.1
 ·exact .inr (.inl z.1)
 ·exact .inr (.inr z.1)⟩
theorem Rt.Qz (R:Rt w) {m:Nat} (hm:m < w.cells.length) {c:Zb} (hc:KL (rowOf w m) n=some c):look (rowOf w m) n=c∧Xj w n m=some c∧Yx w n=true:=by
 have e:Xj w n m=some c:=by rw [UJ hm];exact hc
 exact⟨UH hc,e,(R.rx.1.cn n m c e).1⟩
theorem Rx.Zdi (R:Rx w Kn []) (Mx:Mw w []):∀ k a c,Xj w k a=some c ->c.out <=1000016:=fun k a c hc=>by
 have hn:= (R.cn k a c hc).1;obtain⟨h,H⟩:=R.nm k hn;have:= (H.most (Mx k hn)).1 a c hc;omega
theorem Zdf (R:Rt w) (hn:Yx w n=true) {m:Nat} (hm:m < w.cells.length) {d:Zb} (hd:d.name=n) {y:Zd} (hy:y.name=n) (hu:d.use=true∨d.out ≠ 0)
 (hN:∃ h,Nm w.cells.length n (Yr (Xj w n) m (some d)) (Uh w n ++ [y]) h):Rx (sent (cw w m (put d (rowOf w m))) y) Kn []:=by
 obtain⟨R0,M0⟩:=R.rx;obtain⟨U,V1,V2⟩:=ZaP hm R.X9 hd;obtain⟨U2,W1,W2⟩:=ZdP (w:=cw w m (put d (rowOf w m))) (n:=n) (x:=y) (fun a ha=>U.X9 a (by rw [← U.len];exact ha)) hy;refine R0.upd (U.trans U2) hn (by simp) (by simp) (fun a c hc=>?_) (fun _ _ _ z=>z) ?_
 ·rw [W1,V1] at hc;unfold Yr at hc;split at hc
  ·cases hc;exact hu.elim .inl fun z=>.inr (.inl z)
  ·exact(R0.cn n a c hc).2
 ·rw [W1,W2,V1,V2];exact hN
theorem Zyw (R:Rt w) {d:Zm} {m:Nat} (hm:m < w.cells.length) (hat:d.at_= (m:Int)) (hto:0 <=d.ZG∧d.ZG < (w.cells.length:Int)) {c:Zb} (hc:KL (rowOf w m) d.name=some c) (hu:c.use=true):Rx (Zgc w d m c) Kn []:=by
 obtain⟨_,e,hn⟩:=R.Qz hm hc;obtain⟨h,H,Mx⟩:=R.nm _ hn;have S:= (H.most Mx).1 _ c e;have hcn:=J8 hc;unfold Zgc;cases hb:(decide (c.from_ >=0) && decide (c.has >=2))
 ·rw [cond_false,YW (n:=c.out + 16) (by omega) (by omega)];exact Zdf R hn hm (d:= ⟨c.name,c.root,c.from_,c.has,c.out + 16,c.use⟩) (y:= ⟨1,d.ZG,d.name,d.at_,16⟩) hcn rfl (.inl hu) ⟨h,H.ZuV (w:=16) e hto (by decide) (by rw [hat])⟩
 ·rw [cond_true];simp at hb;have e1:c.has.tdiv 2=c.has / 2:=Int.tdiv_eq_ediv_of_nonneg (by omega);rw [e1,YW (n:=c.has / 2) (by omega) (by omega),YW (n:=c.has - c.has / 2) (by omega) (by omega)];exact Zdf R hn hm (d:= ⟨c.name,c.root,c.from_,c.has - c.has / 2,c.out,c.use⟩) (y:= ⟨1,d.ZG,d.name,c.from_,c.has / 2⟩) hcn rfl (.inl hu) ⟨h,H.ZuT (w:=c.has / 2) e hb.1 hto (by omega) (by omega) rfl⟩
theorem ZEA (R:Rt w) {d:Zm} {m:Nat} (hm:m < w.cells.length) (hat:d.at_= (m:Int)) (hto:0 <=d.ZG∧d.ZG < (w.cells.length:Int)) (hne:d.at_ ≠ d.ZG) {c:Zb} (hc:KL (rowOf w m) d.name=some c) (hr:c.root=true):Rx (goW w d m c) Kn []:=by
 obtain⟨_,e,hn⟩:=R.Qz hm hc;obtain⟨h,H,Mx⟩:=R.nm _ hn;have hcn:=J8 hc;unfold goW;have hu:c.use=true∨c.out ≠ 0:= (R.cn m hm c (Zec hc)).2;exact Zdf R hn hm (d:=goC c d.ZG) hcn rfl hu ⟨d.ZG,H.go e hr hto (by omega) rfl⟩
theorem ZkW (R:Rt w) {m:Nat} (hm:m < w.cells.length) {c:Zb} (hc:KL (rowOf w m) n=some c):Rx (Zjp w m n c) Kn []∧Mw (Zjp w m n c) []:=by
 obtain⟨_,e,hn⟩:=R.Qz hm hc;obtain⟨h,H,Mx⟩:=R.nm _ hn;obtain⟨R0,M0⟩:=R.rx;have hcn:=J8 hc
 obtain⟨P1,P2,P3⟩:=Zdg (n:=n) (fl:= []) (fl':= []) (m:=m) (m':=m) (ex':=fun a k=>a= (m:Int)∧k=n) R0 M0 hn (by simp) (by simp) rfl hm (d:=Zc4 c) hcn (.inr (.inr ⟨rfl,rfl⟩)) (fun a k _ z=>z.elim) ⟨h,H.use e false⟩ (fun a _ _=>by
  by_cases z:a= (m:Int)
  ·rw [if_pos z,z,e];exact Int.le_refl _
  ·rw [if_neg z];exact Int.le_refl _)
 unfold Zjp;exact Zcm P1 P2 rfl (by rw [Ym];exact hm) P3
theorem ZyH (R:Rt w) {m:Nat} (hm:m < w.cells.length) (hlt:w.names < 12):Rx (Zgd w m) Kn []:=by
 have hn0:=R.n0;obtain⟨R0,M0⟩:=R.rx;obtain⟨U,V1,V2⟩:=ZaP (w:=w) (n:=w.names) hm R.X9 (c:=ZjU w) rfl;have hnm:(Zgd w m).names=w.names + 1:=YW (by omega) (by omega)
 have hB:∀ k,Yx (Zgd w m) k= (Yx w k || (k==w.names)):=by
  intro k;unfold Yx;rw [hnm];show(decide (0 <=k) && decide (k < w.names + 1) && !(w.freed.any fun y=>y==k))=_;by_cases e:k=w.names
  ·have:(w.freed.any fun y=>y==k)=false:=by
    rw [List.any_eq_false];intro y hy;have:=R.frr y hy;simp;omega
   rw [this];simp [e];omega
  ·have:decide (k < w.names + 1)=decide (k < w.names):=decide_eq_decide.2 (by omega);rw [this];simp [e]
 have hno:¬ Yx w w.names=true:=by unfold Yx;simp
 have ZHm:Xj w w.names=fun _=>none:=by
  funext a;cases e:Xj w w.names a with
  | none=>rfl
  | some c=>exact absurd (R0.cn _ _ _ e).1 hno
 have hns0:Uh w w.names= []:=by
  unfold Uh;rw [List.filter_eq_nil_iff];intro x hx;have:=R.nn x hx;intro z;have z:x.name=w.names:=by simpa using z
  rw [z] at this;exact hno this
 have ZCW:Xj (Zgd w m) w.names=Yr (fun _=>none) m (some (ZjU w)):=by
  show Xj (cw w m (put (ZjU w) (rowOf w m))) w.names=_;rw [V1,ZHm]
 have hlen:(Zgd w m).cells.length=w.cells.length:=Ym;refine⟨by rw [hlen];exact R.c1,by rw [hlen];exact R.c6,by rw [hnm];omega,by rw [hnm];omega,R.fr,fun x hx=>?_,fun a ha=>?_,fun k a c hc=>?_,fun x hx=>?_,fun k hk=>?_⟩
 ·have:=R.frr x hx;rw [hnm];omega
 ·exact U.X9 a (by rw [hlen] at ha;exact ha)
 ·rw [hB];by_cases e:k=w.names
  ·subst e;rw [ZCW] at hc;unfold Yr at hc;split at hc
   ·cases hc;exact⟨by simp,.inl rfl⟩
   ·cases hc
  ·have:Xj (Zgd w m) k=Xj w k:=U.oc k e;rw [this] at hc;have:=R0.cn k a c hc;exact⟨by rw [this.1];rfl,this.2⟩
 ·have hx:x ∈ w.notes:=hx;rw [hB,R.nn x hx];rfl
 ·rw [hlen];by_cases e:k=w.names
  ·subst e;refine⟨m,?_⟩;rw [ZCW];show Nm _ _ _ ([] ++ Uh w w.names) _;rw [hns0];exact Nm.fresh ⟨by omega,by omega⟩
  ·rw [hB] at hk;have hk:Yx w k=true:=by simpa [e] using hk
   obtain⟨h,H⟩:=R0.nm k hk;refine⟨h,?_⟩;have:Xj (Zgd w m) k=Xj w k:=U.oc k e;rw [this];exact H
theorem Zu6 (R:Rt w) {m:Nat} (hm:m < w.cells.length):∀ k a c,Xj (Zgd w m) k a=some c ->c.out <=1000016:=fun k a c hc=>by
 obtain⟨R0,M0⟩:=R.rx;obtain⟨U,V1,V2⟩:=ZaP (w:=w) (n:=w.names) hm R.X9 (c:=ZjU w) rfl;have hc:Xj (cw w m (put (ZjU w) (rowOf w m))) k a=some c:=hc;by_cases e:k=w.names
 ·subst e;rw [V1] at hc;unfold Yr at hc;split at hc
  ·cases hc;show(0:Int) <=_;omega
  ·exact R0.Zdi M0 _ _ _ hc
 ·rw [U.oc k e] at hc;exact R0.Zdi M0 _ _ _ hc
theorem ZgV (x:Zd):(sent w x).notes.length=w.notes.length + 1:=by unfold sent;simp
theorem ZrE (d:Zm) (m:Nat) (c:Zb):(Zgc w d m c).notes.length=w.notes.length + 1∧(Zgc w d m c).cells.length=w.cells.length∧(Zgc w d m c).names=w.names:=by
 unfold Zgc;cases (decide (c.from_ >=0) && decide (c.has >=2))
 ·rw [cond_false];exact⟨ZgV _,Ym,rfl⟩
 ·rw [cond_true];exact⟨ZgV _,Ym,rfl⟩
theorem Wd {d:Zm} {m:Nat} (h1:d.Xa ≠ 1) (h5:d.Xa ≠ 5) (he:Qj w d m=0):∃ c,KL (rowOf w m) d.name=some c∧(d.Xa=4 ->c.root=true)∧(d.Xa ≠ 4 ->c.use=true):=by
 unfold Qj at he;have b1:(d.Xa==1)=false:=by simp [h1]
 have b5:(d.Xa==5)=false:=by simp [h5]
 rw [b1,b5] at he;simp only [cond_false] at he;cases hf:KL (rowOf w m) d.name with
 | none=>rw [hf] at he;cases he
 | some c=>
   rw [hf] at he;refine⟨c,rfl,fun h4=>?_,fun h4=>?_⟩
   ·rw [h4] at he;dsimp only at he;cases hr:c.root with
    | true=>rfl
    | false=>rw [hr] at he;simp at he
   ·have b4:(d.Xa==4)=false:=by simp [h4]
    rw [b4] at he;dsimp only at he;cases hr:c.use with
    | true=>rfl
    | false=>rw [hr] at he;simp at he
theorem ZbB (R:Rt w) {m:Nat} (hm:m < w.cells.length) {d:Zb} (hd:d.name=n) {y:Zd} (ho:d.out <=1000016):∀ k a c,Xj (sent (cw w m (put d (rowOf w m))) y) k a=some c ->c.out <=1000016:=fun k a c hc=>by
 obtain⟨R0,M0⟩:=R.rx;obtain⟨U,V1,V2⟩:=ZaP hm R.X9 hd;have hc:Xj (cw w m (put d (rowOf w m))) k a=some c:=hc;by_cases e:k=n
 ·subst e;rw [V1] at hc;unfold Yr at hc;split at hc
  ·cases hc;exact ho
  ·exact R0.Zdi M0 _ _ _ hc
 ·rw [U.oc k e] at hc;exact R0.Zdi M0 _ _ _ hc
theorem ZuU (R:Rt w) {d:Zm} {m:Nat} (hm:m < w.cells.length) {c:Zb} (hc:KL (rowOf w m) d.name=some c):∀ k a x,Xj (Zgc w d m c) k a=some x ->x.out <=1000016:=by
 obtain⟨_,e,hn⟩:=R.Qz hm hc;obtain⟨h,H,Mx⟩:=R.nm _ hn;have S:= (H.most Mx).1 _ c e;have hcn:=J8 hc;unfold Zgc;cases hb:(decide (c.from_ >=0) && decide (c.has >=2))
 ·rw [cond_false,YW (n:=c.out + 16) (by omega) (by omega)];exact ZbB R hm (d:= ⟨c.name,c.root,c.from_,c.has,c.out + 16,c.use⟩) hcn (by show c.out + 16 <=_;omega)
 ·rw [cond_true];exact ZbB R hm (d:= ⟨c.name,c.root,c.from_,ZV (c.has - ZV (c.has.tdiv 2)),c.out,c.use⟩) hcn (by show c.out <=_;omega)
theorem ZpJ (R:Rt w) {d:Zm} (hf:XE d w.cells.length=true) (he:Qj w d d.at_.toNat=0):
 Rx (XO w d) Kn []∧(XO w d).notes.length <=82∧(XO w d).cells.length=w.cells.length∧(d.Xa ≠ 1 ->(XO w d).names=w.names)∧∀ k a c,Xj (XO w d) k a=some c ->c.out <=1000016:=by
 have hnl:=R.nts;obtain⟨R0,M0⟩:=R.rx;unfold XO;rcases ZbU hf with⟨k,a⟩ | ⟨k,a,t,ne,nm⟩ | ⟨k,a,nm⟩ | ⟨k,a⟩
 ·rw [k];simp only [beq_self_eq_true,cond_true]
  have:w.names < 12:=by
   unfold Qj at he;rw [k] at he;simp only [beq_self_eq_true,cond_true] at he;cases hb:decide (w.names >=12) with
   | true=>rw [hb] at he;cases he
   | false=>simpa using hb
  exact⟨ZyH R (by omega) this,by show w.notes.length <=82;omega,Ym,fun z=>absurd rfl z,fun k a c hc=>Zu6 R (by omega) k a c hc⟩
 ·have hm:d.at_.toNat < w.cells.length:=by omega
  have hat:d.at_= (d.at_.toNat:Int):=by omega
  rcases k with k | k
  ·obtain⟨c,hc,_,hu⟩:=Wd (by omega) (by omega) he;have hl:= (R.Qz hm hc).1;rw [k,hl];simp only [beq_self_eq_true,cond_true,show((2:Int)==1)=false from rfl,cond_false];obtain⟨q1,q2,q3⟩:=ZrE (w:=w) d d.at_.toNat c;exact⟨Zyw R hm hat t hc (hu (by omega)),by omega,q2,fun _=>q3,ZuU R hm hc⟩
  ·obtain⟨c,hc,hr,_⟩:=Wd (by omega) (by omega) he;have hl:= (R.Qz hm hc).1;rw [k,hl];simp only [show((4:Int)==1)=false from rfl,show((4:Int)==2)=false from rfl,show((4:Int)==3)=false from rfl,show((4:Int)==5)=false from rfl,cond_false];refine⟨ZEA R hm hat t ne hc (hr k),?_,Ym,fun _=>rfl,ZbB R hm (d:=goC c d.ZG) (n:=d.name) (show c.name=d.name from J8 hc) (by show c.out <=_;exact R0.Zdi M0 _ _ _ (R.Qz hm hc).2.1)⟩;unfold goW;rw [ZgV];show w.notes.length + 1 <=82;omega
 ·have hm:d.at_.toNat < w.cells.length:=by omega
  obtain⟨c,hc,_,hu⟩:=Wd (by omega) (by omega) he;have hl:= (R.Qz hm hc).1;rw [k,hl];simp only [beq_self_eq_true,cond_true,show((3:Int)==1)=false from rfl,show((3:Int)==2)=false from rfl,show((3:Int)==5)=false from rfl,cond_false];have q:=KQ (w:=cw w d.at_.toNat (put (Zc4 c) (rowOf w d.at_.toNat))) d.at_.toNat d.name (Zc4 c);refine⟨(ZkW R hm hc).1,?_,q.2.1.trans Ym,fun _=>q.2.2.1,(ZkW R hm hc).1.Zdi (ZkW R hm hc).2⟩;have:=q.1;show(Jf _ _ _ _).notes.length <=82;have e:(cw w d.at_.toNat (put (Zc4 c) (rowOf w d.at_.toNat))).notes.length=w.notes.length:=rfl;omega
 ·rw [k];simp only [beq_self_eq_true,cond_true,show((5:Int)==1)=false from rfl,show((5:Int)==2)=false from rfl,cond_false]
  have hlt:d.at_.toNat < w.notes.length:=by
   unfold Qj at he;rw [k] at he;simp only [beq_self_eq_true,cond_true,show((5:Int)==1)=false from rfl,cond_false] at he;cases hb:decide (d.at_ >= (w.notes.length:Int)) with
   | true=>rw [hb] at he;cases he
   | false=>simp at hb;omega
  have hx:w.notes[d.at_.toNat]? =some (w.notes[d.at_.toNat]'hlt):=by simp
  rw [hx];simp only [Option.getD_some];obtain⟨q1,q2,q3⟩:=ZtT R hx;have:=q1.nts;exact⟨q1.rx.1,by show(UN _ _).notes.length <=82;omega,q2,fun _=>q3,q1.rx.1.Zdi q1.rx.2⟩
end
end Go.Proofs.Ytekpjgmhkkjhgaa
end
section
namespace Go.Proofs.Ytekpjgmhkkjhgaa
open Go.Lf
def Zbf (w:Za):Bool:=decide ((w.notes.length:Int) > 80) || (List.range w.cells.length).any fun m=>(List.range w.names.toNat).any fun n=>decide (JK w m n > 1000000)
section
variable {w:Za} {n:Int} {st:Store} {F:Nat}
theorem UK.Wx {κ ν:Type} [DecidableEq κ] {l:List (κ×ν)} (u:UK l) (k:κ) (z:ν):UK (Wx l k z):=by
 unfold Go.Lf.Wx;cases e:Ya l k with
 | some q=>exact u
 | none=>
   have:Go.Lf.YR l k z=l ++ [(k,z)]:=by unfold Go.Lf.YR;rw [e]
   dsimp only;rw [← this];exact u.YR k z
theorem UK.upd {v:Acc} (u:UK v) (k:Ze) (x:Int):UK (upd v k x):= (u.Wx k 0).YR k _
theorem Zse {κ ν:Type} [DecidableEq κ] {l:List (κ×ν)} {k:κ} {x:ν} (h:Xl l k=some x):(k,x) ∈ l:=by
 unfold Xl at h;cases e:Ya l k with
 | none=>rw [e] at h;cases h
 | some q=>
   rw [e] at h;cases h;exact List.mem_of_getElem? (Ko e)
theorem UK.get {κ ν:Type} [DecidableEq κ]:∀ {l:List (κ×ν)},UK l ->∀ {k:κ} {x:ν},(k,x) ∈ l ->Xl l k=some x
 | [],_,_,_,h=>by simp at h
 | p::l,u,k,x,h=>by
   have u':UK l:=by unfold UK at u ⊢;rw [List.map_cons,List.nodup_cons] at u;exact u.2
   have hp:p.1 ∉ l.map (·.1):=by unfold UK at u;rw [List.map_cons,List.nodup_cons] at u;exact u.1
   unfold Xl;rw [Kq];rcases List.mem_cons.1 h with z | z
   ·subst z;simp
   ·have hne:¬ p.1=k:=fun e=>hp (by rw [e];exact List.mem_map_of_mem (f:= (·.1)) z)
    rw [if_neg hne];have:=u'.get z;unfold Xl at this;cases e:Ya l k with
    | none=>rw [e] at this;cases this
    | some q=>rw [e] at this;simpa using this
theorem ZiZ {κ ν:Type} {b:κ ->ν ->Option Bool} (h:∀ k x,∃ p,b k x=some p):∀ l:List (κ×ν),∃ q,Zi0 b l=some q
 | []=>⟨false,rfl⟩
 | x::r=>by
   obtain⟨p,hp⟩:=h x.1 x.2;obtain⟨q,hq⟩:=ZiZ h r;exact⟨p || q,by unfold Zi0;rw [hp,Option.bind_some,hq,Option.bind_some]⟩
theorem ZwS (R:Rx w Kn []) {k:Ze} (hk:¬ ((0 <=k.e0∧k.e0 < (w.cells.length:Int))∧0 <=k.e1∧k.e1 < w.names)):val (Zcg w).1 k=0:=by
 have h0:=R.n0
 have hC:val (UQ w).1 k=0:=by
  unfold UQ;refine Ut (fun q:Acc×Acc=>val q.1 k=0) _ _ (fun q m hm hq=>?_) _ rfl;refine Ut (fun q:Acc×Acc=>val q.1 k=0) _ _ (fun q n hn hq=>?_) _ hq;rw [List.mem_range] at hm hn;unfold Je;cases hc:cellOf w m n with
  | none=>exact hq
  | some c=>
    have hcn:=QJ hc;show val (upd q.1 ⟨m,c.name⟩ c.out) k=0;rw [Wj,if_neg (fun z=>hk (by rw [z];dsimp only;omega))];exact hq
 unfold Zcg;refine Ut (fun q:Acc×Acc=>val q.1 k=0) _ _ (fun q x hx hq=>?_) _ hC;have hn:=R.nn x (by simpa using hx);obtain⟨h,H⟩:=R.nm _ hn;have ht:= (H.nts x (List.mem_append_right _ (List.mem_filter.2 ⟨hx,by simp⟩))).1;have hr:0 <=x.name∧x.name < w.names:=by unfold Yx at hn;simp at hn;exact hn.1
 unfold ZoC;cases (x.kind==1)
 ·cases (x.kind==2)
  ·simp only [cond_false];rw [Wj,if_neg (fun z=>hk (by rw [z];exact⟨ht,hr⟩))];exact hq
  ·exact hq
 ·exact hq
theorem ZAU:UK (Zcg w).1:=by
 have hC:UK (UQ w).1:=by
  unfold UQ;refine Ut (fun q:Acc×Acc=>UK q.1) _ _ (fun q m hm hq=>?_) _ UK.nil;refine Ut (fun q:Acc×Acc=>UK q.1) _ _ (fun q n hn hq=>?_) _ hq;unfold Je;cases hc:cellOf w m n with
  | none=>exact hq
  | some c=>exact hq.upd _ _
 unfold Zcg;refine Ut (fun q:Acc×Acc=>UK q.1) _ _ (fun q x hx hq=>?_) _ hC;unfold ZoC;cases (x.kind==1)
 ·cases (x.kind==2)
  ·exact hq.upd _ _
  ·exact hq
 ·exact hq
theorem Zp7 (hF:1000 <=F) (R:Rx w Kn []) (sm:Small w) (so:X8 w st):Zad F (st.machines,st.names,st.cells,st.notes,st.freed)=some (bif Zbf w then .Jc 3 else .ok st):=by
 have sz:=R.szd;have h0:=R.n0;unfold Zad;dsimp only;rw [so.notes];unfold Zbf;cases hb:decide ((w.notes.length:Int) > 80)
 ·simp only [cond_false,Bool.false_or];have hst:(⟨st.machines,st.names,st.cells,w.notes,st.freed⟩:Store)=st:=by rw [← so.notes]
  rw [hst,ZpQ hF sm sz so,Option.bind_some];obtain⟨q,hq⟩:=ZiZ (b:=Ze8) (fun k x=>by unfold Ze8;cases decide (x > 1000000);exact⟨_,rfl⟩;exact⟨_,rfl⟩) (Zcg w).1;rw [hq,Option.bind_some];obtain⟨_,q2⟩:=Zdq hq
  have:q= ((List.range w.cells.length).any fun m=>(List.range w.names.toNat).any fun n=>decide (JK w m n > 1000000)):=by
   rw [Bool.eq_iff_iff,q2,List.any_eq_true]
   constructor
   ·rintro⟨⟨k,v⟩,hm,hv⟩
    have hv:v > 1000000:=by
     unfold Ze8 at hv;cases hd:decide (v > 1000000) with
     | true=>simpa using hd
     | false=>dsimp only at hv;rw [hd] at hv;cases hv
    have hval:val (Zcg w).1 k=v:=by unfold val;rw [ZAU.get hm];rfl
    by_cases hk:(0 <=k.e0∧k.e0 < (w.cells.length:Int))∧0 <=k.e1∧k.e1 < w.names
    ·refine⟨k.e0.toNat,List.mem_range.2 (by omega),?_⟩;rw [List.any_eq_true];refine⟨k.e1.toNat,List.mem_range.2 (by omega),?_⟩;have:= (Zlf sz (a:=k.e0.toNat) (n:=k.e1.toNat) (by omega) (by omega)).1
     have e:(⟨((k.e0.toNat:Nat):Int),((k.e1.toNat:Nat):Int)⟩:Ze)=k:=by
      cases k;dsimp only at *;congr 1 <;> omega
     rw [e,hval] at this;rw [← this];simpa using hv
    ·rw [ZwS R hk] at hval;omega
   ·rintro⟨m,hm,hn⟩;rw [List.any_eq_true] at hn;obtain⟨n,hn,hg⟩:=hn;rw [List.mem_range] at hm hn;have hg:JK w m n > 1000000:=by simpa using hg
    have:= (Zlf sz (a:=m) (n:=n) hm (by omega)).1;rw [← this] at hg;unfold val at hg;cases e:Xl (Zcg w).1 (⟨(m:Int),(n:Int)⟩:Ze) with
    | none=>rw [e] at hg;simp at hg
    | some v=>
      rw [e] at hg;refine⟨_,Zse e,?_⟩;unfold Ze8;dsimp only;rw [decide_eq_true (by simpa using hg)];rfl
  rw [← this];cases q <;> rfl
 ·rfl
theorem Zt3 {l:List Int} (h:l.Pairwise (· < ·)):Asc l:=h.imp fun z=>Int.le_of_lt z
theorem Rt.ci (R:Rt w) {m:Nat} (hm:m < w.cells.length) {c:Zb} (hc:c ∈ rowOf w m):CI c:=by
 have:= (ZaC (R.WG hm hc)).2.2.2;rcases this with z | z
 ·exact .inl ⟨z.2.1,z.1⟩
 ·exact .inr z
theorem Rt.Zmc (R:Rt w) (h:∃ n,Yx w n=true):w.freed.length <=11:=by
 obtain⟨n,hn⟩:=h;unfold Yx at hn;simp at hn;have h12:=R.n12
 have key:∀ (l:List Int) (a:Int),l.Pairwise (· < ·) ->(∀ x ∈ l,a <=x∧x < w.names) ->n ∉ l ->a <=n ->a + (l.length:Int) + 1 <=w.names:=by
  intro l
  induction l with
  | nil=>intro a _ _ _ h;simp;omega
  | cons x l ih=>
    intro a p hr hx ha;rw [List.pairwise_cons] at p;have h0:=hr x (by simp);have hne:n ≠ x:=fun z=>hx (by rw [z];simp)
    by_cases hlt:n < x
    ·have:=ZaE (l:=l) (a:=x + 1) (b:=w.names) p.2 (fun y hy=>by have h1:=p.1 y hy;have h2:=hr y (by simp [hy]);omega) (by omega);simp only [List.length_cons];omega
    ·have:=ih (x + 1) p.2 (fun y hy=>by have h1:=p.1 y hy;have h2:=hr y (by simp [hy]);omega) (fun z=>hx (by simp [z])) (by omega);simp only [List.length_cons];omega
 have:=key w.freed 0 R.fr R.frr (fun z=>hn.2 n z rfl) hn.1.1;omega
theorem Zp8 (sm:Small w) (k:Nat):Small (ZbG w k):= ⟨sm.cells,sm.rows,by have:=sm.notes;unfold ZbG;simp;omega,sm.freed⟩
end
end Go.Proofs.Ytekpjgmhkkjhgaa
end
section
namespace Go.Proofs.Ytekpjgmhkkjhgaa
open Go.Lf
def ZfH:Za:= ⟨[],[],0,[]⟩
def stepW (w:Za) (d:Zm):Za×Int:=
 bif Qj w d d.at_.toNat==0 then(bif Zbf (XO w d) then(ZfH,3) else(XO w d,0)) else(ZfH,Qj w d d.at_.toNat)
def doW (w:Za) (d:Zm):Za×Int:=bif Kl w && XE d w.cells.length then stepW w d else(ZfH,2)
section
variable {w:Za} {n:Int} {st:Store} {F:Nat}
theorem ZqN {d:Zm} (h:d.Xa=1∨d.Xa=5) (m m':Nat):Qj w d m=Qj w d m':=by
 unfold Qj;rcases h with h | h <;> rw [h] <;> rfl
theorem Zoh (R:Rt w) {d:Zm} (hf:XE d w.cells.length=true):∃ m,m < w.cells.length∧(d.Xa=1∨d.Xa=5∨d.at_= (m:Int))∧Qj w d m=Qj w d d.at_.toNat:=by
 have:=R.c1;rcases ZbU hf with⟨k,a⟩ | ⟨k,a,t,ne,nm⟩ | ⟨k,a,nm⟩ | ⟨k,a⟩
 ·exact⟨d.at_.toNat,by omega,.inl k,rfl⟩
 ·exact⟨d.at_.toNat,by omega,.inr (.inr (by omega)),rfl⟩
 ·exact⟨d.at_.toNat,by omega,.inr (.inr (by omega)),rfl⟩
 ·exact⟨0,by omega,.inr (.inl k),ZqN (.inr k) _ _⟩
theorem Rt.ZwD (R:Rt w) {m:Nat} (hm:m < w.cells.length) (n:Int):CI (look (rowOf w m) n):=by
 unfold look;cases h:KL (rowOf w m) n with
 | none=>exact CI.blank n
 | some c=>exact R.ci hm (Zec h)
theorem Zq9 (hF:1000 <=F) (R:Rt w) (so:X8 w st) (u:UK st.cells) {d:Zm} (hf:XE d w.cells.length=true):
 ∃ st',Zte F st d=some (bif Qj w d d.at_.toNat==0 then(bif Zbf (XO w d) then .Jc 3 else .ok st') else .Jc (Qj w d d.at_.toNat))∧(Qj w d d.at_.toNat=0 ->X8 (XO w d) st'∧UK st'.cells):=by
 have sm:=R.small;have hnl:=R.nts;have hrow:∀ m,m < w.cells.length ->(rowOf w m).length <=12:=fun m hm=>Szd.ZjM R.n12 (R.X9 m hm) (R.names m hm)
 obtain⟨m0,hm0,ho,e0⟩:=Zoh R hf;have hck:=Zop so hm0 d ho;rw [e0] at hck;unfold Zte;rw [hck,Option.bind_some];cases hz:(Qj w d d.at_.toNat==0)
 ·refine⟨st,rfl,fun z=>?_⟩;rw [z] at hz;cases hz
 ·have he:Qj w d d.at_.toNat=0:=by simpa using hz
  obtain⟨X1,X2,X3,X4,X5⟩:=ZpJ R hf he;have over:∀ st',X8 (XO w d) st' ->Zad F (st'.machines,st'.names,st'.cells,st'.notes,st'.freed)=some (bif Zbf (XO w d) then .Jc 3 else .ok st'):=fun st' s'=>Zp7 hF X1 (X1.small (by omega)) s'
  simp only [cond_true];unfold prC;dsimp only;rcases ZbU hf with⟨k,a⟩ | ⟨k,a,t,ne,nm⟩ | ⟨k,a,nm⟩ | ⟨k,a⟩
  ·have hm:d.at_.toNat < w.cells.length:=by omega
   have hat:d.at_= (d.at_.toNat:Int):=by omega
   have hdw:XO w d=Zgd w d.at_.toNat:=by unfold XO;rw [k];rfl
   obtain⟨q1,q2⟩:=Zr9 so u hm (R.X9 _ hm);have ov:=over _ (by rw [hdw];exact q1);refine⟨_,?_,fun _=>⟨by rw [hdw];exact q1,q2⟩⟩;rw [← ov,k];simp only [beq_self_eq_true,cond_true];rw [hat,so.n]
   rfl
  ·have hm:d.at_.toNat < w.cells.length:=by omega
   have hat:d.at_= (d.at_.toNat:Int):=by omega
   rcases k with k | k
   ·obtain⟨c,hc,_,hu⟩:=Wd (by omega) (by omega) he;have hl:= (R.Qz hm hc).1;have hdw:XO w d=Zgc w d d.at_.toNat c:=by unfold XO;rw [k,hl];rfl
    obtain⟨st',q1,q2,q3⟩:=ZrD so u hm (R.X9 _ hm) (by omega) d hat hc;have ov:=over st' (by rw [hdw];exact q2);refine⟨st',?_,fun _=>⟨by rw [hdw];exact q2,q3⟩⟩;rw [← ov,k];simp only [beq_self_eq_true,cond_true,show((2:Int)==1)=false from rfl,cond_false];rw [q1,Option.bind_some]
   ·obtain⟨c,hc,hr,_⟩:=Wd (by omega) (by omega) he;have hl:= (R.Qz hm hc).1;have hdw:XO w d=goW w d d.at_.toNat c:=by unfold XO;rw [k,hl];rfl
    obtain⟨st',q1,q2,q3⟩:=ZvK so u hm (R.X9 _ hm) (by omega) d hc;have ov:=over st' (by rw [hdw];exact q2);refine⟨st',?_,fun _=>⟨by rw [hdw];exact q2,q3⟩⟩;rw [← ov,k];simp only [beq_self_eq_true,cond_true,show((4:Int)==1)=false from rfl,show((4:Int)==2)=false from rfl,show((4:Int)==3)=false from rfl,cond_false];unfold Zac;rw [Option.bind_some,hat,so.get hm,hc];unfold goC at q1;simp only [Option.getD_some];rw [q1,Option.bind_some]
  ·have hm:d.at_.toNat < w.cells.length:=by omega
   have hat:d.at_= (d.at_.toNat:Int):=by omega
   obtain⟨c,hc,_,hu⟩:=Wd (by omega) (by omega) he;obtain⟨hl,_,hnb⟩:=R.Qz hm hc;have hdw:XO w d=Zjp w d.at_.toNat d.name c:=by unfold XO;rw [k,hl];rfl
   obtain⟨st',q1,q2,q3⟩:=ZqP (F:=F) (by omega) so u hm (R.X9 _ hm) (by omega) hc (R.ci hm (Zec hc)) (Zt3 R.fr) (R.Zmc ⟨_,hnb⟩);have ov:=over st' (by rw [hdw];exact q2);refine⟨st',?_,fun _=>⟨by rw [hdw];exact q2,q3⟩⟩;rw [← ov,k];simp only [beq_self_eq_true,cond_true,show((3:Int)==1)=false from rfl,show((3:Int)==2)=false from rfl,cond_false];unfold Zac;rw [Option.bind_some,hat,so.get hm,hc];unfold Zc4 at q1;simp only [Option.getD_some];rw [q1,Option.bind_some]
  ·have hlt:d.at_.toNat < w.notes.length:=by
    have he:=he;unfold Qj at he;rw [k] at he;simp only [beq_self_eq_true,cond_true,show((5:Int)==1)=false from rfl,cond_false] at he;cases hb:decide (d.at_ >= (w.notes.length:Int)) with
    | true=>rw [hb] at he;cases he
    | false=>simp at hb;omega
   obtain⟨j,hj⟩:∃ j:Nat,d.at_= (j:Int):= ⟨d.at_.toNat,by omega⟩
   have hjt:d.at_.toNat=j:=by omega
   rw [hjt] at hlt;obtain⟨x,hx⟩:∃ x,w.notes[j]? =some x:= ⟨_,List.getElem?_eq_getElem hlt⟩
   have hdw:XO w d=UN (ZbG w j) x:=by unfold XO;rw [k,hjt,hx];rfl
   have hxm:=List.mem_of_getElem? hx;have hxB:=Zaq (R.Ww hxm);have hm:x.ZG.toNat < w.cells.length:=by omega
   have:=hrow _ hm;have so':X8 (ZbG w j) ⟨st.machines,st.names,st.cells,w.notes.take j ++ w.notes.drop (j + 1),st.freed⟩:= ⟨so.m,so.n,rfl,so.freed,so.cells⟩
   obtain⟨st',q1,q2,q3⟩:=Zor (F:=F) (by omega) so' u (Zp8 sm j) (m:=x.ZG.toNat) hm (by show(rowOf w _).length < 900;omega) (by unfold ZbG;simp;omega) x (by omega) (R.X9 _ hm) (R.ZwD hm _) (Zt3 R.fr) (R.Zmc ⟨_,hxB.2.1⟩);have ov:=over st' (by rw [hdw];exact q2);refine⟨st',?_,fun _=>⟨by rw [hdw];exact q2,q3⟩⟩;rw [← ov,k];simp only [beq_self_eq_true,cond_true,show((5:Int)==1)=false from rfl,show((5:Int)==2)=false from rfl,show((5:Int)==3)=false from rfl,show((5:Int)==4)=false from rfl,cond_false];rw [hj,so.notes,Yt,hx,Option.bind_some,ZrW hlt (by omega),Option.bind_some,q1,Option.bind_some]
theorem ZrV (R:Rx w Kn []) (ho:∀ k a c,Xj w k a=some c ->c.out <=1000016) (h:Zbf w=false):Rt w:=by
 unfold Zbf at h;rw [Bool.or_eq_false_iff,List.any_eq_false] at h;have sz:=R.szd;have hl:w.notes.length <=80:=by have:=h.1;simp at this;omega
 have h0:=R.n0;refine R.rt (fun n hn=>?_) hl;have hnr:0 <=n∧n < w.names:=by unfold Yx at hn;simp at hn;exact hn.1
 intro a a0 a1;have:=h.2 a.toNat (List.mem_range.2 (by omega));rw [Bool.not_eq_true,List.any_eq_false] at this;have:=this n.toNat (List.mem_range.2 (by omega));have:= (by simpa using this:JK w a.toNat ((n.toNat:Nat):Int) <=1000000)
 rw [show((n.toNat:Nat):Int)=n by omega,Zhy w (by omega)] at this;rw [show((a.toNat:Nat):Int)=a by omega] at this;show Kt (Xj w n) (Uh w n) a <=1000000;obtain⟨h',H⟩:=R.nm n hn;have H:Nm w.cells.length n (Xj w n) (Uh w n) h':=H;have hg:=H.giv a;have hc:=H.ZAB
 have hb:-16 <=Qh (Xj w n a)∧Qh (Xj w n a) <=1000016:=by
  cases e:Xj w n a with
  | none=>simp [Qh]
  | some c=>exact⟨(H.Znp e).1,ho n a c e⟩
 have:-16 <=Kt (Xj w n) (Uh w n) a∧Kt (Xj w n) (Uh w n) a <=1000032:=by
  rw [hg];split <;> omega
 rw [YW (by omega) (by omega)] at *
 assumption
theorem ZgF (R:Rt w) {d:Zm} (hf:XE d w.cells.length=true) (he:Qj w d d.at_.toNat=0) (hv:Zbf (XO w d)=false):Rt (XO w d)∧(XO w d).cells.length=w.cells.length:=by
 obtain⟨X1,X2,X3,X4,X5⟩:=ZpJ R hf he;exact⟨ZrV X1 X5 hv,X3⟩
theorem ZdN {d:Zm} (h:(stepW w d).2=0):Qj w d d.at_.toNat=0∧Zbf (XO w d)=false∧(stepW w d).1=XO w d:=by
 unfold stepW at h ⊢;cases hz:(Qj w d d.at_.toNat==0)
 ·rw [hz] at h;have he:Qj w d d.at_.toNat ≠ 0:=by simpa using hz
  exact absurd h he
 ·rw [hz] at h;cases ho:Zbf (XO w d)
  ·exact⟨by simpa using hz,rfl,rfl⟩
  ·rw [ho] at h;cases h
theorem ZiV (hF:1000 <=F) (R:Rt w) (so:X8 w st) {d:Zm} (hf:XE d w.cells.length=true):
 ((stepW w d).2 ≠ 0∧Zn9 F st d=some (none,(stepW w d).2))∨((stepW w d).2=0∧(stepW w d).1=XO w d∧∃ st',Zn9 F st d=some (some st',0)∧X8 (XO w d) st'∧UK st'.cells):=by
 obtain⟨sc,c1,c2,c3⟩:=R.copy hF so;obtain⟨st',q1,q2⟩:=Zq9 hF R c2 c3 hf;unfold Zn9 stepW;rw [c1,Option.bind_some,q1,Option.bind_some];cases hz:(Qj w d d.at_.toNat==0)
 ·left;have he:Qj w d d.at_.toNat ≠ 0:=by simpa using hz
  exact⟨he,rfl⟩
 ·have he:Qj w d d.at_.toNat=0:=by simpa using hz
  obtain⟨q3,q4⟩:=q2 he;cases Zbf (XO w d)
  ·right;exact⟨rfl,rfl,st',rfl,q3,q4⟩
  ·left;exact⟨(fun z=>by cases z),rfl⟩
theorem Zwy (hF:1000 <=F) (sm:Small w) (d:Zm):ZqK F w d=some (doW w d):=by
 have:=sm.cells;unfold ZqK doW;rw [Zpr hF sm,Option.bind_some,Zji];simp only [Zma,Option.bind_some];cases hr:Kl w
 ·rfl
 ·have R:=Rt.of hr;cases hf:XE d w.cells.length
  ·rfl
  ·simp only [Bool.not_true,Bool.not_false,cond_true,Bool.or_self,cond_false,Bool.and_self];obtain⟨st,o1,o2,o3⟩:=R.open_ hF;rw [o1,Option.bind_some];rcases ZiV hF R o2 hf with⟨s1,s2⟩ | ⟨s1,s2,st',s3,s4,s5⟩
   ·rw [s2,Option.bind_some];unfold opt;dsimp only;have:((stepW w d).2 !=0)=true:=by simpa using s1
    rw [this,cond_true]
    have e:(stepW w d).1=ZfH:=by
     unfold stepW at s1 ⊢;cases hz:(Qj w d d.at_.toNat==0)
     ·rfl
     ·rw [hz] at s1;cases ho:Zbf (XO w d)
      ·rw [ho] at s1;exact absurd rfl s1
      ·rfl
    show some (ZfH,(stepW w d).2)=some (stepW w d);rw [← e]
   ·rw [s3,Option.bind_some];unfold opt;dsimp only;obtain⟨e1,e2,e3⟩:=ZdN s1;have R':= (ZgF R hf e1 e2).1;rw [show((0:Int) !=0)=false from rfl,cond_false,R'.shut hF s4,Option.bind_some,← s2];rw [← s1]
end
end Go.Proofs.Ytekpjgmhkkjhgaa
end
section
namespace Go.Proofs.Ytekpjgmhkkjhgaa
open Go.Lf
section
end
end Go.Proofs.Ytekpjgmhkkjhgaa
end
section
namespace Go.Proofs.Ytekpjgmhkkjhgaa
open Go.Lf
section
variable {w:Za} {n:Int} {st:Store} {F:Nat}
def Zo3 (p:Int):Za×Int:=bif(decide (1 <=p) && decide (p <=6)) then(⟨List.replicate p.toNat [],[],0,[]⟩,0) else(ZfH,2)
theorem Zo2 {p:Int} (h:1 <=p∧p <=6):Rt ⟨List.replicate p.toNat [],[],0,[]⟩:=by
 have hrow:∀ m,rowOf ⟨List.replicate p.toNat [],[],0,[]⟩ m= []:=by
  intro m;unfold rowOf;dsimp only;cases e:(List.replicate p.toNat ([]:List Zb))[m]? with
  | none=>rfl
  | some r=>have:=List.mem_of_getElem? e;rw [List.mem_replicate] at this;exact this.2
 refine⟨by simp;omega,by simp;omega,Int.le_refl _,by show(0:Int) <=12;omega,by simp,.nil,by simp,fun m hm=>by rw [hrow];exact .nil,fun m hm c hc=>by rw [hrow] at hc;simp at hc,by simp,fun n hn=>?_⟩;unfold Yx at hn;simp at hn;omega
theorem Zqb (hF:1000 <=F) (p:Int):ZtC F p=some (Zo3 p):=by
 unfold ZtC Zo3
 have e:((decide (p < 1)) || (decide (p > 6)))= !(decide (1 <=p) && decide (p <=6)):=by
  rw [Bool.not_and,← decide_not,← decide_not];congr 1 <;> exact decide_eq_decide.2 (by omega)
 rw [e];cases hb:(decide (1 <=p) && decide (p <=6))
 ·rfl
 ·simp at hb;simp only [Bool.not_true,cond_false,cond_true]
  have so:X8 ⟨List.replicate p.toNat [],[],0,[]⟩ ⟨p,0,[],[],[]⟩:=by
   refine⟨?_,rfl,rfl,rfl,fun a b=>?_⟩
   ·show p= ((List.replicate p.toNat ([]:List Zb)).length:Int);rw [List.length_replicate];omega
   ·show none=_;split
    ·rename_i hr
     symm
     rw [X0]
     have:rowOf ⟨List.replicate p.toNat [],[],0,[]⟩ a.toNat= []:=by
      unfold rowOf;dsimp only;cases e:(List.replicate p.toNat ([]:List Zb))[a.toNat]? with
      | none=>rfl
      | some r=>have:=List.mem_of_getElem? e;rw [List.mem_replicate] at this;exact this.2
     rw [this];rfl
    ·rfl
  rw [(Zo2 hb).shut hF so];rfl
theorem Zmx (y:Zb):JC y y=true:=by simp [JC]
theorem Zmw (y:Zd):K3 y y=true:=by simp [K3]
end
end Go.Proofs.Ytekpjgmhkkjhgaa
end
section
namespace Go.Proofs.Ytekpjgmhkkjhgaa
open Go.Lf
section
variable {w:Za} {n:Int} {m:Nat}
end
end Go.Proofs.Ytekpjgmhkkjhgaa
end
section
namespace Go.Proofs.Ytekpjgmhkkjhgaa
open Go.Lf
def XH:Za ->Nat ->List Zm ->Za×Int×Int
 | w,i,[]=>(w,i,0)
 | w,i,d::l=>bif(stepW w d).2==0 then XH (stepW w d).1 (i + 1) l else(w,i,(stepW w d).2)
def ZlP (w:Za) (l:List Zm):Za×Int×Int:=
 bif decide ((l.length:Int) > 200) then(ZfH,0,3) else bif Kl w && l.all (fun d=>XE d w.cells.length) then XH w 0 l else(ZfH,0,2)
section
variable {w:Za} {n:Int} {st:Store} {F:Nat}
theorem Zg4 (hF:1000 <=F) (l:List Zm) (hl:l.length <=200) (M:Nat) (hf:∀ d ∈ l,XE d (M:Int)=true):∀ (k i F':Nat) (w:Za) (st:Store),Rt w ->X8 w st ->w.cells.length=M ->i + k=l.length ->k < F' ->
 loop F' (ZhR F l) (st,(i:Int))=some (XH w i (l.drop i)):=by
 intro k
 induction k with
 | zero=>
   intro i F' w st R so hM hi hF';obtain⟨F',rfl⟩:=Nat.exists_eq_succ_of_ne_zero (n:=F') (by omega);have:i=l.length:=by omega
   subst this;rw [YF];simp only [ZhR];rw [decide_eq_false (by omega),cond_false,R.shut hF so,List.drop_length]
   rfl
 | succ k ih=>
   intro i F' w st R so hM hi hF';obtain⟨F',rfl⟩:=Nat.exists_eq_succ_of_ne_zero (n:=F') (by omega);have hlt:i < l.length:=by omega
   have hd:=hf l[i] (List.getElem_mem hlt);rw [← hM] at hd;rw [YF,List.drop_eq_getElem_cons hlt];simp only [ZhR,XH];rw [decide_eq_true (by omega),cond_true,Yt,List.getElem?_eq_getElem hlt,Option.bind_some];rcases ZiV hF R so hd with⟨s1,s2⟩ | ⟨s1,s2,st',s3,s4,s5⟩
   ·have h1:((stepW w l[i]).2 !=0)=true:=by simpa using s1
    have h2:((stepW w l[i]).2==0)=false:=by simpa using s1
    rw [s2,Option.bind_some,h2];unfold opt;dsimp only;rw [h1,cond_true,R.shut hF so];rfl
   ·obtain⟨e1,e2,e3⟩:=ZdN s1;obtain⟨r1,r2⟩:=ZgF R hd e1 e2;rw [s3,Option.bind_some,s1,e3];unfold opt;dsimp only;rw [show((0:Int) !=0)=false from rfl,show((0:Int)==0)=true from rfl,cond_false,cond_true,QX (by omega)];exact ih (i + 1) F' _ st' r1 s4 (r2.trans hM) (by omega) (by omega)
theorem ZeQ (hF:1000 <=F) (sm:Small w) (l:List Zm):Zof F w l=some (ZlP w l):=by
 have hc:=sm.cells;unfold Zof ZlP;cases hb:decide ((l.length:Int) > 200)
 ·have hl:l.length <=200:=by simp at hb;omega
  rw [cond_false,cond_false,Zpr hF sm,Option.bind_some];cases hr:Kl w
  ·rfl
  ·have R:=Rt.of hr;simp only [Bool.not_true,Bool.not_false,cond_true,Bool.true_and]
   have e:=XR l (fun v (_:Unit)=>v) (Zfl F w l) (fun(k:Nat) d s next=>bif !(XE d w.cells.length) then(Kz F w l) (k:Int) else next ()) (fun _=>Kz F w l (-1)) (by omega) (fun k y s next hy hk=>by
    simp only [Zfl,Yt,hy,hk,decide_true,cond_true,Option.bind_some];rw [Zji];rfl) (fun s next=>by
    simp only [Zfl];rw [decide_eq_false (by omega),cond_false]) (by omega:l.length < F) ()
   rw [show loop F (Zfl F w l) 0=_ from e];rcases Zi5 (l:=l) (i:=0) (s:= ()) (d:=fun _=>Kz F w l (-1)) (g:=fun(k:Nat) d (s:Unit) next=>bif !(XE d w.cells.length) then(Kz F w l) (k:Int) else next ()) (fun k=>Kz F w l (k:Int)) (fun d=>!(XE d w.cells.length)) (fun _ _ _ _=>rfl) with⟨j,y,h1,h2,h3⟩ | ⟨h1,h2⟩
   ·rw [h3]
    have ha:(l.all fun d=>XE d w.cells.length)=false:=by
     have:=List.find?_some h1;rw [List.all_eq_false];exact⟨y,List.mem_of_find?_eq_some h1,by simpa using this⟩
    rw [ha];unfold Kz;rw [decide_eq_true (by omega)];rfl
   ·rw [h2]
    have ha:(l.all fun d=>XE d w.cells.length)=true:=by
     rw [List.find?_eq_none] at h1;rw [List.all_eq_true];intro d hd;have:=h1 d hd
     simpa using this
    rw [ha,cond_true];unfold Kz;obtain⟨st,o1,o2,o3⟩:=R.open_ hF;rw [decide_eq_false (by omega),cond_false,o1,Option.bind_some];rw [List.all_eq_true] at ha;exact Zg4 hF l hl w.cells.length ha l.length 0 F w st R o2 rfl (by omega) (by omega)
 ·rfl
theorem ZiX (M:Nat):∀ (l:List Zm) (w:Za) (i:Nat),Rt w ->w.cells.length=M ->(∀ d ∈ l,XE d (M:Int)=true) ->Rt (XH w i l).1∧(XH w i l).1.cells.length=M
 | [],w,i,R,hM,_=>⟨R,hM⟩
 | d::l,w,i,R,hM,hf=>by
   unfold XH;cases hz:((stepW w d).2==0)
   ·exact⟨R,hM⟩
   ·have hok:(stepW w d).2=0:=by simpa using hz
    have hd:=hf d (by simp);rw [← hM] at hd;obtain⟨e1,e2,e3⟩:=ZdN hok;obtain⟨r1,r2⟩:=ZgF R hd e1 e2;rw [cond_true,e3];exact ZiX M l _ _ r1 (r2.trans hM) (fun x hx=>hf x (by simp [hx]))
end
end Go.Proofs.Ytekpjgmhkkjhgaa
end
section
namespace Go.Proofs.Ytekpjgmhkkjhgaa
open Go.Lf
structure U8 (a:Zah):Prop where
 ud:0 <=a.Xa∧a.Xa <=255
 ua:0 <=a.at_∧a.at_ <=255
 un:0 <=a.name∧a.name <=255
 ut:0 <=a.ZG∧a.ZG <=255
theorem KR {a b:Int} (h0:0 <=a) (hb:0 < b):ZdS a b=some (a % b)∧0 <=a % b∧a % b < b:=by
 refine⟨?_,Int.emod_nonneg _ (by omega),Int.emod_lt_of_pos _ hb⟩;unfold ZdS;have:(b==0)=false:=by simp;omega
 rw [this,cond_false,Int.tmod_eq_emod_of_nonneg h0]
structure Zll (d:Zm) (M nm nt:Int):Prop where
 form:XE d M=true
 make:d.Xa=1 ->nm < 12
 name:d.Xa=2∨d.Xa=3∨d.Xa=4 ->0 <=d.name∧d.name < nm
 note:d.Xa=5 ->0 <=d.at_∧d.at_ < nt
 kind:d.Xa=1∨d.Xa=2∨d.Xa=3∨d.Xa=4∨d.Xa=5
theorem ZwA {a:Zah} (u:U8 a) {M nm nt:Int} (hM:1 <=M∧M <=6) (hn:0 <=nm∧nm <=12) (ht:0 <=nt∧nt <=1000):∃ d b,ZqG a M nm nt=some (d,b)∧(b=true ->Zll d M nm nt):=by
 obtain⟨⟨d0,d1⟩,⟨a0,a1⟩,⟨n0,n1⟩,⟨t0,t1⟩⟩:=u;unfold ZqG;rw [YW (n:=a.at_) (by omega) (by omega),YW (n:=a.name) (by omega) (by omega)];obtain⟨e1,at0,at1⟩:=KR (a:=a.at_) (b:=M) a0 (by omega);rw [e1,Option.bind_some];obtain⟨at_,hat⟩:∃ x,a.at_ % M=x:= ⟨_,rfl⟩
 rw [hat] at at0 at1 ⊢
 have ZED:∀ (name ZG k:Int) (c:Bool),(0 < nm ->0 <=name∧name < nm) ->(1 < M ->(0 <=ZG∧ZG < M)∧ZG ≠ at_) ->(c=true∨c=false) ->∃ d b,Zfh a M nm nt at_ name ZG k c=some (d,b)∧(b=true ->Zll d M nm nt):=by
  intro name ZG k c hnm hto _;unfold Zfh;cases c
  ·simp only [cond_false];cases h3:(k==3)
   ·simp only [cond_false];cases h4:(k==4)
    ·simp only [cond_false];cases h0:(nt==0)
     ·simp only [cond_false];rw [YW (n:=a.at_) (by omega) (by omega)]
      have hnt:0 < nt:=by have:nt ≠ 0:=by simpa using h0
                          omega
      obtain⟨e2,b0,b1⟩:=KR (a:=a.at_) (b:=nt) a0 hnt;rw [e2,Option.bind_some];refine⟨_,_,rfl,fun _=>⟨?_,fun z=>(by cases z),fun z=>(by rcases z with z | z | z <;> cases z),fun _=>⟨b0,b1⟩,.inr (.inr (.inr (.inr rfl)))⟩⟩;unfold XE;simp [b0]
     ·simp only [cond_true];exact⟨_,_,rfl,fun z=>by cases z⟩
    ·simp only [cond_true];refine⟨_,_,rfl,fun z=>?_⟩;simp at z;have h1:=hnm (by omega);have h2:=hto (by omega);refine⟨?_,fun z=>(by cases z),fun _=>h1,fun z=>(by cases z),.inr (.inr (.inr (.inl rfl)))⟩;unfold XE;simp;refine⟨⟨⟨at0,at1⟩,h2.1⟩,fun e=>h2.2 e.symm,h1.1⟩
   ·simp only [cond_true];refine⟨_,_,rfl,fun z=>?_⟩;simp at z;have h1:=hnm (by omega);refine⟨?_,fun z=>(by cases z),fun _=>h1,fun z=>(by cases z),.inr (.inr (.inl rfl))⟩;unfold XE;simp;exact⟨⟨at0,at1⟩,h1.1⟩
  ·simp only [cond_true];refine⟨_,_,rfl,fun z=>?_⟩;simp at z;have h1:=hnm (by omega);have h2:=hto (by omega);refine⟨?_,fun z=>(by cases z),fun _=>h1,fun z=>(by cases z),.inr (.inl rfl)⟩;unfold XE;simp;refine⟨⟨⟨at0,at1⟩,h2.1⟩,fun e=>h2.2 e.symm,h1.1⟩
 have ZEE:∀ (name ZG:Int),(0 < nm ->0 <=name∧name < nm) ->(1 < M ->(0 <=ZG∧ZG < M)∧ZG ≠ at_) ->∃ d b,Zfi a M nm nt at_ name ZG=some (d,b)∧(b=true ->Zll d M nm nt):=by
  intro name ZG hnm hto;unfold Zfi;obtain⟨e2,b0,b1⟩:=KR (a:=a.Xa) (b:=9) d0 (by omega);rw [e2,Option.bind_some];cases h0:(a.Xa % 9==0)
  ·simp only [cond_false];cases h1:(a.Xa % 9==1)
   ·simp only [cond_false];exact ZED name ZG _ _ hnm hto (by cases (a.Xa % 9==2) <;> simp)
   ·simp only [cond_true];exact ZED name ZG _ _ hnm hto (.inl rfl)
  ·simp only [cond_true];refine⟨_,_,rfl,fun z=>?_⟩;simp at z;refine⟨?_,fun _=>z,fun z=>(by rcases z with z | z | z <;> cases z),fun z=>(by cases z),.inl rfl⟩;unfold XE;simp;exact⟨at0,at1⟩
 have ZEF:∀ (name:Int),(0 < nm ->0 <=name∧name < nm) ->∃ d b,Zfj a M nm nt at_ name=some (d,b)∧(b=true ->Zll d M nm nt):=by
  intro name hnm;unfold Zfj;cases h1:decide (M > 1)
  ·rw [cond_false];exact ZEE name 0 hnm (fun z=>by simp at h1;omega)
  ·rw [cond_true,YW (n:=a.ZG) (by omega) (by omega),YW (n:=M - 1) (by omega) (by omega)];have hM1:1 < M:=by simpa using h1
   obtain⟨e2,b0,b1⟩:=KR (a:=a.ZG) (b:=M - 1) t0 (by omega);rw [e2,Option.bind_some,YW (n:=at_ + 1) (by omega) (by omega),YW (n:=at_ + 1 + a.ZG % (M - 1)) (by omega) (by omega)];obtain⟨e3,c0,c1⟩:=KR (a:=at_ + 1 + a.ZG % (M - 1)) (b:=M) (by omega) (by omega);rw [e3,Option.bind_some];refine ZEE name _ hnm fun _=>⟨⟨c0,c1⟩,?_⟩
   by_cases hlt:at_ + 1 + a.ZG % (M - 1) < M
   ·rw [Int.emod_eq_of_lt (by omega) hlt];omega
   ·have:(at_ + 1 + a.ZG % (M - 1)) % M=at_ + 1 + a.ZG % (M - 1) - M:=by
     rw [← Int.sub_emod_right,Int.emod_eq_of_lt (by omega) (by omega)]
    rw [this];omega
 cases h0:decide (nm > 0)
 ·rw [cond_false];exact ZEF 0 (fun z=>by simp at h0;omega)
 ·rw [cond_true];obtain⟨e2,b0,b1⟩:=KR (a:=a.name) (b:=nm) n0 (by simpa using h0);rw [e2,Option.bind_some];exact ZEF _ (fun _=>⟨b0,b1⟩)
section
variable {w:Za} {F:Nat}
theorem Za7 {α:Type} {F:Nat} {l:List α} (hl:l.length < 1000) (hF:1000 <=F) (body:Int ->(Int ->Option Bool) ->Option Bool) (h1:∀ (k:Nat) y next,l[k]? =some y ->body (k:Int) next=next (ZV ((k:Int) + 1))) (h2:∀ next,body (l.length:Int) next=some true):loop F body 0=some true:=by
 refine(XR l (fun v (_:Unit)=>v) body (fun _ _ _ next=>next ()) (fun _=>some true) (by omega) (fun k y q next hy hk=>h1 k y _ hy) (fun q next=>h2 next) (by omega) ()).trans ?_;rw [(U7 (fun _ _ s=>s) (fun _ _=>True) trivial (fun _ _ _ _ _ _=>⟨rfl,trivial⟩)).1]
theorem Zoq (hF:1000 <=F) {l:List Zb} (hl:l.length < 1000):Ztk F l l=some true:=by
 unfold Ztk;rw [show((l.length:Int) != (l.length:Int))=false by simp,cond_false];refine Za7 hl hF _ (fun k y next hy=>?_) (fun next=>?_)
 ·have hk:= (List.getElem?_eq_some_iff.1 hy).1;simp only [Zkr,Yt,hy,Option.bind_some];rw [decide_eq_true (by omega),cond_true,Zmx];rfl
 ·simp only [Zkr];rw [decide_eq_false (by omega),cond_false]
theorem Znr (hF:1000 <=F) {l:List Zd} (hl:l.length < 1000):ZqD F l l=some true:=by
 unfold ZqD;rw [show((l.length:Int) != (l.length:Int))=false by simp,cond_false];refine Za7 hl hF _ (fun k y next hy=>?_) (fun next=>?_)
 ·have hk:= (List.getElem?_eq_some_iff.1 hy).1;simp only [Zkq,Yt,hy,Option.bind_some];rw [decide_eq_true (by omega),cond_true,Zmw];rfl
 ·simp only [Zkq];rw [decide_eq_false (by omega),cond_false]
theorem Zqj (hF:1000 <=F) {l:List Int} (hl:l.length < 1000):ZqJ F l l=some true:=by
 unfold ZqJ;rw [show((l.length:Int) != (l.length:Int))=false by simp,cond_false];refine Za7 hl hF _ (fun k y next hy=>?_) (fun next=>?_)
 ·have hk:= (List.getElem?_eq_some_iff.1 hy).1;simp only [ZkG,Yt,hy,Option.bind_some];rw [decide_eq_true (by omega),cond_true];simp
 ·simp only [ZkG];rw [decide_eq_false (by omega),cond_false]
theorem alike_refl (hF:1000 <=F) (sm:Small w):Zob F w w=some true:=by
 have hc:=sm.cells;unfold Zob;rw [show((w.cells.length:Int) != (w.cells.length:Int))=false by simp,cond_false]
 have ej:Zdy F w w true=some true:=by
  unfold Zdy;rw [Znr hF sm.notes,Zqj hF sm.freed];simp [gd]
 refine(XR w.cells (fun v (_:Unit)=>v) (ZhQ F w w) (fun _ _ _ next=>next ()) (fun _=>some true) (by omega) (fun k y q next hy hk=>?_) (fun q next=>?_) (by omega) ()).trans ?_
 ·simp only [ZhQ,Yt,hy,hk,decide_true,cond_true,Option.bind_some];rw [Zoq hF (sm.rows y (List.mem_of_getElem? hy))];rfl
 ·simp only [ZhQ];rw [decide_eq_false (by omega),cond_false,ej]
 ·rw [(U7 (fun _ _ s=>s) (fun _ _=>True) trivial (fun _ _ _ _ _ _=>⟨rfl,trivial⟩)).1]
theorem Uo (w:Za) (i:Nat) (d:Zm) (l:List Zm):XH w i (d::l)=bif(stepW w d).2==0 then XH (stepW w d).1 (i + 1) l else(w,(i:Int),(stepW w d).2):=by
 conv=>lhs;unfold XH
theorem ZaR (w:Za) (i:Nat):XH w i []= (w,(i:Int),0):=by
 unfold XH;rfl
theorem ZbE {w:Za} {d:Zm} {l:List Zm} {w':Za} {i:Nat} {j:Int} (h:XH w i (d::l)= (w',j,0)):((stepW w d).2==0)=true∧XH (stepW w d).1 (i + 1) l= (w',j,0):=by
 rw [Uo] at h;cases hz:((stepW w d).2==0)
 ·rw [hz,cond_false] at h;have:(stepW w d).2=0:=by injection h with _ h;injection h
  rw [this] at hz;cases hz
 ·rw [hz,cond_true] at h;exact⟨rfl,h⟩
theorem Zdh:∀ (l1 l2:List Zm) (w w':Za) (i:Nat) (j:Int),XH w i l1= (w',j,0) ->XH w i (l1 ++ l2)=XH w' (i + l1.length) l2
 | [],l2,w,w',i,j,h=>by
   rw [ZaR] at h;cases h;simp
 | d::l1,l2,w,w',i,j,h=>by
   obtain⟨hz,h⟩:=ZbE h;rw [List.cons_append,Uo,hz,cond_true,Zdh l1 l2 _ w' (i + 1) j h,List.length_cons,show i + 1 + l1.length=i + (l1.length + 1) from by omega]
theorem Zg6:∀ (l1 l2:List Zm) (w w':Za) (i:Nat) (j:Int),XH w i (l1 ++ l2)= (w',j,0) ->∃ w1,XH w i l1= (w1,((i + l1.length:Nat):Int),0)∧XH w1 (i + l1.length) l2= (w',j,0)
 | [],l2,w,w',i,j,h=>⟨w,ZaR w i,by simpa using h⟩
 | d::l1,l2,w,w',i,j,h=>by
   rw [List.cons_append] at h;obtain⟨hz,h⟩:=ZbE h;obtain⟨w1,h1,h2⟩:=Zg6 l1 l2 _ w' (i + 1) j h;refine⟨w1,?_,?_⟩
   ·rw [Uo,hz,cond_true,h1,List.length_cons,show i + 1 + l1.length=i + (l1.length + 1) from by omega]
   ·rw [← h2,List.length_cons,show i + 1 + l1.length=i + (l1.length + 1) from by omega]
theorem ZdU:∀ (l:List Zm) (w w':Za) (i k:Nat) (j:Int),XH w i l= (w',j,0) ->XH w k l= (w',((k + l.length:Nat):Int),0)
 | [],w,w',i,k,j,h=>by rw [ZaR] at h ⊢;cases h;rfl
 | d::l,w,w',i,k,j,h=>by
   obtain⟨hz,h⟩:=ZbE h;rw [Uo,hz,cond_true,ZdU l _ w' (i + 1) (k + 1) j h,List.length_cons,show k + 1 + l.length=k + (l.length + 1) from by omega]
def Ky (p:Int):Za:= ⟨List.replicate (1 + p % 6).toNat [],[],0,[]⟩
theorem Zmf {p:Int} (h:0 <=p):Rt (Ky p)∧(Ky p).cells.length= (1 + p % 6).toNat:=by
 have:=Int.emod_nonneg p (b:=6) (by decide);have:=Int.emod_lt_of_pos p (b:=6) (by decide);exact⟨Zo2 ⟨by omega,by omega⟩,by unfold Ky;simp⟩
theorem ZlV (hF:1000 <=F) {p:Int} (h0:0 <=p) (h1:p <=255) (l:List Zah):ZqI F p l= (slL l 0 (if 120 < (l.length:Int) then 120 else(l.length:Int))).bind fun z=>loop F (Zod F z) (0,[],[],(Ky p).cells,(Ky p).notes,(Ky p).names,(Ky p).freed):=by
 unfold ZqI;rw [YW (n:=p) (by omega) (by omega)];obtain⟨e1,b0,b1⟩:=KR (a:=p) (b:=6) h0 (by omega);rw [e1,Option.bind_some,YW (n:=1 + p % 6) (by omega) (by omega),Zqb hF]
 have hm:Zo3 (1 + p % 6)= (Ky p,0):=by
  unfold Zo3;have:(decide (1 <=1 + p % 6) && decide (1 + p % 6 <=6))=true:=by simp;omega
  rw [this];rfl
 rw [hm];have hlen:((Ky p).cells.length:Int)=1 + p % 6:=by rw [(Zmf h0).2];omega
 simp only [Option.bind_some,bne_self_eq_false,Bool.not_false,Zd9,hlen,Bool.or_self,cond_false];rw [YW (n:=1 + p % 6) (by omega) (by omega)];simp only [bne_self_eq_false,Bool.or_self,cond_false]
theorem ZuL {α:Type} (l:List α) (N:Nat):slL l 0 (if(N:Int) < (l.length:Int) then(N:Int) else(l.length:Int))=some (l.take N):=by
 by_cases h:N < l.length
 ·rw [if_pos (by omega)];have:=Zdb (xs:=l) (a:=0) (b:=N) (by omega) (by omega);rw [List.drop_zero] at this;exact this
 ·rw [if_neg (by omega)];have:=Zdb (xs:=l) (a:=0) (b:=l.length) (by omega) (Nat.le_refl _);rw [List.drop_zero,List.take_length] at this;rw [List.take_of_length_le (by omega)];exact this
theorem Zqd (hF:1000 <=F) {p:Int} (h0:0 <=p) (h1:p <=255):ZqI F p []=some (Ky p,⟨[],[]⟩,true):=by
 rw [ZlV hF h0 h1];obtain⟨F',rfl⟩:=Nat.exists_eq_succ_of_ne_zero (n:=F) (by omega)
 rfl
theorem Zwx {d:Zm} (R:Rt w) (hf:XE d w.cells.length=true):doW w d=stepW w d:=by
 unfold doW;rw [R.right,hf];rfl
structure PI (w0:Za) (XA:List Zm) (w:Za):Prop where
 rt:Rt w
 len:w.cells.length=w0.cells.length
 form:∀ d ∈ XA,XE d (w0.cells.length:Int)=true
 go:XH w0 0 XA= (w,(XA.length:Int),0)
theorem Zg5 {w0:Za} (R0:Rt w0) {l:List Zm} (hl:l.length <=200) (hf:∀ d ∈ l,XE d (w0.cells.length:Int)=true):ZlP w0 l=XH w0 0 l:=by
 unfold ZlP;rw [decide_eq_false (by omega),cond_false,R0.right];have:(l.all fun d=>XE d w0.cells.length)=true:=by rw [List.all_eq_true];exact hf
 rw [this];rfl
theorem Zno (hF:1000 <=F) {w0:Za} (R0:Rt w0) (mo:Model) {p2:Int} (hp2:0 <=p2∧p2 <=255) (z:List Zah) (hz:z.length <=120) (hu:∀ a ∈ z,U8 a):∀ (k i F':Nat) (XA:List Zm) (w:Za),PI w0 XA w ->XA.length <=i ->i + k=z.length ->k < F' ->
 loop F' (ZhS F p2 (w0,mo,true) z) (XA,(i:Int),w.cells,w.notes,w.names,w.freed)=some true:=by
 intro k
 induction k with
 | zero=>
   intro i F' XA w P hdl hi hF';obtain⟨F',rfl⟩:=Nat.exists_eq_succ_of_ne_zero (n:=F') (by omega);rw [YF];simp only [ZhS];rw [decide_eq_false (by omega),cond_false,YW (n:=p2) (by omega) (by omega),QX (by omega)];obtain⟨e1,b0,b1⟩:=KR (a:=p2) (b:= ((XA.length + 1:Nat):Int)) hp2.1 (by omega);rw [e1,Option.bind_some];obtain⟨j,hj⟩:∃ j:Nat,p2 % ((XA.length + 1:Nat):Int)= (j:Int):= ⟨(p2 % ((XA.length + 1:Nat):Int)).toNat,by omega⟩
   rw [hj] at b0 b1 ⊢;have hjl:j <=XA.length:=by omega
   have hs1:=Zdb (xs:=XA) (a:=0) (b:=j) (by omega) hjl;have hs2:=Zdb (xs:=XA) (a:=j) (b:=XA.length) hjl (Nat.le_refl _);rw [List.drop_zero] at hs1;rw [List.take_length] at hs2;have hgo:=P.go;rw [← List.take_append_drop j XA] at hgo;obtain⟨w1,g1,g2⟩:=Zg6 _ _ _ _ _ _ hgo;have hft:∀ d ∈ XA.take j,XE d (w0.cells.length:Int)=true:=fun d hd=>P.form d (List.mem_of_mem_take hd)
   have hfd:∀ d ∈ XA.drop j,XE d (w0.cells.length:Int)=true:=fun d hd=>P.form d (List.mem_of_mem_drop hd)
   have r1:=ZiX w0.cells.length (XA.take j) w0 0 R0 rfl hft;rw [g1] at r1;have ZGZ:w1.cells.length=w0.cells.length:=r1.2;have p1:=Zg5 R0 (l:=XA.take j) (by rw [List.length_take];omega) hft
   have p2':=Zg5 r1.1 (l:=XA.drop j) (by rw [List.length_drop];omega) (by
    show ∀ d ∈ XA.drop j,XE d (w1.cells.length:Int)=true;rw [ZGZ];exact hfd)
   have g2':=ZdU _ _ _ _ 0 _ g2;rw [show slL XA 0 (j:Int)=some (XA.take j) from hs1,Option.bind_some,ZeQ hF R0.small,p1,g1,Option.bind_some];dsimp only;rw [hs2,Option.bind_some,ZeQ hF r1.1.small,p2',g2',Option.bind_some]
   have e3:ZV ((XA.length:Int) - (j:Int))= ((0 + (XA.drop j).length:Nat):Int):=by
    rw [YW (by omega) (by omega),List.length_drop];omega
   have e4:((0 + (XA.take j).length:Nat):Int)= (j:Int):=by rw [List.length_take];omega
   rw [e3,e4];have ew:(⟨w.cells,w.notes,w.names,w.freed⟩:Za)=w:=rfl;rw [ew];simp only [beq_self_eq_true,Bool.and_self,Zd9];rw [alike_refl hF P.rt.small];simp [gd,ZAr]
 | succ k ih=>
   intro i F' XA w P hdl hi hF';obtain⟨F',rfl⟩:=Nat.exists_eq_succ_of_ne_zero (n:=F') (by omega);have hlt:i < z.length:=by omega
   have hua:=hu z[i] (List.getElem_mem hlt);have:=P.rt.c1;have:=P.rt.c6;have:=P.rt.n0;have:=P.rt.n12;have:=P.rt.nts;rw [YF];simp only [ZhS];rw [decide_eq_true (by omega),cond_true,Yt,List.getElem?_eq_getElem hlt,Option.bind_some];obtain⟨d,b,e1,e2⟩:=ZwA hua (M:=w.cells.length) (nm:=w.names) (nt:=w.notes.length) ⟨by omega,by omega⟩ ⟨by omega,by omega⟩ ⟨by omega,by omega⟩;rw [e1,Option.bind_some];cases b
   ·simp only [Bool.not_false,cond_true];unfold ZbX;rw [QX (by omega)];exact ih (i + 1) F' XA w P (by omega) (by omega) (by omega)
   ·have D:=e2 rfl;have hfd:=D.form;simp only [Bool.not_true,cond_false];have ew:(⟨w.cells,w.notes,w.names,w.freed⟩:Za)=w:=rfl;rw [ew,Zwy hF P.rt.small,Option.bind_some,Zwx P.rt hfd];cases he:((stepW w d).2 !=0)
    ·have hok:(stepW w d).2=0:=by simpa using he
     obtain⟨s1,s2,s3⟩:=ZdN hok;obtain⟨r1,r2⟩:=ZgF P.rt hfd s1 s2;rw [cond_false,QD (by simp;omega) (by decide),Option.bind_some];unfold ZbX;rw [QX (by omega),s3];refine ih (i + 1) F' (XA ++ [d]) _ ⟨r1,r2.trans P.len,fun x hx=>?_,?_⟩ (by simp;omega) (by omega) (by omega)
     ·rcases List.mem_append.1 hx with h | h
      ·exact P.form x h
      ·rw [List.mem_singleton.1 h,← P.len];exact hfd
     ·rw [Zdh _ _ _ _ _ _ P.go];rw [Uo,show((stepW w d).2==0)=true by simp [hok],cond_true,s3,ZaR,List.length_append,List.length_singleton,Nat.zero_add]
    ·have hbad:(stepW w d).2 ≠ 0:=by simpa using he
     rw [cond_true];unfold Zwe;rw [QD (by simp only [List.length_nil];omega) (by decide)];simp only [Option.bind_some,List.nil_append];rw [QD (by simp;omega) (by decide),Option.bind_some]
     have hfa:∀ x ∈ XA ++ [d,d],XE x (w0.cells.length:Int)=true:=fun x hx=>by
      rcases List.mem_append.1 hx with h | h
      ·exact P.form x h
      ·have:x=d:=by simpa using h
       rw [this,← P.len];exact hfd
     have hp:ZlP w0 (XA ++ [d,d])= (w,(XA.length:Int),(stepW w d).2):=by
      rw [Zg5 R0 (by simp;omega) hfa,Zdh _ _ _ _ _ _ P.go];rw [Uo,show((stepW w d).2==0)=false by simpa using hbad,cond_false,Nat.zero_add]
     rw [ZeQ hF R0.small,hp,Option.bind_some];simp only [bne_self_eq_false,Bool.or_self,Bool.not_false,Zd9];rw [alike_refl hF P.rt.small,Option.bind_some];simp only [Bool.not_true,Bool.or_self,cond_false];unfold ZbX;rw [QX (by omega)];exact ih (i + 1) F' XA w P (by omega) (by omega) (by omega)
theorem Zih (p:Int) (l:List Zah) (at_:Int) (hp:0 <=p∧p <=255) (hl:∀ a ∈ l,U8 a) (ha:0 <=at_∧at_ <=255):ZqL 1000 p l at_=some true:=by
 have hF:1000 <=1000:=Nat.le_refl _;unfold ZqL;rw [Zqd hF hp.1 hp.2,Option.bind_some];simp only [Bool.not_true,cond_false];rw [show slL l 0 (if 120 < (l.length:Int) then 120 else(l.length:Int))=some (l.take 120) from ZuL l 120,Option.bind_some];obtain⟨R0,_⟩:=Zmf hp.1;have hlen:(l.take 120).length <=120:=by rw [List.length_take];omega
 exact Zno hF R0 ⟨[],[]⟩ ha (l.take 120) hlen (fun a h=>hl a (List.mem_of_mem_take h)) (l.take 120).length 0 1000 [] (Ky p) ⟨R0,rfl,by simp,rfl⟩ (by simp) (by omega) (by omega)
end
end Go.Proofs.Ytekpjgmhkkjhgaa
end
