/- Does Part 13 of the proof. -/
import Derived.Test.YtekpjgmhkkjhgaaDa12
set_option linter.all false
section
namespace Go.Proofs.Ytekpjgmhkkjhgaa
open Go.Lf
def Za3 (c:Zb):Zb:= ⟨c.name,c.root,c.from_,c.has,c.out,false⟩
def ZgM (w:Za) (m:Nat) (n:Int) (c:Zb):Za:=Qj (cw w m (put (Za3 c) (rowOf w m))) m n (Za3 c)
theorem Zvx {F:Nat} (hF:1000 <=F) {w:Za} (sm:Small w) {m:Nat} (hm:m < w.cells.length) (Xo:UB (rowOf w m)) (hrl:(rowOf w m).length < 900) (hnl:w.notes.length < 900) (d:Zv) (hd:d.Xf=3) (hat:d.at_= (m:Int)) {c:Zb} (hc:J5 (rowOf w m) d.name=some c):ZgZ F w d=some (ZgM w m d.name c):=by
 have hr:=Yl hm;have hn:=Qt hc;rcases find_eq hF sm hm d.name with⟨j,c',h1,h2,h3⟩ | ⟨h1,_⟩
 ·have hcc:c'=c:=by
   have:J5 (rowOf w m) d.name=some c':=h1;rw [hc] at this;exact(Option.some.inj this).symm
  subst hcc;unfold ZgZ ZgM;rw [hd,hat];have e1:((3:Int)==1)=false:=rfl;have e2:((3:Int)==2)=false:=rfl;have e5:((3:Int)==5)=false:=rfl;have e3:((3:Int)==3)=true:=rfl;rw [e1,e2,e5,e3];simp only [cond_false,cond_true,h3,Option.bind_some,ZB,hr,h2,YH,Int.toNat_natCast];have hA:At1 (cw w m (put (Za3 c') (rowOf w m))) m d.name:=At1.put sm hm Xo (by omega) (by omega) hn;have e:(rowOf w m).set j (⟨c'.name,c'.root,c'.from_,c'.has,c'.out,false⟩:Zb)=put (Za3 c') (rowOf w m):=Zei Xo h2 rfl;rw [e];have q:=hA.settle hF;rw [Jv (ZdV hm Xo (show(Za3 c').name=d.name from hn))] at q;exact(congrArg (fun o=>Option.bind o fun x=>some x) q).trans rfl
 ·exfalso;have:J5 (rowOf w m) d.name=none:=h1;rw [this] at hc;cases hc
theorem ZrO {F:Nat} (hF:100 <=F) {w:Za} {st:Store} (s:Qm w st) (u:UK st.cells) {m:Nat} (hm:m < w.cells.length) (Xo:UB (rowOf w m)) (hnl:w.notes.length < 1000) {n:Int} {c:Zb} (hc:J5 (rowOf w m) n=some c) (hi:CI c) (ha:Asc w.freed) (hf:w.freed.length <=11):
 ∃ st',ZgI F ⟨st.machines,st.names,Xh st.cells ⟨m,n⟩ (Za3 c),st.notes,st.freed⟩ m n=some st'∧Qm (ZgM w m n c) st'∧UK st'.cells:=by
 have hn:=Qt hc;have h1:=s.put hm Xo (c:=Za3 c) (n:=n) hn;exact Zal hF h1 (u.Xh _ _) (by rw [Yu];exact hm) hnl (ZdV hm Xo (show(Za3 c).name=n from hn)) hi ha hf
end Go.Proofs.Ytekpjgmhkkjhgaa
end
section
namespace Go.Proofs.Ytekpjgmhkkjhgaa
open Go.Lf
def goC (c:Zb) (ZH:Int):Zb:= ⟨c.name,false,ZH,16,c.out,c.use⟩
def goW (w:Za) (d:Zv) (m:Nat) (c:Zb):Za:=sent (cw w m (put (goC c d.ZH) (rowOf w m))) ⟨3,d.ZH,d.name,0,16⟩
theorem ZBY {F:Nat} (hF:1000 <=F) {w:Za} (sm:Small w) {m:Nat} (hm:m < w.cells.length) (Xo:UB (rowOf w m)) (d:Zv) (hd:d.Xf=4) (hat:d.at_= (m:Int)) {c:Zb} (hc:J5 (rowOf w m) d.name=some c):ZgZ F w d=some (goW w d m c):=by
 have hr:=Yl hm;have hn:=Qt hc;have hno:=sm.notes;rcases find_eq hF sm hm d.name with⟨j,c',h1,h2,h3⟩ | ⟨h1,_⟩
 ·have hcc:c'=c:=by
   have:J5 (rowOf w m) d.name=some c':=h1;rw [hc] at this;exact(Option.some.inj this).symm
  subst hcc;unfold ZgZ goW;rw [hd,hat];have e1:((4:Int)==1)=false:=rfl;have e2:((4:Int)==2)=false:=rfl;have e5:((4:Int)==5)=false:=rfl;have e3:((4:Int)==3)=false:=rfl;have hj:j < (rowOf w m).length:= (List.getElem?_eq_some_iff.1 h2).1;rw [e1,e2,e5,e3];have hsm:∀ (cs:List Row) (r:Row),m < cs.length ->(cs.set m r)[m]? =some r:=fun cs r h=>by simp [h]
  have hsj:∀ (r:Row) (x:Zb),j < r.length ->(r.set j x)[j]? =some x:=fun r x h=>by simp [h]
  simp only [cond_false,h3,Option.bind_some,ZB,hr,h2,YH,Int.toNat_natCast,List.set_set,hsm _ _ hm,hsj _ _ hj];rw [YL (by simp;omega) (by decide),Option.bind_some];have e:(rowOf w m).set j (⟨c'.name,false,d.ZH,16,c'.out,c'.use⟩:Zb)=put (goC c' d.ZH) (rowOf w m):=Zei Xo h2 rfl;rw [e]
  rfl
 ·exfalso;have:J5 (rowOf w m) d.name=none:=h1;rw [this] at hc;cases hc
theorem ZxG {w:Za} {st:Store} (s:Qm w st) (u:UK st.cells) {m:Nat} (hm:m < w.cells.length) (Xo:UB (rowOf w m)) (hnl:w.notes.length < 1000) (d:Zv) {c:Zb} (hc:J5 (rowOf w m) d.name=some c):
 ∃ st',Zat ⟨st.machines,st.names,Xh st.cells ⟨m,d.name⟩ (goC c d.ZH),st.notes,st.freed⟩ ⟨3,d.ZH,d.name,0,16⟩=some st'∧Qm (goW w d m c) st'∧UK st'.cells:=by
 have hn:=Qt hc;have h1:=s.put hm Xo (c:=goC c d.ZH) (n:=d.name) hn;obtain⟨st',q1,q2⟩:=h1.sent (by show w.notes.length < 1000;exact hnl) ⟨3,d.ZH,d.name,0,16⟩;refine⟨st',q1,q2,?_⟩;unfold Zat at q1;dsimp only at q1;rw [s.notes,YL (by simp;omega) (by decide)] at q1;cases q1;exact u.Xh _ _
end Go.Proofs.Ytekpjgmhkkjhgaa
end
section
namespace Go.Proofs.Ytekpjgmhkkjhgaa
open Go.Lf
def Xt (w:Za) (d:Zv) (m:Nat):Int:=
 bif d.Xf==1 then(bif decide (w.names >=12) then 3 else 0) else bif d.Xf==5 then(bif decide (d.at_ >= (w.notes.length:Int)) then 5 else 0) else
  match J5 (rowOf w m) d.name with
  | none=>7
  | some c=>bif d.Xf==4 then(bif !c.root then 7 else 0) else(bif !c.use then 7 else 0)
theorem Zpu {w:Za} {st:Store} (s:Qm w st) {m:Nat} (hm:m < w.cells.length) (d:Zv) (hat:d.Xf=1∨d.Xf=5∨d.at_= (m:Int)):Znj st d=some (bif Xt w d m==0 then .ok () else .Jr (Xt w d m)):=by
 unfold Znj Xt Zan;rw [Option.bind_some,s.n,s.notes];cases h1:(d.Xf==1)
 ·cases h5:(d.Xf==5)
  ·have ha:d.at_= (m:Int):=by
    rcases hat with h | h | h
    ·rw [h] at h1;cases h1
    ·rw [h] at h5;cases h5
    ·exact h
   rw [ha,s.get hm];simp only [cond_false];cases hf:J5 (rowOf w m) d.name with
   | none=>
     cases (d.Xf==4) <;> rfl
   | some c=>
     cases (d.Xf==4)
     ·cases hu:c.use <;> simp [hu]
     ·cases hr:c.root <;> simp [hr]
  ·simp only [cond_false,cond_true];cases decide (d.at_ >= (w.notes.length:Int)) <;> rfl
 ·simp only [cond_true];cases decide (w.names >=12) <;> rfl
theorem ZrR {F:Nat} (hF:1000 <=F) {w:Za} (sm:Small w) {m:Nat} (hm:m < w.cells.length) (d:Zv) (hat:d.Xf=1∨d.Xf=5∨d.at_= (m:Int)):Zu1 F w d=some (Xt w d m):=by
 have hr:=Yl hm;unfold Zu1 Xt;cases h1:(d.Xf==1)
 ·cases h5:(d.Xf==5)
  ·have ha:d.at_= (m:Int):=by
    rcases hat with h | h | h
    ·rw [h] at h1;cases h1
    ·rw [h] at h5;cases h5
    ·exact h
   rw [ha];simp only [cond_false];rcases find_eq hF sm hm d.name with⟨j,c,q1,q2,q3⟩ | ⟨q1,q3⟩
   ·have hf:J5 (rowOf w m) d.name=some c:=q1;have hj:decide ((j:Int) < 0)=false:=decide_eq_false (by omega);rw [q3,hf];simp only [Option.bind_some,hj];cases h4:(d.Xf==4)
    ·have h4':(d.Xf !=4)=true:=by simp only [bne,h4];rfl
     cases hu:c.use <;> simp [gd,h4',ZB,hr,q2,hu]
    ·have h4':(d.Xf !=4)=false:=by simp only [bne,h4];rfl
     cases hro:c.root <;> simp [gd,h4',ZB,hr,q2,hro]
   ·have hf:J5 (rowOf w m) d.name=none:=q1;rw [q3,hf]
    rfl
  ·simp only [cond_false,cond_true];cases decide (d.at_ >= (w.notes.length:Int)) <;> rfl
 ·simp only [cond_true];cases decide (w.names >=12) <;> rfl
end Go.Proofs.Ytekpjgmhkkjhgaa
end
section
namespace Go.Proofs.Ytekpjgmhkkjhgaa
open Go.Lf
theorem ZwX {F:Nat} (hF:1000 <=F) {w:Za} (sm:Small w):∃ cs,Zjs F w=some ⟨(w.cells.length:Int),w.names,cs,w.notes,w.freed⟩∧UK cs:=by
 have hc:=sm.cells;have hn:=sm.notes;have hf:=sm.freed;unfold Zjs Zpb Zpa;rw [YL (by simp only [List.length_nil];omega) (by decide),YL (by simp only [List.length_nil];omega) (by decide)];simp only [Option.bind_some,List.nil_append]
 have inner:∀ (m:Nat) (row:List Zb) (next:Int×(List (Zg×Zb)) ->Option Store) (l:List (Zg×Zb)),w.cells[m]? =some row ->UK l ->∃ l',UK l'∧loop F (ZaH m next row) (0,l)=next (ZQ ((m:Int) + 1),l'):=by
  intro m row next l hm hI;have hr:=sm.rows row (List.mem_of_getElem? hm)
  have e:=Yd row (fun v s=>(v,s)) (ZaH m next row) (fun _ c s nx=>nx (Xh s (Zg.mk m c.name) c)) (fun s=>next (ZQ ((m:Int) + 1),s)) (by omega) (fun k y s nx hy hk=>by
   simp only [ZaH,ZB,hy,hk,decide_true,cond_true,Option.bind_some]) (fun s nx=>by simp only [ZaH];rw [decide_eq_false (by omega),cond_false]) (by omega:row.length < F) l
  obtain⟨e2,hJ⟩:=Y6 (d:=fun s=>next (ZQ ((m:Int) + 1),s)) (g:=fun(_:Nat) (c:Zb) s nx=>nx (Xh s (Zg.mk m c.name) c)) (fun _ c s=>Xh s (Zg.mk m c.name) c) (fun _ s=>UK s) (l:=row) (i:=0) (s:=l) hI (fun k c s nx hk hJ=>⟨rfl,hJ.Xh _ _⟩);exact⟨_,hJ,e.trans e2⟩
 have key:∀ (d m:Nat) (F':Nat) (l:List (Zg×Zb)),m + d=w.cells.length ->d < F' ->UK l ->∃ cs,loop F' (ZaI F w w.notes w.freed) ((m:Int),l)=some ⟨(w.cells.length:Int),w.names,cs,w.notes,w.freed⟩∧UK cs:=by
  intro d
  induction d with
  | zero=>
    intro m F' l hm hF' hI;obtain⟨F',rfl⟩:=Nat.exists_eq_succ_of_ne_zero (n:=F') (by omega);refine⟨l,?_,hI⟩;rw [Y9];simp only [ZaI];rw [decide_eq_false (by omega),cond_false]
  | succ d ih=>
    intro m F' l hm hF' hI;obtain⟨F',rfl⟩:=Nat.exists_eq_succ_of_ne_zero (n:=F') (by omega);have hr:=Yl (w:=w) (m:=m) (by omega);obtain⟨l',q1,q2⟩:=inner m _ (loop F' (ZaI F w w.notes w.freed)) l hr hI;obtain⟨cs,q3,q4⟩:=ih (m + 1) F' l' (by omega) (by omega) q1;refine⟨cs,?_,q4⟩;rw [Y9];simp only [ZaI];rw [decide_eq_true (by omega),cond_true,ZB,hr,Option.bind_some,q2,JC (by omega),q3]
 exact key w.cells.length 0 F [] (by omega) (by omega) UK.nil
end Go.Proofs.Ytekpjgmhkkjhgaa
end
section
namespace Go.Proofs.Ytekpjgmhkkjhgaa
open Go.Lf
def XC (w:Za) (n:Int):CV:=fun a=>if 0 <=a∧a < (w.cells.length:Int) then cellOf w a.toNat n else none
def Uu (w:Za) (n:Int):List Zf:=w.notes.filter fun x=>x.name==n
def Mst (M:Nat) (cv:CV) (ns:List Zf):Prop:=∀ a:Int,0 <=a ->a < M ->K6 cv ns a <=1000000
structure Rt (w:Za):Prop where
 c1:1 <=w.cells.length
 c6:w.cells.length <=6
 n0:0 <=w.names
 n12:w.names <=12
 nts:w.notes.length <=80
 fr:w.freed.Pairwise (· < ·)
 frr:∀ x ∈ w.freed,0 <=x∧x < w.names
 Xo:∀ m,m < w.cells.length ->UB (rowOf w m)
 cn:∀ m,m < w.cells.length ->∀ c ∈ rowOf w m,Ym w c.name=true∧(c.use=true∨c.out ≠ 0)
 nn:∀ x ∈ w.notes,Ym w x.name=true
 nm:∀ n,Ym w n=true ->∃ h,Nm w.cells.length n (XC w n) (Uu w n) h∧Mst w.cells.length (XC w n) (Uu w n)
section
variable {w:Za} {n:Int}
theorem Wm {m:Nat} (hm:m < w.cells.length) (n:Int):XC w n (m:Int)=cellOf w m n:=by
 unfold XC;rw [if_pos (by omega)]
 rfl
theorem QO {a:Int} {c:Zb} (h:XC w n a=some c):(0 <=a∧a < (w.cells.length:Int))∧cellOf w a.toNat n=some c:=by
 unfold XC at h;split at h
 ·rename_i z;exact⟨z,h⟩
 ·cases h
theorem Zdz (w:Za) (m n:Int):Xb (Qd m) (Uu w n)=16 * (ZaE w m n:Int):=by
 unfold Uu ZaE
 induction w.notes with
 | nil=>rfl
 | cons x l ih=>
   rw [List.countP_cons,List.filter_cons];by_cases hn:x.name=n
   ·have:(x.name==n)=true:=by simp [hn]
    rw [this,if_pos rfl];simp only [Xb,ih,Bool.and_true];unfold Qd;by_cases z:x.kind=3∧x.ZH=m
    ·rw [if_pos z,if_pos (by simp [z.1,z.2])];omega
    ·rw [if_neg z,if_neg (by simpa using z)];omega
   ·have:(x.name==n)=false:=by simp [hn]
    rw [this,if_neg (by simp),ih];simp
theorem Zie (w:Za) {m:Nat} (hm:m < w.cells.length) (n:Int):XB w m n=ZQ (K6 (XC w n) (Uu w n) m):=by
 unfold XB K6;rw [Zdz,Wm hm];unfold ZjQ Qr;congr 1;cases cellOf w m n <;> dsimp only <;> omega
theorem ZoR (m n:Int) (l:List Zf) (t:Int):l.foldl (fun s x=>ZaX m n x s) (ZQ t)=ZQ (t + Xb (U8 m) (l.filter fun x=>x.name==n)):=by
 induction l generalizing t with
 | nil=>simp [Xb]
 | cons x l ih=>
   rw [List.foldl_cons,List.filter_cons];by_cases hn:x.name=n
   ·have hb:(x.name==n)=true:=by simp [hn]
    rw [hb,if_pos rfl];unfold ZaX;rw [hb,Bool.true_and];simp only [Xb];rw [show U8 m x=if(x.kind=1∧x.via=m)∨(x.kind=2∧x.ZH=m) then x.w else 0 from rfl];by_cases z:(x.kind=1∧x.via=m)∨(x.kind=2∧x.ZH=m)
    ·have:((x.kind==1) && (x.via==m) || (x.kind==2) && (x.ZH==m))=true:=by simpa using z
     rw [this,cond_true,Zg5,if_pos z];refine(ih _).trans ?_;congr 1;omega
    ·have:((x.kind==1) && (x.via==m) || (x.kind==2) && (x.ZH==m))=false:=by
      rw [← Bool.not_eq_true];simpa using z
     rw [this,cond_false,if_neg z];refine(ih _).trans ?_;congr 1;omega
   ·have hb:(x.name==n)=false:=by simp [hn]
    rw [hb,if_neg (by simp)];have:ZaX m n x (ZQ t)=ZQ t:=by unfold ZaX;rw [hb];rfl
    rw [this];exact ih t
theorem ZoS (w:Za) (m n:Int) {M:Nat} (hM:M <=w.cells.length):(List.range M).foldl (fun s k=>Zew w m n k s) 0=ZQ (Zai (fun k=>Km m (XC w n k)) M):=by
 induction M with
 | zero=>rfl
 | succ M ih=>
   rw [List.range_succ,List.foldl_append,ih (by omega)];simp only [List.foldl_cons,List.foldl_nil,Zai];rw [Wm (by omega)];unfold Zew Km;cases cellOf w M n with
   | none=>simp
   | some c=>
     dsimp only;by_cases z:c.from_=m
     ·rw [if_pos z,show(c.from_==m)=true by simp [z],cond_true,Zg5]
     ·rw [if_neg z,show(c.from_==m)=false by simp [z],cond_false];simp
theorem Zru (w:Za) (m n:Int):Zbv w m n=ZQ (Jw w.cells.length (XC w n) (Uu w n) m):=by
 unfold Zbv Jw Uu;rw [ZoS w m n (Nat.le_refl _),ZoR]
theorem Zht {f:Zf ->Int} {l:List Zf} {B:Int} (h:∀ x ∈ l,0 <=f x∧f x <=B):0 <=Xb f l∧Xb f l <=B * (l.length:Int):=by
 induction l with
 | nil=>simp [Xb]
 | cons x l ih=>
   have h1:=h x (by simp);have h2:=ih fun y hy=>h y (by simp [hy])
   simp only [Xb,List.length_cons]
   have:B * ((l.length + 1:Nat):Int)=B * (l.length:Int) + B:=by
    rw [Int.natCast_add,Int.mul_add];simp
   omega
theorem Zoc {f:Nat ->Int} {B:Int} {M:Nat} (h:∀ m,m < M ->0 <=f m∧f m <=B):0 <=Zai f M∧Zai f M <=B * (M:Int):=by
 induction M with
 | zero=>simp [Zai]
 | succ M ih=>
   have h1:=h M (by omega);have h2:=ih fun m hm=>h m (by omega)
   simp only [Zai]
   have:B * ((M + 1:Nat):Int)=B * (M:Int) + B:=by
    rw [Int.natCast_add,Int.mul_add];simp
   omega
theorem Za6 {m:Int} {c:Zb} (h:J6 w m c=true):Ym w c.name=true∧(-16 <=c.out∧c.out <=1000000)∧(c.use=true∨c.out ≠ 0)∧
 ((c.root=false∧0 <=c.from_∧c.from_ < (w.cells.length:Int)∧c.from_ ≠ m∧1 <=c.has∧c.has <=1000000)∨(c.from_=-1∧c.has=0)):=by
 unfold J6 KA at h;rw [Bool.and_eq_true,Bool.and_eq_true,Bool.and_eq_true] at h;obtain⟨⟨⟨h1,h2⟩,h3⟩,h4⟩:=h;refine⟨h1,by simpa using h2,?_,?_⟩
 ·simpa using h3
 ·cases hr:(c.root || c.from_==-1)
  ·rw [hr,cond_false] at h4;simp at h4 hr;exact .inl ⟨hr.1,by omega,by omega,h4.1.2,by omega,by omega⟩
  ·rw [hr,cond_true] at h4;simp at h4;exact .inr h4
theorem ZvI {m:Int} {c:Zb} (h1:Ym w c.name=true) (h2:-16 <=c.out∧c.out <=1000000) (h3:c.use=true∨c.out ≠ 0)
 (h4:(c.root=false∧0 <=c.from_∧c.from_ < (w.cells.length:Int)∧c.from_ ≠ m∧1 <=c.has∧c.has <=1000000)∨(c.from_=-1∧c.has=0)):J6 w m c=true:=by
 unfold J6 KA;rw [Bool.and_eq_true,Bool.and_eq_true,Bool.and_eq_true];refine⟨⟨⟨h1,by simpa using h2⟩,by simpa using h3⟩,?_⟩;rcases h4 with⟨q1,q2,q3,q4,q5,q6⟩ | ⟨q1,q2⟩
 ·have:(c.root || c.from_==-1)=false:=by simp [q1];omega
  rw [this,cond_false];simp;exact⟨⟨⟨q2,q3⟩,q4⟩,q5,q6⟩
 ·have:(c.root || c.from_==-1)=true:=by simp [q1]
  rw [this,cond_true];simp [q1,q2]
theorem KQ {x:Zf} (h:JL w x=true):(0 <=x.ZH∧x.ZH < (w.cells.length:Int))∧Ym w x.name=true∧(1 <=x.w∧x.w <=1000000)∧
 ((x.kind=1∧0 <=x.via∧x.via < (w.cells.length:Int))∨(x.kind=2∧x.via=0)∨(x.kind=3∧x.via=0∧x.w=16)):=by
 unfold JL KA at h;rw [Bool.and_eq_true,Bool.and_eq_true,Bool.and_eq_true] at h;obtain⟨⟨⟨h1,h2⟩,h3⟩,h4⟩:=h;refine⟨by simpa using h1,h2,by simpa using h3,?_⟩;cases k1:(x.kind==1)
 ·rw [k1,cond_false] at h4;cases k2:(x.kind==2)
  ·rw [k2,cond_false] at h4;simp at h4;exact .inr (.inr ⟨h4.1.1,h4.1.2,h4.2⟩)
  ·rw [k2,cond_true] at h4;exact .inr (.inl ⟨by simpa using k2,by simpa using h4⟩)
 ·rw [k1,cond_true] at h4;exact .inl ⟨by simpa using k1,by simpa using h4⟩
theorem ZsY {x:Zf} (h1:0 <=x.ZH∧x.ZH < (w.cells.length:Int)) (h2:Ym w x.name=true) (h3:1 <=x.w∧x.w <=1000000)
 (h4:(x.kind=1∧0 <=x.via∧x.via < (w.cells.length:Int))∨(x.kind=2∧x.via=0)∨(x.kind=3∧x.via=0∧x.w=16)):JL w x=true:=by
 unfold JL KA;rw [Bool.and_eq_true,Bool.and_eq_true,Bool.and_eq_true];refine⟨⟨⟨by simpa using h1,h2⟩,by simpa using h3⟩,?_⟩;rcases h4 with⟨k,v⟩ | ⟨k,v⟩ | ⟨k,v,u⟩
 ·rw [k];simpa using v
 ·rw [k];simpa using v
 ·rw [k];simp [v,u]
theorem Shp.Zgu (sh:Shp w) {m:Nat} (hm:m < w.cells.length) (n:Int):XB w m n=K6 (XC w n) (Uu w n) m:=by
 rw [Zie w hm];have h1:=Zht (f:=Qd (m:Int)) (l:=Uu w n) (B:=16) (fun x _=>by unfold Qd;split <;> omega);have h2:(Uu w n).length <=w.notes.length:=List.length_filter_le _ _;have h3:=sh.notes
 have h4:-16 <=Qr (XC w n m)∧Qr (XC w n m) <=1000000:=by
  rw [Wm hm];cases e:cellOf w m n with
  | none=>simp [Qr]
  | some c=>
    obtain⟨row,k,r1,r2⟩:=Zac e;exact(Za6 (sh.cell m row k c r1 r2).1).2.1
 unfold K6;rw [Q5] <;> omega
theorem Shp.Zhw (sh:Shp w) {m:Nat} (hm:m < w.cells.length) (n:Int):Zbv w m n=Jw w.cells.length (XC w n) (Uu w n) m:=by
 rw [Zru w]
 have h1:=Zht (f:=U8 (m:Int)) (l:=Uu w n) (B:=1000000) (fun x hx=>by
  have:=KQ (sh.note x (List.mem_filter.1 hx).1);unfold U8;split <;> omega)
 have h2:(Uu w n).length <=w.notes.length:=List.length_filter_le _ _;have h3:=sh.notes
 have h4:=Zoc (f:=fun k=>Km (m:Int) (XC w n k)) (B:=1000000) (M:=w.cells.length) (fun k hk=>by
  rw [Wm hk];cases e:cellOf w k n with
  | none=>simp [Km]
  | some c=>
    obtain⟨row,j,r1,r2⟩:=Zac e;have:= (Za6 (sh.cell k row j c r1 r2).1).2.2.2;unfold Km;dsimp only;split <;> omega)
 have:=sh.c6;unfold Jw;rw [Q5] <;> omega
theorem Kk (n h:Int) (k:Nat):YN w n h k h=true:=by cases k <;> simp [YN]
theorem ZgE {h:Int}:∀ {k:Nat} {a:Int},YN w n h k a=true ->YN w n h (k + 1) a=true
 | 0,a,q=>by
   have:a=h:=by simpa [YN] using q
   subst this;exact Kk _ _ _
 | k + 1,a,q=>by
   rw [YN] at q ⊢;cases e:(a==h)
   ·rw [e,cond_false] at q;rw [cond_false];cases ec:cellOf w a.toNat n with
    | none=>rw [ec] at q;cases q
    | some c=>
      rw [ec] at q;dsimp only at q ⊢;cases ef:decide (c.from_ < 0)
      ·rw [ef,cond_false] at q;exact ZgE q
      ·rw [ef] at q;cases q
   ·rfl
theorem ZkT {h:Int} {k:Nat} {a:Int} (q:YN w n h k a=true):a=h∨cellOf w a.toNat n ≠ none:=by
 by_cases e:a=h
 ·exact .inl e
 ·right;intro z;cases k with
  | zero=>exact e (by simpa [YN] using q)
  | succ k=>
    rw [YN,z,show(a==h)=false by simp [e]] at q;cases q
theorem UH {h:Int} {k:Nat} {a:Int} {c:Zb} (ha:a ≠ h) (hc:cellOf w a.toNat n=some c):YN w n h (k + 1) a= (!decide (c.from_ < 0) && YN w n h k c.from_):=by
 rw [YN,hc,show(a==h)=false by simp [ha],cond_false];dsimp only;cases decide (c.from_ < 0) <;> rfl
theorem Zgb {α:Type} {p q:α ->Bool} {l:List α} (h:∀ x ∈ l,p x=true ->q x=true) {x:α} (hx:x ∈ l) (h1:p x=false) (h2:q x=true):l.countP p < l.countP q:=by
 induction l with
 | nil=>simp at hx
 | cons y l ih=>
   rw [List.countP_cons,List.countP_cons];have hm:l.countP p <=l.countP q:=List.countP_mono_left fun z hz=>h z (by simp [hz])
   have hy:=h y (by simp);rcases List.mem_cons.1 hx with rfl | hx
   ·rw [h1,h2];simp;omega
   ·have:=ih (fun z hz=>h z (by simp [hz])) hx;cases ep:p y
    ·simp;omega
    ·rw [hy ep];simp;omega
theorem switch {f:Nat ->Bool}:∀ {K:Nat},f 0=false ->f (K + 1)=true ->∃ j,j <=K∧f j=false∧f (j + 1)=true
 | 0,h0,h1=>⟨0,Nat.le_refl _,h0,h1⟩
 | K + 1,h0,h1=>by
   cases e:f (K + 1) with
   | false=>exact⟨K + 1,Nat.le_refl _,e,h1⟩
   | true=>
     obtain⟨j,j1,j2⟩:=switch h0 e;exact⟨j,by omega,j2⟩
theorem Zw6 {h:Int} (sh:Shp w) (L:JN w n h=true):∃ dep:Int ->Nat,∀ m c,XC w n m=some c ->m ≠ h ->0 <=c.from_∧(XC w n c.from_ ≠ none∨c.from_=h)∧dep c.from_ < dep m:=by
 have all:∀ m:Nat,m < w.cells.length ->cellOf w m n ≠ none ->YN w n h w.cells.length m=true:=by
  intro m hm hc;unfold JN at L;rw [Bool.not_eq_true',List.any_eq_false] at L;have:=L m (List.mem_range.2 hm);cases e:YN w n h w.cells.length m with
  | true=>rfl
  | false=>
    exfalso;apply this;rw [e];cases ec:cellOf w m n with
    | none=>exact absurd ec hc
    | some c=>rfl
 refine⟨fun a=>(List.range (w.cells.length + 1)).countP fun k=>!YN w n h k a,fun m c hc hm=>?_⟩;obtain⟨hr,hc'⟩:=QO hc;have hmn:((m.toNat:Nat):Int)=m:=by omega
 have q:=all m.toNat (by omega) (by rw [hc'];simp);rw [hmn] at q;have hM:=sh.c1;obtain⟨K,hK⟩:=Nat.exists_eq_succ_of_ne_zero (n:=w.cells.length) (by omega);rw [hK,UH hm hc',Bool.and_eq_true] at q;have hf:0 <=c.from_:=by have:=q.1;simp at this;omega
 have hfr:=sh.from_ hc' (by omega);refine⟨hf,?_,?_⟩
 ·rcases ZkT q.2 with z | z
  ·exact .inr z
  ·left;unfold XC;rw [if_pos hfr];exact z
 ·have hp:w.cells.length=K + 1:=hK
  obtain⟨j,j1,j2,j3⟩:=switch (f:=fun k=>YN w n h k m) (K:=K) (by simp [YN,hm]) (by
   show YN w n h (K + 1) m=true;rw [UH hm hc',Bool.and_eq_true];exact q)
  rw [UH hm hc',Bool.and_eq_true] at j3;refine Zgb (x:=j) (fun k hk hp=>?_) (List.mem_range.2 (by omega)) (by rw [j3.2];rfl) (by rw [j2];rfl);rw [Bool.not_eq_true'] at hp ⊢;cases k with
  | zero=>simp [YN,hm]
  | succ k=>
    rw [UH hm hc',Bool.and_eq_false_iff];right;cases e:YN w n h k c.from_ with
    | false=>rfl
    | true=>rw [ZgE e] at hp;cases hp
theorem Zw5 {h:Int} (L:∃ dep:Int ->Nat,∀ m c,XC w n m=some c ->m ≠ h ->0 <=c.from_∧(XC w n c.from_ ≠ none∨c.from_=h)∧dep c.from_ < dep m):JN w n h=true:=by
 obtain⟨dep,L⟩:=L
 let S:Int ->Nat ->Bool:=fun a k=>(XC w n (k:Int)).isSome && decide (dep k < dep a)
 let rk:Int ->Nat:=fun a=>(List.range w.cells.length).countP (S a)
 have key:∀ k a c,rk a <=k ->XC w n a=some c ->YN w n h (k + 1) a=true:=by
  intro k
  induction k with
  | zero=>
    intro a c hk hc;by_cases ha:a=h
    ·subst ha;exact Kk _ _ _
    ·obtain⟨l1,l2,l3⟩:=L a c hc ha;rw [UH ha (QO hc).2,Bool.and_eq_true];refine⟨by simp;omega,?_⟩;by_cases z:c.from_=h
     ·rw [z];exact Kk _ _ _
     ·exfalso;have l2:XC w n c.from_ ≠ none:=by rcases l2 with q | q;exact q;exact absurd q z
      obtain⟨d,hd⟩:=Option.ne_none_iff_exists'.1 l2;have hr:= (QO hd).1;have hf:((c.from_.toNat:Nat):Int)=c.from_:=by omega
      have:0 < rk a:=by
       refine List.countP_pos_iff.2 ⟨c.from_.toNat,List.mem_range.2 (by omega),?_⟩;show((XC w n ((c.from_.toNat:Nat):Int)).isSome && decide (dep ((c.from_.toNat:Nat):Int) < dep a))=true
       rw [hf,hd];simpa using l3
      omega
  | succ k ih=>
    intro a c hk hc;by_cases ha:a=h
    ·subst ha;exact Kk _ _ _
    ·obtain⟨l1,l2,l3⟩:=L a c hc ha;rw [UH ha (QO hc).2,Bool.and_eq_true];refine⟨by simp;omega,?_⟩;by_cases z:c.from_=h
     ·rw [z];exact Kk _ _ _
     ·have l2:XC w n c.from_ ≠ none:=by rcases l2 with q | q;exact q;exact absurd q z
      obtain⟨d,hd⟩:=Option.ne_none_iff_exists'.1 l2;have hr:= (QO hd).1;have hf:((c.from_.toNat:Nat):Int)=c.from_:=by omega
      refine ih c.from_ d ?_ hd
      have:rk c.from_ < rk a:=by
       refine Zgb (x:=c.from_.toNat) (fun j hj hp=>?_) (List.mem_range.2 (by omega)) ?_ ?_
       ·have hp:((XC w n (j:Int)).isSome && decide (dep j < dep c.from_))=true:=hp;show((XC w n (j:Int)).isSome && decide (dep j < dep a))=true;rw [Bool.and_eq_true,decide_eq_true_eq] at hp ⊢;exact⟨hp.1,by omega⟩
       ·show((XC w n ((c.from_.toNat:Nat):Int)).isSome && decide (dep ((c.from_.toNat:Nat):Int) < dep c.from_))=false
        rw [hf];simp
       ·show((XC w n ((c.from_.toNat:Nat):Int)).isSome && decide (dep ((c.from_.toNat:Nat):Int) < dep a))=true
        rw [hf,hd];simpa using l3
      omega
 unfold JN;rw [Bool.not_eq_true',List.any_eq_false];intro m hm;rw [List.mem_range] at hm;rw [Bool.not_eq_true];cases e:cellOf w m n with
 | none=>rfl
 | some c=>
   have hc:XC w n m=some c:=by rw [Wm hm];exact e
   have:rk m < w.cells.length:=by
    have:=Zgb (p:=S m) (q:=fun _=>true) (l:=List.range w.cells.length) (fun _ _ _=>rfl) (x:=m) (List.mem_range.2 hm) (by show((XC w n (m:Int)).isSome && decide (dep m < dep m))=false;simp) rfl
    simpa [rk] using this
   obtain⟨K,hK⟩:=Nat.exists_eq_succ_of_ne_zero (n:=w.cells.length) (by omega);have:=key K m c (by omega) hc;rw [hK,this];rfl
end
end Go.Proofs.Ytekpjgmhkkjhgaa
end
section
namespace Go.Proofs.Ytekpjgmhkkjhgaa
open Go.Lf
theorem ZqW {α:Type} [Inhabited α] (f:α ->Int) {l:List α} (h:∀ k x,l[k]? =some x ->0 < k ->f (Qc l k) < f x):l.Pairwise fun a b=>f a < f b:=by
 rw [List.pairwise_iff_getElem]
 have key:∀ (j i:Nat) (hi:i < l.length) (hj:j < l.length),i < j ->f l[i] < f l[j]:=by
  intro j
  induction j with
  | zero=>intro i hi hj h;omega
  | succ j ih=>
    intro i hi hj hij;have q:=h (j + 1) l[j + 1] (by simp [hj]) (by omega)
    have e:Qc l (j + 1)=l[j]'(by omega):=by
     unfold Qc;rw [Nat.add_sub_cancel,List.getElem?_eq_getElem (by omega)];rfl
    rw [e] at q;by_cases z:i=j
    ·subst z;exact q
    ·have:=ih i hi (by omega) (by omega);omega
 exact fun i j hi hj hij=>key j i hi hj hij
theorem ZqX {α:Type} [Inhabited α] (f:α ->Int) {l:List α} (h:l.Pairwise fun a b=>f a < f b) {k:Nat} {x:α} (hk:l[k]? =some x) (h0:0 < k):f (Qc l k) < f x:=by
 rw [List.pairwise_iff_getElem] at h;obtain⟨hl,rfl⟩:=List.getElem?_eq_some_iff.1 hk
 have e:Qc l k=l[k - 1]'(by omega):=by
  unfold Qc;rw [List.getElem?_eq_getElem (by omega)];rfl
 rw [e];exact h _ _ _ _ (by omega)
theorem Za8 {b:Int}:∀ {l:List Int} {a:Int},l.Pairwise (· < ·) ->(∀ x ∈ l,a <=x∧x < b) ->a <=b ->a + (l.length:Int) <=b
 | [],a,_,_,h=>by simp;exact h
 | x::l,a,p,hr,h=>by
   rw [List.pairwise_cons] at p;have h0:=hr x (by simp);have:=Za8 (l:=l) (a:=x + 1) (b:=b) p.2 (fun y hy=>by have h1:=p.1 y hy;have h2:=hr y (by simp [hy]);omega) (by omega);simp only [List.length_cons];omega
theorem Zd0 {α:Type} {c:Nat ->α ->Bool} {l:List α} (h:∀ k x,l[k]? =some x ->c k x=false):anyI c 0 l=false:=by
 rw [← Bool.not_eq_true,Za9];rintro⟨k,x,h1,h2⟩;rw [Nat.zero_add,h k x h1] at h2;cases h2
theorem ZyS {α:Type} {c:Nat ->α ->Bool} {l:List α} (h:anyI c 0 l=false) {k:Nat} {x:α} (hk:l[k]? =some x):c k x=false:=by
 rw [← Bool.not_eq_true,Za9] at h;cases e:c k x with
 | false=>rfl
 | true=>exact absurd ⟨k,x,hk,by rw [Nat.zero_add];exact e⟩ h
section
variable {w:Za} {n:Int}
theorem ZwP {m:Nat} (hm:m < w.cells.length) {c:Zb} (hc:c ∈ rowOf w m):∃ k:Nat,w.cells[m]? =some (rowOf w m)∧(rowOf w m)[k]? =some c:=by
 obtain⟨k,hk⟩:=List.getElem?_of_mem hc;exact⟨k,Yl hm,hk⟩
theorem ZlH {m:Nat} (hm:m < w.cells.length) (n:Int):Ze2 w m n=ZaE w m n + Uh (XC w n m):=by
 rw [Wm hm];unfold Ze2 Uh;cases cellOf w m n with
 | none=>rfl
 | some c=>dsimp only;cases c.root <;> rfl
theorem ZoM {m:Int} {x:Zf} (hx:x ∈ Uu w n) (k:x.kind=3) (h:x.ZH=m):1 <=ZaE w m n:=by
 unfold Uu at hx;rw [List.mem_filter] at hx;refine List.countP_pos_iff.2 ⟨x,hx.1,?_⟩;simp [k,h];simpa using hx.2
theorem Rt.of (h:Us w=true):Rt w:=by
 unfold Us at h;rw [Bool.and_eq_true] at h;obtain⟨hs,hn⟩:=h;have sh:=ZbX hs;unfold U3 at hs;simp only [Bool.and_eq_true,Bool.not_eq_true'] at hs;obtain⟨s1,s2,s3,s4⟩:=hs
 have hfr:∀ k x,w.freed[k]? =some x ->(0 <=x∧x < w.names)∧(0 < k ->Qc w.freed k < x):=by
  intro k x hk;have:=ZyS s2 hk;unfold QN at this;simp at this;exact⟨this.1,fun h0=>this.2 h0⟩
 refine⟨sh.c1,sh.c6,sh.n0,sh.n12,sh.notes,ZqW (fun x=>x) (fun k x hk h0=>(hfr k x hk).2 h0),?_,?_,?_,?_,?_⟩
 ·intro x hx;obtain⟨k,hk⟩:=List.getElem?_of_mem hx;exact(hfr k x hk).1
 ·intro m hm;exact ZqW (fun c:Zb=>c.name) (fun k c hk h0=>(sh.cell m _ k c (Yl hm) hk).2 h0)
 ·intro m hm c hc;obtain⟨k,r1,r2⟩:=ZwP hm hc;have:=Za6 (sh.cell m _ k c r1 r2).1;exact⟨this.1,this.2.2.1⟩
 ·exact fun x hx=>(KQ (sh.note x hx)).2.1
 ·intro n hnn
  have hr:0 <=n∧n < w.names:=by
   have:=hnn;unfold Ym at this;simp at this;exact this.1
  rw [Bool.not_eq_true',List.any_eq_false] at hn
  have hro:Q8 w n=true:=by
   have:=hn n.toNat (List.mem_range.2 (by omega));rw [show((n.toNat:Nat):Int)=n by omega,hnn] at this;cases e:Q8 w n with
   | true=>rfl
   | false=>rw [e] at this;exact absurd rfl this
  unfold Q8 at hro;simp only [Bool.and_eq_true,Bool.not_eq_true',beq_iff_eq] at hro;obtain⟨h1,h2,h3⟩:=hro;rw [List.any_eq_false] at h1
  have hbad:∀ m:Nat,m < w.cells.length ->K6 (XC w n) (Uu w n) m=Jw w.cells.length (XC w n) (Uu w n) m∧K6 (XC w n) (Uu w n) m <=1000000:=by
   intro m hm;have:=h1 m (List.mem_range.2 hm);unfold Zg1 at this;rw [sh.Zgu hm,sh.Zhw hm] at this
   simpa using this
  obtain⟨f1,f2⟩:=Zfs sh n
  have hL:Y8 w n= [(Qp w n).2]:=by
   have:(Y8 w n).length=1:=by
    unfold Qp at h2;rw [f1] at h2;omega
   obtain⟨z,hz⟩:=List.length_eq_one_iff.1 this;rw [show(Qp w n).2=z from f2 z hz];exact hz
  obtain⟨z,hz⟩:∃ z,(Qp w n).2=z:= ⟨_,rfl⟩
  rw [hz] at hL h3;have hzr:=Zbt sh n z (by rw [hL];simp)
  have hcnt:∀ m:Nat,m < w.cells.length ->Ze2 w m n=if(m:Int)=z then 1 else 0:=by
   intro m hm;rw [← KJ hm,hL];by_cases e:(m:Int)=z
   ·rw [if_pos e,e];simp
   ·rw [if_neg e];rw [List.count_eq_zero];simp;exact e
  have hcell:∀ m c,XC w n m=some c ->∃ (row:List Zb) (k:Nat),w.cells[m.toNat]? =some row∧row[k]? =some c∧J6 w m.toNat c=true:=by
   intro m c hc;obtain⟨row,k,r1,r2⟩:=Zac (QO hc).2;exact⟨row,k,r1,r2,(sh.cell _ row k c r1 r2).1⟩
  have h3n:∀ x ∈ Uu w n,x.kind=3 ->x.ZH=z:=by
   intro x hx k;have hx':=KQ (sh.note x (List.mem_filter.1 hx).1);have:=ZoM hx k (m:= ((x.ZH.toNat:Nat):Int)) (by omega);have hc:=hcnt x.ZH.toNat (by omega);rw [ZlH (by omega)] at hc;by_cases e:((x.ZH.toNat:Nat):Int)=z
   ·omega
   ·rw [if_neg e] at hc;omega
  refine⟨z,⟨?_,?_,?_,?_,hzr,?_,?_,?_,?_⟩,?_⟩
  ·exact fun m c hc=>(QO hc).1
  ·exact fun m c hc=>QY (QO hc).2
  ·intro m c hc;have hr:= (QO hc).1;obtain⟨_,_,_,_,q⟩:=hcell m c hc;have:= (Za6 q).2.2.2;rw [show((m.toNat:Nat):Int)=m by omega] at this;rcases this with⟨a1,a2,a3,a4,a5,a6⟩ | a
   ·exact .inl ⟨a1,a2,a3,a4,a5⟩
   ·exact .inr a
  ·intro x hx;have hx':=KQ (sh.note x (List.mem_filter.1 hx).1);refine⟨hx'.1,by simpa using (List.mem_filter.1 hx).2,hx'.2.2.1.1,?_⟩;rcases hx'.2.2.2 with a | a | a
   ·exact .inl a
   ·exact .inr (.inl a)
   ·exact .inr (.inr ⟨a.1,a.2.1,a.2.2,h3n x hx a.1⟩)
  ·intro m c hc hrt;have hr:= (QO hc).1;have q:=hcnt m.toNat (by omega);unfold Ze2 at q;rw [(QO hc).2] at q;dsimp only at q;rw [hrt,cond_true] at q;split at q <;> omega
  ·have q:=hcnt z.toNat (by omega);have hzn:((z.toNat:Nat):Int)=z:=by omega
   rw [if_pos hzn,ZlH (by omega)] at q;rw [hzn] at q;have g1:=Zdz w z n;rw [Zhu h3n,if_pos rfl] at g1;omega
  ·intro a a0 a1;have:= (hbad a.toNat (by omega)).1;rw [show((a.toNat:Nat):Int)=a by omega] at this;exact this
  ·exact Zw6 sh h3
  ·intro a a0 a1;have:= (hbad a.toNat (by omega)).2;rw [show((a.toNat:Nat):Int)=a by omega] at this;exact this
theorem Rt.Zkd (R:Rt w):(w.freed.length:Int) <=w.names:=by
 have:=Za8 R.fr R.frr R.n0;omega
theorem Rt.ZrS (R:Rt w) {m:Nat} (hm:m < w.cells.length) {c:Zb} (hc:c ∈ rowOf w m):XC w c.name m=some c:=by
 rw [Wm hm];exact Zo5 (R.Xo m hm) hc
theorem Rt.J6 (R:Rt w) {m:Nat} (hm:m < w.cells.length) {c:Zb} (hc:c ∈ rowOf w m):J6 w m c=true:=by
 obtain⟨q1,q2⟩:=R.cn m hm c hc;obtain⟨h,H,Mx⟩:=R.nm _ q1;have e:=R.ZrS hm hc;have ho:=H.Zoo e;have hmx:=Mx m (by omega) (by omega);rw [H.giv,e] at hmx;simp only [Qr] at hmx;refine ZvI q1 ⟨ho.1,?_⟩ q2 ?_
 ·split at hmx <;> omega
 ·rcases H.cel m c e with⟨a1,a2,a3,a4,a5⟩ | a
  ·have h1:=H.ZcV e a2;have h2:=H.acc c.from_ a2 a3;have h3:=Mx c.from_ a2 a3;exact .inl ⟨a1,a2,a3,a4,a5,by omega⟩
  ·exact .inr a
theorem Rt.JL (R:Rt w) {x:Zf} (hx:x ∈ w.notes):JL w x=true:=by
 have q1:=R.nn x hx;obtain⟨h,H,Mx⟩:=R.nm _ q1;have hx':x ∈ Uu w x.name:=List.mem_filter.2 ⟨hx,by simp⟩;obtain⟨a1,a2,a3,a4⟩:=H.nts x hx';refine ZsY a1 q1 ⟨a3,?_⟩ ?_
 ·rcases a4 with z | z | z
  ·have h1:=H.UI z.2.1 hx';rw [WU z.1,if_pos rfl] at h1;have h2:=H.acc _ z.2.1 z.2.2;have h3:=Mx _ z.2.1 z.2.2;omega
  ·have h1:=H.UI a1.1 hx';rw [Zbp z.1,if_pos rfl] at h1;have h2:=H.acc _ a1.1 a1.2;have h3:=Mx _ a1.1 a1.2;omega
  ·omega
 ·rcases a4 with z | z | z
  ·exact .inl z
  ·exact .inr (.inl z)
  ·exact .inr (.inr ⟨z.1,z.2.1,z.2.2.1⟩)
theorem Rt.shaped (R:Rt w):U3 w=true:=by
 have hfl:=R.Zkd;have:=R.c1;have:=R.c6;have:=R.n0;have:=R.n12;have:=R.nts;unfold U3;simp only [Bool.and_eq_true,Bool.not_eq_true'];refine⟨?_,?_,?_,?_⟩
 ·unfold J8;simp only [Bool.and_eq_true,decide_eq_true_eq];omega
 ·refine Zd0 fun k x hk=>?_
  have h1:=R.frr x (List.mem_of_getElem? hk);unfold QN;have h2:0 < k ->Qc w.freed k < x:=fun h0=>ZqX (fun x=>x) R.fr hk h0
  simp;exact⟨h1,h2⟩
 ·unfold KX;rw [Bool.not_eq_true'];refine Zd0 fun m row hm=>?_
  have hml:m < w.cells.length:= (List.getElem?_eq_some_iff.1 hm).1;have hro:row=rowOf w m:=by have:=Yl hml;rw [hm] at this;exact Option.some.inj this
  subst hro;refine Zd0 fun k c hk=>?_
  unfold Q7;rw [R.J6 hml (List.mem_of_getElem? hk)];simp;exact fun h0=>ZqX (fun c:Zb=>c.name) (R.Xo m hml) hk h0
 ·unfold Js;rw [Bool.not_eq_true',List.any_eq_false];intro x hx;rw [R.JL hx];simp
theorem Rt.shp (R:Rt w):Shp w:=ZbX R.shaped
theorem Rt.right (R:Rt w):Us w=true:=by
 have sh:=R.shp;unfold Us;rw [Bool.and_eq_true];refine⟨R.shaped,?_⟩;rw [Bool.not_eq_true',List.any_eq_false];intro k hk;rw [Bool.not_eq_true];cases hn:Ym w k with
 | false=>rfl
 | true=>
   obtain⟨h,H,Mx⟩:=R.nm _ hn;rw [Bool.true_and,Bool.not_eq_false']
   have hcnt:∀ m:Nat,m < w.cells.length ->Ze2 w m k=if(m:Int)=h then 1 else 0:=by
    intro m hm;have g1:=Zdz w m k;rw [Zhu (h:=h) (fun x hx k3=>by rcases(H.nts x hx).2.2.2 with z | z | z <;> omega)] at g1;have o:=H.one;rw [ZlH hm];by_cases e:(m:Int)=h
    ·rw [if_pos e] at g1 ⊢;rw [e];rw [e] at g1;omega
    ·rw [if_neg e] at g1 ⊢
     have:Uh (XC w k m)=0:=by
      cases ec:XC w k m with
      | none=>rfl
      | some c=>
        show(if c.root=true then 1 else 0)=0;rw [if_neg (fun z=>e (H.rt m c ec z))]
     omega
   have hr:=Zbt sh (k:Int)
   have hL:Y8 w k= [h]:=by
    have c1:∀ x ∈ Y8 w (k:Int),x=h:=by
     intro x hx;have h1:=hr x hx;have h2:=KJ (w:=w) (m:=x.toNat) (by omega) (k:Int);rw [hcnt x.toNat (by omega),show((x.toNat:Nat):Int)=x by omega] at h2;have h3:0 < (Y8 w (k:Int)).count x:=List.count_pos_iff.2 hx;by_cases e:x=h
     ·exact e
     ·rw [if_neg e] at h2;omega
    have c2:(Y8 w (k:Int)).count h=1:=by
     have hh:=H.hM;have h2:=KJ (w:=w) (m:=h.toNat) (by omega) (k:Int);rw [hcnt h.toNat (by omega),show((h.toNat:Nat):Int)=h by omega,if_pos rfl] at h2;exact h2
    have c3:(Y8 w (k:Int)).length=1:=by
     rw [← c2]
     symm
     rw [List.count_eq_length];exact fun x hx=>(c1 x hx).symm
    obtain⟨z,hz⟩:=List.length_eq_one_iff.1 c3;rw [hz];rw [c1 z (by rw [hz];simp)]
   obtain⟨f1,f2⟩:=Zfs sh (k:Int);unfold Q8;simp only [Bool.and_eq_true,Bool.not_eq_true',beq_iff_eq];refine⟨?_,?_,?_⟩
   ·rw [List.any_eq_false];intro m hm;rw [List.mem_range] at hm;unfold Zg1;rw [sh.Zgu hm,sh.Zhw hm,H.acc m (by omega) (by omega)];have:=Mx m (by omega) (by omega);rw [H.acc m (by omega) (by omega)] at this;simp;exact this
   ·unfold Qp;rw [f1,hL];rfl
   ·have:(Qp w (k:Int)).2=h:=f2 h hL;rw [this];exact Zw5 H.lead
end
end Go.Proofs.Ytekpjgmhkkjhgaa
end
section
namespace Go.Proofs.Ytekpjgmhkkjhgaa
open Go.Lf
def flN (n:Int) (fl:List Zf):List Zf:=fl.filter fun x=>x.name==n
structure Rx (w:Za) (ex:Int ->Int ->Prop) (fl:List Zf):Prop where
 c1:1 <=w.cells.length
 c6:w.cells.length <=6
 n0:0 <=w.names
 n12:w.names <=12
 fr:w.freed.Pairwise (· < ·)
 frr:∀ x ∈ w.freed,0 <=x∧x < w.names
 Xo:∀ m,m < w.cells.length ->UB (rowOf w m)
 cn:∀ n m c,XC w n m=some c ->Ym w n=true∧(c.use=true∨c.out ≠ 0∨ex m n)
 nn:∀ x ∈ fl ++ w.notes,Ym w x.name=true
 nm:∀ n,Ym w n=true ->∃ h,Nm w.cells.length n (XC w n) (flN n fl ++ Uu w n) h
def Mw (w:Za) (fl:List Zf):Prop:=∀ n,Ym w n=true ->Mst w.cells.length (XC w n) (flN n fl ++ Uu w n)
def KY:Int ->Int ->Prop:=fun _ _=>False
theorem Rt.rx {w:Za} (R:Rt w):Rx w KY []∧Mw w []:=by
 refine⟨⟨R.c1,R.c6,R.n0,R.n12,R.fr,R.frr,R.Xo,fun n m c hc=>?_,R.nn,fun n hn=>?_⟩,fun n hn=>?_⟩
 ·obtain⟨h1,h2⟩:=QO hc;have hm:m.toNat < w.cells.length:=by omega
  obtain⟨row,k,r1,r2⟩:=Zac h2;have:row=rowOf w m.toNat:=by have:=Yl hm;rw [r1] at this;exact Option.some.inj this
  subst this;have q:=R.cn _ hm c (List.mem_of_getElem? r2);rw [QY h2] at q;exact⟨q.1,q.2.elim .inl fun z=>.inr (.inl z)⟩
 ·obtain⟨h,H,_⟩:=R.nm n hn;exact⟨h,H⟩
 ·obtain⟨h,_,H⟩:=R.nm n hn;exact H
theorem Rx.rt {w:Za} (R:Rx w KY []) (Mx:Mw w []) (hl:w.notes.length <=80):Rt w:=by
 refine⟨R.c1,R.c6,R.n0,R.n12,hl,R.fr,R.frr,R.Xo,fun m hm c hc=>?_,R.nn,fun n hn=>?_⟩
 ·have e:XC w c.name m=some c:=by rw [Wm hm];exact Zo5 (R.Xo m hm) hc
  obtain⟨q1,q2⟩:=R.cn _ _ _ e;refine⟨q1,?_⟩;rcases q2 with q | q | q
  ·exact .inl q
  ·exact .inr q
  ·exact q.elim
 ·obtain⟨h,H⟩:=R.nm n hn;exact⟨h,H,Mx n hn⟩
structure Upd (w w':Za) (n:Int):Prop where
 len:w'.cells.length=w.cells.length
 nms:w'.names=w.names
 fre:w'.freed=w.freed
 Xo:∀ m,m < w.cells.length ->UB (rowOf w' m)
 oc:∀ k,k ≠ n ->XC w' k=XC w k
 on:∀ k,k ≠ n ->Uu w' k=Uu w k
theorem Upd.trans {w w1 w2:Za} {n:Int} (a:Upd w w1 n) (b:Upd w1 w2 n):Upd w w2 n:=
 ⟨b.len.trans a.len,b.nms.trans a.nms,b.fre.trans a.fre,fun m hm=>b.Xo m (by rw [a.len];exact hm),fun k hk=>(b.oc k hk).trans (a.oc k hk),fun k hk=>(b.on k hk).trans (a.on k hk)⟩
theorem Zcd {w w':Za} (h1:w'.names=w.names) (h2:w'.freed=w.freed) (n:Int):Ym w' n=Ym w n:=by unfold Ym;rw [h1,h2]
theorem Zlg {n:Int} {fl:List Zf} (h:∀ x ∈ fl,x.name ≠ n):flN n fl= []:=by
 unfold flN;rw [List.filter_eq_nil_iff];intro x hx;simp;exact h x hx
theorem ZcY {n:Int} {fl:List Zf} (h:∀ x ∈ fl,x.name=n):flN n fl=fl:=by
 unfold flN;rw [List.filter_eq_self];intro x hx;simp;exact h x hx
section
variable {w w':Za} {n:Int} {ex ex':Int ->Int ->Prop} {fl fl':List Zf}
theorem Rx.upd (R:Rx w ex fl) (U:Upd w w' n) (hn:Ym w n=true) (hfl:∀ x ∈ fl,x.name=n) (ZgX:∀ x ∈ fl',x.name=n)
 (he:∀ m c,XC w' n m=some c ->c.use=true∨c.out ≠ 0∨ex' m n) (he2:∀ m k,k ≠ n ->ex m k ->ex' m k)
 (hm:∃ h,Nm w.cells.length n (XC w' n) (fl' ++ Uu w' n) h):Rx w' ex' fl':=by
 have hB:=Zcd U.nms U.fre;refine⟨by rw [U.len];exact R.c1,by rw [U.len];exact R.c6,by rw [U.nms];exact R.n0,by rw [U.nms];exact R.n12,by rw [U.fre];exact R.fr,by rw [U.fre,U.nms];exact R.frr,by rw [U.len];exact U.Xo,fun k m c hc=>?_,fun x hx=>?_,fun k hk=>?_⟩
 ·rw [hB];by_cases e:k=n
  ·subst e;exact⟨hn,he m c hc⟩
  ·rw [U.oc k e] at hc;obtain⟨q1,q2⟩:=R.cn k m c hc;exact⟨q1,q2.elim .inl fun z=>.inr (z.elim .inl fun y=>.inr (he2 m k e y))⟩
 ·rw [hB];by_cases e:x.name=n
  ·rw [e];exact hn
  ·rcases List.mem_append.1 hx with z | z
   ·exact absurd (ZgX x z) e
   ·have:x ∈ Uu w' x.name:=List.mem_filter.2 ⟨z,by simp⟩;rw [U.on _ e] at this;exact R.nn x (List.mem_append_right _ (List.mem_filter.1 this).1)
 ·rw [hB] at hk;rw [U.len];by_cases e:k=n
  ·subst e;rw [ZcY ZgX];exact hm
  ·obtain⟨h,H⟩:=R.nm k hk;refine⟨h,?_⟩;rw [U.oc k e,U.on k e,Zlg fun x hx z=>e (z.symm.trans (ZgX x hx))];rw [Zlg fun x hx z=>e (z.symm.trans (hfl x hx))] at H;exact H
theorem Mw.upd (Mx:Mw w fl) (U:Upd w w' n) (hfl:∀ x ∈ fl,x.name=n) (ZgX:∀ x ∈ fl',x.name=n)
 (hm:Mst w.cells.length (XC w' n) (fl' ++ Uu w' n)):Mw w' fl':=by
 intro k hk;rw [Zcd U.nms U.fre] at hk;rw [U.len];by_cases e:k=n
 ·subst e;rw [ZcY ZgX];exact hm
 ·have:=Mx k hk;rw [U.oc k e,U.on k e,Zlg fun x hx z=>e (z.symm.trans (ZgX x hx))];rw [Zlg fun x hx z=>e (z.symm.trans (hfl x hx))] at this;exact this
theorem Zkr {m a:Nat} {r:Row} (hm:m < w.cells.length) (k:Int):cellOf (cw w m r) a k=if a=m then J5 r k else cellOf w a k:=by
 rw [Qg,Qg];by_cases e:a=m
 ·subst e;rw [if_pos rfl,Jj hm]
 ·rw [if_neg e,Kg e]
theorem Zbi {m:Nat} (hm:m < w.cells.length) (Xo:∀ m,m < w.cells.length ->UB (rowOf w m)) {c:Zb} (hc:c.name=n):
 Upd w (cw w m (put c (rowOf w m))) n∧XC (cw w m (put c (rowOf w m))) n=Yz (XC w n) m (some c)∧Uu (cw w m (put c (rowOf w m))) n=Uu w n:=by
 have key:∀ k a,XC (cw w m (put c (rowOf w m))) k a=if a=m∧k=n then some c else XC w k a:=by
  intro k a;unfold XC;rw [Yu];by_cases hr:0 <=a∧a < (w.cells.length:Int)
  ·rw [if_pos hr,if_pos hr,Zkr hm];by_cases e:a=m
   ·have:a.toNat=m:=by omega
    rw [if_pos this,Wh _ (Xo m hm),hc,Qg,this];by_cases ek:k=n
    ·rw [if_pos ek,if_pos ⟨e,ek⟩]
    ·rw [if_neg ek,if_neg (fun z=>ek z.2)]
   ·have:¬ a.toNat=m:=by omega
    rw [if_neg this,if_neg (fun z=>e z.1)]
  ·rw [if_neg hr,if_neg hr,if_neg (by rintro⟨z,_⟩;subst z;omega)]
 refine⟨⟨Yu,rfl,rfl,fun a ha=>?_,fun k hk=>?_,fun k hk=>rfl⟩,?_,rfl⟩
 ·by_cases e:a=m
  ·subst e;rw [Jj hm];exact(Xo a hm).put
  ·rw [Kg e];exact Xo a ha
 ·funext a;rw [key,if_neg (fun z=>hk z.2)]
 ·funext a;rw [key];unfold Yz;by_cases e:a=m
  ·rw [if_pos ⟨e,rfl⟩,if_pos e]
  ·rw [if_neg (fun z=>e z.1),if_neg e]
theorem ZwQ {m:Nat} (hm:m < w.cells.length) (Xo:∀ m,m < w.cells.length ->UB (rowOf w m)):
 Upd w (cw w m (rmv n (rowOf w m))) n∧XC (cw w m (rmv n (rowOf w m))) n=Yz (XC w n) m none∧Uu (cw w m (rmv n (rowOf w m))) n=Uu w n:=by
 have key:∀ k a,XC (cw w m (rmv n (rowOf w m))) k a=if a=m∧k=n then none else XC w k a:=by
  intro k a;unfold XC;rw [Yu];by_cases hr:0 <=a∧a < (w.cells.length:Int)
  ·rw [if_pos hr,if_pos hr,Zkr hm];by_cases e:a=m
   ·have:a.toNat=m:=by omega
    rw [if_pos this,Zqu,Qg,this];by_cases ek:k=n
    ·rw [if_pos ek,if_pos ⟨e,ek⟩]
    ·rw [if_neg ek,if_neg (fun z=>ek z.2)]
   ·have:¬ a.toNat=m:=by omega
    rw [if_neg this,if_neg (fun z=>e z.1)]
  ·rw [if_neg hr,if_neg hr];split <;> rfl
 refine⟨⟨Yu,rfl,rfl,fun a ha=>?_,fun k hk=>?_,fun k hk=>rfl⟩,?_,rfl⟩
 ·by_cases e:a=m
  ·subst e;rw [Jj hm];exact(Xo a hm).rmv n
  ·rw [Kg e];exact Xo a ha
 ·funext a;rw [key,if_neg (fun z=>hk z.2)]
 ·funext a;rw [key];unfold Yz;by_cases e:a=m
  ·rw [if_pos ⟨e,rfl⟩,if_pos e]
  ·rw [if_neg (fun z=>e z.1),if_neg e]
theorem Zef (Xo:∀ m,m < w.cells.length ->UB (rowOf w m)) {x:Zf} (hx:x.name=n):Upd w (sent w x) n∧XC (sent w x) n=XC w n∧Uu (sent w x) n=Uu w n ++ [x]:=by
 refine⟨⟨rfl,rfl,rfl,Xo,fun k hk=>rfl,fun k hk=>?_⟩,rfl,?_⟩
 ·unfold Uu sent;rw [List.filter_append]
  have: [x].filter (fun x=>x.name==k)= []:=by
   rw [List.filter_eq_nil_iff];intro y hy;rw [List.mem_singleton.1 hy];simp;exact fun z=>hk (z.symm.trans hx)
  rw [this,List.append_nil]
 ·unfold Uu sent;rw [List.filter_append]
  have: [x].filter (fun x=>x.name==n)= [x]:=by
   rw [List.filter_eq_self];intro y hy;rw [List.mem_singleton.1 hy];simp;exact hx
  rw [this]
theorem Zrk {m:Nat} (hm:m < w.cells.length) (n:Int):look (rowOf w m) n=Zcg n (XC w n) m:=by
 unfold Zcg;rw [Wm hm];rfl
theorem Mst.put {M:Nat} {cv:CV} {ns ns':List Zf} (Mx:Mst M cv ns) {m:Int} {d:Zb} (h:∀ a:Int,0 <=a ->a < M ->(if a=m then d.out else Qr (cv a)) + Xb (Qd a) ns' <=Qr (cv a) + Xb (Qd a) ns):Mst M (Yz cv m (some d)) ns':=by
 intro a a0 a1;have h1:=h a a0 a1;have h2:=Mx a a0 a1;unfold K6 at h2 ⊢;have:Qr (Yz cv m (some d) a)=if a=m then d.out else Qr (cv a):=by unfold Yz;split <;> rfl
 omega
theorem ZcM {m:Int} (R:Rx w (fun a k=>a=m∧k=n) []) (Mx:Mw w []) {m':Nat} (hmm:(m':Int)=m) (hm:m' < w.cells.length) {c:Zb} (hc:XC w n m=some c):
 Rx (Qj w m' n c) KY []∧Mw (Qj w m' n c) []:=by
 have hn:= (R.cn n m c hc).1;have hcn:=QY (QO hc).2;obtain⟨h,H⟩:=R.nm n hn;have H:Nm w.cells.length n (XC w n) (Uu w n) h:=H;have hMx:=Mx n hn;have hMx:Mst w.cells.length (XC w n) (Uu w n):=hMx;unfold Qj;cases hu:(c.use || (c.out !=0))
 ·rw [cond_false];have hu1:c.use=false:=by cases q:c.use;rfl;rw [q] at hu;cases hu
  have hu2:c.out=0:=by rw [hu1,Bool.false_or] at hu;simpa using hu
  obtain⟨U,V1,V2⟩:=ZwQ (n:=n) hm R.Xo
  have hout:∀ a,Qr (Yz (XC w n) m none a)=Qr (XC w n a):=by
   intro a;unfold Yz;split
   ·rename_i e;rw [e,hc];simp [Qr,hu2]
   ·rfl
  rw [hmm] at V1
  have ZEL:∀ a d,XC (cw w m' (rmv n (rowOf w m'))) n a=some d ->d.use=true∨d.out ≠ 0∨KY a n:=by
   intro a d hd;rw [V1] at hd;unfold Yz at hd;split at hd
   ·cases hd
   ·rename_i e;rcases(R.cn n a d hd).2 with z | z | z
    ·exact .inl z
    ·exact .inr (.inl z)
    ·exact absurd z.1 e
  cases hr:c.root
  ·simp only [cond_false];cases hf:decide (c.from_ >=0)
   ·rw [cond_false];show Rx (cw w m' (rmv n (rowOf w m'))) KY []∧Mw (cw w m' (rmv n (rowOf w m'))) [];have hf':¬ 0 <=c.from_:=by simpa using hf
    refine⟨R.upd U hn (by simp) (by simp) ZEL (fun a k hk z=>absurd z.2 hk) ⟨h,?_⟩,Mx.upd U (by simp) (by simp) ?_⟩
    ·have:=H.gone hc hu2 hr (ys:= []) (by rw [if_neg hf']);rw [List.append_nil] at this;rw [V1];exact this
    ·intro a a0 a1;have:=hMx a a0 a1;rw [V1];show Qr (Yz (XC w n) m none a) + Xb (Qd a) (Uu w n) <=1000000;rw [hout];exact this
   ·rw [cond_true];show Rx (sent (cw w m' (rmv n (rowOf w m'))) ⟨2,c.from_,n,0,c.has⟩) KY []∧Mw (sent (cw w m' (rmv n (rowOf w m'))) ⟨2,c.from_,n,0,c.has⟩) []
    have hf':0 <=c.from_:=by simpa using hf
    obtain⟨U2,W1,W2⟩:=Zef (w:=cw w m' (rmv n (rowOf w m'))) (n:=n) (x:= ⟨2,c.from_,n,0,c.has⟩) (fun a ha=>U.Xo a (by rw [← U.len];exact ha)) rfl;rw [V1] at W1;refine⟨R.upd (U.trans U2) hn (by simp) (by simp) (fun a d hd=>ZEL a d (by rw [V1,← W1];exact hd)) (fun a k hk z=>absurd z.2 hk) ⟨h,?_⟩,Mx.upd (U.trans U2) (by simp) (by simp) ?_⟩
    ·have:=H.gone hc hu2 hr (ys:= [⟨2,c.from_,n,0,c.has⟩]) (by rw [if_pos hf']);rw [W1,W2];exact this
    ·intro a a0 a1;have:=hMx a a0 a1;rw [W1,W2];show Qr (Yz (XC w n) m none a) + Xb (Qd a) (Uu w n ++ [⟨2,c.from_,n,0,c.has⟩]) <=1000000
     rw [hout,Qb,QH,ZcR rfl];unfold K6 at this;omega
  ·simp only [cond_true];obtain⟨e1,e2⟩:=H.last hc hu2 hr;have hnr:0 <=n∧n < w.names:=by have:=hn;unfold Ym at this;simp at this;exact this.1
   have hnf:n ∉ w.freed:=by
    have:=hn;unfold Ym at this;simp at this;exact fun z=>this.2 n z rfl
   have hmem:∀ x,x ∈ Ja n w.freed↔x=n∨x ∈ w.freed:=by
    intro x
    constructor
    ·exact Zer
    ·intro hx
     have key:∀ l:List Int,x=n∨x ∈ l ->x ∈ Ja n l:=by
      intro l
      induction l with
      | nil=>intro z;rcases z with z | z;subst z;simp [Ja];simp at z
      | cons y l ih=>
        intro z;unfold Ja;split
        ·simp only [List.mem_cons] at z ⊢;omega
        ·simp only [List.mem_cons] at z ⊢;rcases z with z | z | z
         ·exact .inr (ih (.inl z))
         ·exact .inl z
         ·exact .inr (ih (.inr z))
     exact key _ hx
   have hB:∀ k,Ym ⟨w.cells.set m' (rmv n (rowOf w m')),w.notes,w.names,Ja n w.freed⟩ k= (Ym w k && !(k==n)):=by
    intro k;unfold Ym;dsimp only
    have:((Ja n w.freed).any fun y=>y==k)= ((w.freed.any fun y=>y==k) || (k==n)):=by
     rw [Bool.eq_iff_iff,Bool.or_eq_true,List.any_eq_true,List.any_eq_true];simp only [beq_iff_eq,hmem]
     constructor
     ·rintro⟨x,z | z,rfl⟩
      ·exact .inr z
      ·exact .inl ⟨x,z,rfl⟩
     ·rintro(⟨x,z,rfl⟩ | z)
      ·exact⟨x,.inr z,rfl⟩
      ·exact⟨n,.inl rfl,z.symm⟩
    rw [this];cases decide (0 <=k) <;> cases decide (k < w.names) <;> cases (w.freed.any fun y=>y==k) <;> cases (k==n) <;> rfl
   have key:∀ k,XC ⟨w.cells.set m' (rmv n (rowOf w m')),w.notes,w.names,Ja n w.freed⟩ k=if k=n then(fun _=>none) else XC w k:=by
    intro k;by_cases e:k=n
    ·subst e;rw [if_pos rfl];show XC (cw w m' (rmv k (rowOf w m'))) k=_;rw [V1];funext a;unfold Yz;split
     ·rfl
     ·rename_i z;exact e1 a z
    ·rw [if_neg e];exact U.oc k e
   refine⟨⟨by show 1 <= (w.cells.set _ _).length;rw [List.length_set];exact R.c1,by show(w.cells.set _ _).length <=6;rw [List.length_set];exact R.c6,R.n0,R.n12,?_,?_,?_,?_,?_,?_⟩,?_⟩
   ·have q1:∀ l:List Int,l.Pairwise (· < ·) ->n ∉ l ->(Ja n l).Pairwise (· < ·):=by
     intro l
     induction l with
     | nil=>intro _ _;simp [Ja]
     | cons y l ih=>
       intro p q;rw [List.pairwise_cons] at p;unfold Ja;split
       ·rename_i hyx;rw [List.pairwise_cons,List.pairwise_cons];refine⟨fun z hz=>?_,p⟩;rcases List.mem_cons.1 hz with rfl | hz
        ·exact hyx
        ·have:=p.1 z hz;omega
       ·rename_i hyx;have hne:n ≠ y:=fun z=>q (by rw [z];simp)
        rw [List.pairwise_cons];refine⟨fun z hz=>?_,ih p.2 fun z=>q (by simp [z])⟩;rcases Zer hz with rfl | hz
        ·omega
        ·exact p.1 z hz
    exact q1 _ R.fr hnf
   ·intro x hx;rcases(hmem x).1 hx with z | z
    ·subst z;exact hnr
    ·exact R.frr x z
   ·intro a ha;have ha:a < w.cells.length:=by simpa using ha
    exact U.Xo a ha
   ·intro k a d hd;rw [key] at hd;split at hd
    ·cases hd
    ·rename_i hk;obtain⟨q1,q2⟩:=R.cn k a d hd;refine⟨by rw [hB,q1];simp [hk],?_⟩;rcases q2 with z | z | z
     ·exact .inl z
     ·exact .inr (.inl z)
     ·exact absurd z.2 hk
   ·intro x hx;have hx:x ∈ w.notes:=hx
    have hne:x.name ≠ n:=by
     intro z;have:x ∈ Uu w n:=List.mem_filter.2 ⟨hx,by simp [z]⟩;rw [e2] at this;simp at this
    rw [hB,R.nn x (by simpa using hx)];simp [hne]
   ·intro k hk;rw [hB] at hk;simp at hk;obtain⟨h',H'⟩:=R.nm k hk.1;refine⟨h',?_⟩;rw [key,if_neg hk.2];show Nm (w.cells.set _ _).length k (XC w k) (Uu w k) h';rw [List.length_set];exact H'
   ·intro k hk;rw [hB] at hk;simp at hk;have:=Mx k hk.1;rw [key,if_neg hk.2];show Mst (w.cells.set _ _).length (XC w k) (Uu w k);rw [List.length_set];exact this
 ·rw [cond_true];refine⟨{R with cn:=fun k a d hd=>?_},Mx⟩;obtain⟨q1,q2⟩:=R.cn k a d hd;refine⟨q1,?_⟩;rcases q2 with z | z | ⟨z1,z2⟩
  ·exact .inl z
  ·exact .inr (.inl z)
  ·subst z1 z2;rw [hc] at hd;cases hd;rw [Bool.or_eq_true] at hu;rcases hu with z | z
   ·exact .inl z
   ·exact .inr (.inl (by simpa using z))
end
end Go.Proofs.Ytekpjgmhkkjhgaa
end
section
namespace Go.Proofs.Ytekpjgmhkkjhgaa
open Go.Lf
section
variable {w w':Za} {n:Int}
theorem Nm.most {M:Nat} {cv:CV} {ns:List Zf} {h:Int} (H:Nm M n cv ns h) (Mx:Mst M cv ns):
 (∀ m c,cv m=some c ->-16 <=c.out∧c.out <=1000000∧0 <=c.has∧c.has <=1000000)∧∀ x ∈ ns,1 <=x.w∧x.w <=1000000:=by
 refine⟨fun m c hc=>?_,fun x hx=>?_⟩
 ·have hr:=H.rng m c hc;have h1:=Mx m hr.1 hr.2;have h2:=H.Zoo hc;rw [H.giv,hc] at h1;simp only [Qr] at h1;refine⟨h2.1,by split at h1 <;> omega,?_⟩;rcases H.cel m c hc with z | z
  ·have:=H.ZcV hc z.2.1;have:=H.acc c.from_ z.2.1 z.2.2.1;have:=Mx c.from_ z.2.1 z.2.2.1;omega
  ·omega
 ·have hx':=H.nts x hx;refine⟨hx'.2.2.1,?_⟩;rcases hx'.2.2.2 with z | z | z
  ·have h1:=H.UI z.2.1 hx;rw [WU z.1,if_pos rfl] at h1;have:=H.acc _ z.2.1 z.2.2;have:=Mx _ z.2.1 z.2.2;omega
  ·have h1:=H.UI hx'.1.1 hx;rw [Zbp z.1,if_pos rfl] at h1;have:=H.acc _ hx'.1.1 hx'.1.2;have:=Mx _ hx'.1.1 hx'.1.2;omega
  ·omega
theorem Zmx {M:Nat} {cv:CV} {ns:List Zf} {h:Int} (H:Nm M n cv ns h) (Mx:Mst M cv ns) (m:Int):-16 <= (Zcg n cv m).out∧(Zcg n cv m).out <=1000000∧0 <= (Zcg n cv m).has∧(Zcg n cv m).has <=1000000:=by
 unfold Zcg;cases e:cv m with
 | none=>simp [ZvO]
 | some c=>exact(H.most Mx).1 m c e
theorem ZdE {fl fl':List Zf} {ex ex':Int ->Int ->Prop} (R:Rx w ex fl) (Mx:Mw w fl) (hn:Ym w n=true) (hfl:∀ x ∈ fl,x.name=n) (ZgX:∀ x ∈ fl',x.name=n) {m:Int} {m':Nat} (hmm:(m':Int)=m) (hm:m' < w.cells.length) {d:Zb} (hd:d.name=n)
 (he:d.use=true∨d.out ≠ 0∨ex' m n) (he2:∀ a k,(k ≠ n∨a ≠ m) ->ex a k ->ex' a k)
 (hN:∃ h,Nm w.cells.length n (Yz (XC w n) m (some d)) (fl' ++ Uu w n) h)
 (hM:∀ a:Int,0 <=a ->a < w.cells.length ->(if a=m then d.out else Qr (XC w n a)) + Xb (Qd a) (fl' ++ Uu w n) <=Qr (XC w n a) + Xb (Qd a) (fl ++ Uu w n)):
 Rx (cw w m' (put d (rowOf w m'))) ex' fl'∧Mw (cw w m' (put d (rowOf w m'))) fl'∧XC (cw w m' (put d (rowOf w m'))) n m=some d:=by
 obtain⟨U,V1,V2⟩:=Zbi hm R.Xo hd;rw [hmm] at V1;refine⟨R.upd U hn hfl ZgX (fun a c hc=>?_) (fun a k hk=>he2 a k (.inl hk)) ?_,Mx.upd U hfl ZgX ?_,by rw [V1,ZcO]⟩
 ·rw [V1] at hc;unfold Yz at hc;split at hc
  ·rename_i e;cases hc;rw [e];exact he
  ·rename_i e;rcases(R.cn n a c hc).2 with z | z | z
   ·exact .inl z
   ·exact .inr (.inl z)
   ·exact .inr (.inr (he2 a n (.inr e) z))
 ·rw [V1,V2];exact hN
 ·rw [V1,V2];have:=Mx n hn;rw [ZcY hfl] at this;exact this.put hM
theorem ZwJ {fl fl':List Zf} {ex:Int ->Int ->Prop} (R:Rx w ex fl) (Mx:Mw w fl) (hn:Ym w n=true) (hfl:∀ x ∈ fl,x.name=n) (ZgX:∀ x ∈ fl',x.name=n) {y:Zf} (hy:y.name=n)
 (hN:∃ h,Nm w.cells.length n (XC w n) (fl' ++ (Uu w n ++ [y])) h)
 (hM:∀ a:Int,0 <=a ->a < w.cells.length ->Xb (Qd a) (fl' ++ (Uu w n ++ [y])) <=Xb (Qd a) (fl ++ Uu w n)):
 Rx (sent w y) ex fl'∧Mw (sent w y) fl':=by
 obtain⟨U,V1,V2⟩:=Zef R.Xo hy;refine⟨R.upd U hn hfl ZgX (fun a c hc=>?_) (fun a k hk z=>z) ?_,Mx.upd U hfl ZgX ?_⟩
 ·rw [V1] at hc;exact(R.cn n a c hc).2
 ·rw [V1,V2];exact hN
 ·rw [V1,V2];have:=Mx n hn;rw [ZcY hfl] at this;intro a a0 a1;have h1:=this a a0 a1;have h2:=hM a a0 a1;unfold K6 at h1 ⊢;omega
theorem Zam (m:Nat) (n:Int) (c:Zb):(Qj w m n c).notes.length <=w.notes.length + 1∧(Qj w m n c).cells.length=w.cells.length∧(Qj w m n c).names=w.names∧(c.root=true ->(Qj w m n c).notes.length=w.notes.length):=by
 unfold Qj;cases (c.use || (c.out !=0))
 ·simp only [cond_false,List.length_set,true_and];cases c.root
  ·cases decide (c.from_ >=0) <;> simp
  ·simp
 ·simp
theorem ZhW {m:Nat} (hm:m < w.cells.length) (Xo:UB (rowOf w m)) {d:Zb} (hd:d.name=n):look (rowOf (cw w m (put d (rowOf w m))) m) n=d:=Jv (ZdV hm Xo hd)
theorem ZvJ {x:Zf} (R:Rx w KY [x]) (Mx:Mw w [x]):
 Rx (Uc w x) KY []∧Mw (Uc w x) []∧(Uc w x).notes.length <=w.notes.length + 1∧(Uc w x).cells.length=w.cells.length∧(Uc w x).names=w.names:=by
 have hn:=R.nn x (by simp);obtain⟨n,hxn⟩:∃ n,x.name=n:= ⟨_,rfl⟩
 rw [hxn] at hn;have hfl:∀ y ∈ [x],y.name=n:=by simp [hxn]
 have hno:∀ y ∈ ([]:List Zf),y.name=n:=by simp
 obtain⟨h,H⟩:=R.nm n hn;rw [ZcY hfl] at H;have hMx:=Mx n hn;rw [ZcY hfl] at hMx;have H:Nm w.cells.length n (XC w n) (x::Uu w n) h:=H;have hx:=H.nts x (by simp);have hxw:= (H.most hMx).2 x (by simp);obtain⟨m',hm'⟩:∃ m',x.ZH.toNat=m':= ⟨_,rfl⟩
 have hmm:(m':Int)=x.ZH:=by omega
 have hm:m' < w.cells.length:=by omega
 have L:=H.look x.ZH;have S:=Zmx H hMx x.ZH;have Zdp:look (rowOf w m') n=Zcg n (XC w n) x.ZH:=by rw [Zrk hm,hmm]
 unfold Uc;rw [hm',hxn];dsimp only;obtain⟨c,hc⟩:∃ c,Zcg n (XC w n) x.ZH=c:= ⟨_,rfl⟩
 rw [hc] at L S Zdp;rw [Zdp];have hsrt:=R.Xo m' hm;cases k1:(x.kind==1)
 ·rw [cond_false];cases k2:(x.kind==2)
  ·-- the root
   rw [cond_false]
   have k3:x.kind=3:=by
    rcases hx.2.2.2 with z | z | z
    ·rw [z.1] at k1;cases k1
    ·rw [z.1] at k2;cases k2
    ·exact z.1
   have hh:x.ZH=h:=by rcases hx.2.2.2 with z | z | z <;> omega
   rw [Q5 (n:=c.out + 16) (by omega) (by omega)]
   have hG:∀ a:Int,(if a=x.ZH then(c.out + 16) else Qr (XC w n a)) + Xb (Qd a) (Uu w n) <=Qr (XC w n a) + Xb (Qd a) (x::Uu w n):=by
    intro a;simp only [Xb,ZkL k3];by_cases z:a=x.ZH
    ·rw [if_pos z,if_pos z.symm,z,L.out];omega
    ·rw [if_neg z,if_neg (by omega)];omega
   cases hf:decide (c.from_ >=0)
   ·simp only [cond_false];have hf':¬ 0 <=c.from_:=by simpa using hf
    rw [ZhW hm hsrt (by exact L.nam)];have:=H.home k3 L c.use (ys:= []) (by rw [if_neg hf']);rw [List.append_nil] at this;obtain⟨P1,P2,P3⟩:=ZdE (ex':=fun a k=>a=x.ZH∧k=n) R Mx hn hfl hno hmm hm (d:= ⟨c.name,true,-1,0,c.out + 16,c.use⟩) L.nam (.inr (.inr ⟨rfl,rfl⟩)) (fun a k _ z=>z.elim) ⟨h,this⟩ (fun a _ _=>hG a);obtain⟨Q1,Q2⟩:=ZcM P1 P2 hmm (by rw [Yu];exact hm) P3;have Q3:=Zam (w:=cw w m' (put ⟨c.name,true,-1,0,c.out + 16,c.use⟩ (rowOf w m'))) m' n ⟨c.name,true,-1,0,c.out + 16,c.use⟩;exact⟨Q1,Q2,Q3.1,Q3.2.1.trans Yu,Q3.2.2.1⟩
   ·simp only [cond_true];have hf':0 <=c.from_:=by simpa using hf
    have hce:c.root=false∧0 <=c.from_∧c.from_ < w.cells.length∧c.from_ ≠ x.ZH∧1 <=c.has:=by rcases L.cel with z | z;exact z;omega
    have hb:QR (cw w m' (put ⟨c.name,true,-1,0,c.out + 16,c.use⟩ (rowOf w m'))) m' n c.from_ c.has=sent (cw w m' (put ⟨c.name,true,-1,0,c.out + 16,c.use⟩ (rowOf w m'))) ⟨2,c.from_,n,0,c.has⟩:=by
     unfold QR;have:(c.from_ != (m':Int))=true:=by simp;omega
     rw [this,cond_true]
    rw [hb];have hrow:rowOf (sent (cw w m' (put ⟨c.name,true,-1,0,c.out + 16,c.use⟩ (rowOf w m'))) ⟨2,c.from_,n,0,c.has⟩) m'=rowOf (cw w m' (put ⟨c.name,true,-1,0,c.out + 16,c.use⟩ (rowOf w m'))) m':=rfl;rw [hrow,ZhW hm hsrt (by exact L.nam)];have hH:=H.home k3 L c.use (ys:= [⟨2,c.from_,n,0,c.has⟩]) (by rw [if_pos hf']);obtain⟨U,V1,V2⟩:=Zbi (n:=n) hm R.Xo (c:= ⟨c.name,true,-1,0,c.out + 16,c.use⟩) L.nam;obtain⟨U2,W1,W2⟩:=Zef (w:=cw w m' (put ⟨c.name,true,-1,0,c.out + 16,c.use⟩ (rowOf w m'))) (n:=n) (x:= ⟨2,c.from_,n,0,c.has⟩) (fun a ha=>U.Xo a (by rw [← U.len];exact ha)) rfl;rw [hmm] at V1
    have P1:Rx (sent (cw w m' (put ⟨c.name,true,-1,0,c.out + 16,c.use⟩ (rowOf w m'))) ⟨2,c.from_,n,0,c.has⟩) (fun a k=>a=x.ZH∧k=n) []:=by
     refine R.upd (U.trans U2) hn hfl hno (fun a d hd=>?_) (fun _ _ _ z=>z.elim) ⟨h,?_⟩
     ·rw [W1,V1] at hd;unfold Yz at hd;split at hd
      ·rename_i e;exact .inr (.inr ⟨e,rfl⟩)
      ·rcases(R.cn n a d hd).2 with z | z | z
       ·exact .inl z
       ·exact .inr (.inl z)
       ·exact z.elim
     ·rw [W1,V1,W2,V2];exact hH
    have P2:Mw (sent (cw w m' (put ⟨c.name,true,-1,0,c.out + 16,c.use⟩ (rowOf w m'))) ⟨2,c.from_,n,0,c.has⟩) []:=by
     refine Mx.upd (U.trans U2) hfl hno ?_;rw [W1,V1,W2,V2];refine hMx.put fun a _ _=>?_
     have:=hG a;rw [List.nil_append,Qb,QH,ZcR rfl];show(if a=x.ZH then(c.out + 16) else Qr (XC w n a)) + _ <=_ + Xb (Qd a) (x::Uu w n);omega
    have P3:XC (sent (cw w m' (put ⟨c.name,true,-1,0,c.out + 16,c.use⟩ (rowOf w m'))) ⟨2,c.from_,n,0,c.has⟩) n x.ZH=some ⟨c.name,true,-1,0,c.out + 16,c.use⟩:=by
     rw [W1,V1,ZcO]
    obtain⟨Q1,Q2⟩:=ZcM P1 P2 hmm (by show m' < (cw _ _ _).cells.length;rw [Yu];exact hm) P3;have Q3:=Zam (w:=sent (cw w m' (put ⟨c.name,true,-1,0,c.out + 16,c.use⟩ (rowOf w m'))) ⟨2,c.from_,n,0,c.has⟩) m' n ⟨c.name,true,-1,0,c.out + 16,c.use⟩;refine⟨Q1,Q2,?_,Q3.2.1.trans Yu,Q3.2.2.1⟩;rw [Q3.2.2.2 rfl];show(w.notes ++ [_]).length <=_;simp
  ·-- weight
   rw [cond_true];have k2':x.kind=2:=by simpa using k2
   rw [Q5 (n:=c.out - x.w) (by omega) (by omega)];have:=H.Zj5 (.inr k2') L c.use
   obtain⟨P1,P2,P3⟩:=ZdE (ex':=fun a k=>a=x.ZH∧k=n) R Mx hn hfl hno hmm hm (d:= ⟨c.name,c.root,c.from_,c.has,c.out - x.w,c.use⟩) L.nam (.inr (.inr ⟨rfl,rfl⟩)) (fun a k _ z=>z.elim) ⟨h,this⟩ (fun a _ _=>by
    simp only [List.nil_append,List.cons_append,Xb,ZcR k2'];by_cases z:a=x.ZH
    ·rw [if_pos z,z,L.out];omega
    ·rw [if_neg z];omega)
   obtain⟨Q1,Q2⟩:=ZcM P1 P2 hmm (by rw [Yu];exact hm) P3;have Q3:=Zam (w:=cw w m' (put ⟨c.name,c.root,c.from_,c.has,c.out - x.w,c.use⟩ (rowOf w m'))) m' n ⟨c.name,c.root,c.from_,c.has,c.out - x.w,c.use⟩;exact⟨Q1,Q2,Q3.1,Q3.2.1.trans Yu,Q3.2.2.1⟩
 ·rw [cond_true];have k1':x.kind=1:=by simpa using k1
  have hvr:0 <=x.via∧x.via < w.cells.length:=by rcases hx.2.2.2 with z | z | z <;> omega
  cases g1:((!c.root && (c.from_==-1)) && (x.via !=x.ZH))
  ·rw [cond_false];cases g2:((!c.root && decide (c.from_ >=0)) && (c.from_==x.via))
   ·rw [cond_false];by_cases hv:x.via=x.ZH
    ·have hb:QR (cw w m' (put ⟨c.name,c.root,c.from_,c.has,c.out,true⟩ (rowOf w m'))) m' n x.via x.w=cw w m' (put ⟨c.name,c.root,c.from_,c.has,c.out - x.w,true⟩ (rowOf w m')):=by
      unfold QR;have:(x.via != (m':Int))=false:=by simp;omega
      rw [this,cond_false,ZhW hm hsrt (by exact L.nam),ZGA,Jj hm,ZwT hsrt (by rfl),Q5 (n:=c.out - x.w) (by omega) (by omega)]
     rw [hb];have:=H.Zj5 (.inl ⟨k1',hv⟩) L true
     obtain⟨P1,P2,P3⟩:=ZdE (ex':=KY) R Mx hn hfl hno hmm hm (d:= ⟨c.name,c.root,c.from_,c.has,c.out - x.w,true⟩) L.nam (.inl rfl) (fun a k _ z=>z.elim) ⟨h,this⟩ (fun a _ _=>by
      simp only [List.nil_append,List.cons_append,Xb,WV k1'];by_cases z:a=x.ZH
      ·rw [if_pos z,z,L.out];omega
      ·rw [if_neg z];omega)
     exact⟨P1,P2,by show w.notes.length <=_;omega,Yu,rfl⟩
    ·have hce:XC w n x.ZH=some c:=by
      rcases L.or with z | ⟨z1,z2,z3,z4⟩
      ·exact z
      ·rw [z2,z3] at g1;simp at g1;exact absurd g1 hv
     have hb:QR (cw w m' (put ⟨c.name,c.root,c.from_,c.has,c.out,true⟩ (rowOf w m'))) m' n x.via x.w=sent (cw w m' (put ⟨c.name,c.root,c.from_,c.has,c.out,true⟩ (rowOf w m'))) ⟨2,x.via,n,0,x.w⟩:=by
      unfold QR;have:(x.via != (m':Int))=true:=by simp;omega
      rw [this,cond_true]
     rw [hb];have hH:=H.use hce true
     obtain⟨P1,P2,P3⟩:=ZdE (ex':=KY) R Mx hn hfl hfl hmm hm (d:= ⟨c.name,c.root,c.from_,c.has,c.out,true⟩) L.nam (.inl rfl) (fun a k _ z=>z.elim) ⟨h,hH⟩ (fun a _ _=>by
      by_cases z:a=x.ZH
      ·rw [if_pos z,z,L.out];exact Int.le_refl _
      ·rw [if_neg z];exact Int.le_refl _)
     obtain⟨U,V1,V2⟩:=Zbi (n:=n) hm R.Xo (c:= ⟨c.name,c.root,c.from_,c.has,c.out,true⟩) L.nam;rw [hmm] at V1
     obtain⟨Q1,Q2⟩:=ZwJ (n:=n) (y:= ⟨2,x.via,n,0,x.w⟩) P1 P2 (by rw [Zcd U.nms U.fre];exact hn) hfl hno rfl (by
      rw [Yu,V1,V2];exact⟨h,hH.Zry k1' rfl⟩) (fun a _ _=>by
      rw [V2,List.nil_append,Qb,QH,ZcR rfl];simp only [List.cons_append,List.nil_append,Xb,WV k1'];omega)
     refine⟨Q1,Q2,?_,Yu,rfl⟩;show(w.notes ++ [_]).length <=_;simp
   ·rw [cond_true];simp at g2;rw [Q5 (n:=c.has + x.w) (by omega) (by omega)];have:=H.Zrx k1' L g2.1.2 g2.2 true
    obtain⟨P1,P2,P3⟩:=ZdE (ex':=KY) R Mx hn hfl hno hmm hm (d:= ⟨c.name,c.root,c.from_,c.has + x.w,c.out,true⟩) L.nam (.inl rfl) (fun a k _ z=>z.elim) ⟨h,this⟩ (fun a _ _=>by
     simp only [List.nil_append,List.cons_append,Xb,WV k1'];by_cases z:a=x.ZH
     ·rw [if_pos z,z,L.out];omega
     ·rw [if_neg z];omega)
    exact⟨P1,P2,by show w.notes.length <=_;omega,Yu,rfl⟩
  ·rw [cond_true];simp at g1;have:=H.ZuL k1' L g1.1.1 g1.1.2 g1.2 true
   obtain⟨P1,P2,P3⟩:=ZdE (ex':=KY) R Mx hn hfl hno hmm hm (d:= ⟨c.name,c.root,x.via,x.w,c.out,true⟩) L.nam (.inl rfl) (fun a k _ z=>z.elim) ⟨h,this⟩ (fun a _ _=>by
    simp only [List.nil_append,List.cons_append,Xb,WV k1'];by_cases z:a=x.ZH
    ·rw [if_pos z,z,L.out];omega
    ·rw [if_neg z];omega)
   exact⟨P1,P2,by show w.notes.length <=_;omega,Yu,rfl⟩
def Zbm (w:Za) (k:Nat):Za:= ⟨w.cells,w.notes.take k ++ w.notes.drop (k + 1),w.names,w.freed⟩
theorem ZAT (R:Rt w) {k:Nat} {x:Zf} (hk:w.notes[k]? =some x):Rx (Zbm w k) KY [x]∧Mw (Zbm w k) [x]:=by
 obtain⟨hkl,hkx⟩:=List.getElem?_eq_some_iff.1 hk
 have Zjp:w.notes=w.notes.take k ++ x::w.notes.drop (k + 1):=by
  rw [← hkx,← List.drop_eq_getElem_cons hkl,List.take_append_drop]
 obtain⟨R0,M0⟩:=R.rx
 have hp:∀ n,(Uu w n).Perm (flN n [x] ++ Uu (Zbm w k) n):=by
  intro n;unfold Uu Zbm flN
  conv=>lhs;rw [Zjp]
  rw [List.filter_append,List.filter_append,List.filter_cons,List.filter_cons];split
  ·exact List.perm_middle
  ·exact List.Perm.refl _
 have hmem:∀ y ∈ [x] ++ (Zbm w k).notes,y ∈ w.notes:=by
  intro y hy;rw [Zjp];simp only [Zbm,List.mem_append,List.mem_cons,List.mem_singleton,List.not_mem_nil,or_false] at hy ⊢;rcases hy with z | z | z
  ·exact .inr (.inl z)
  ·exact .inl z
  ·exact .inr (.inr z)
 refine⟨{R0 with nn:=fun y hy=>R0.nn y (by simpa using hmem y hy),nm:=fun n hn=>?_},fun n hn=>?_⟩
 ·obtain⟨h,H⟩:=R0.nm n hn;exact⟨h,H.perm (hp n)⟩
 ·have:=M0 n hn;intro a a0 a1;have:=this a a0 a1;unfold K6 at this ⊢;rw [← Zfl (hp n)];exact this
theorem ZvK (R:Rt w) {k:Nat} {x:Zf} (hk:w.notes[k]? =some x):Rt (Uc (Zbm w k) x)∧(Uc (Zbm w k) x).cells.length=w.cells.length∧(Uc (Zbm w k) x).names=w.names:=by
 obtain⟨R0,M0⟩:=ZAT R hk;obtain⟨q1,q2,q3,q4,q5⟩:=ZvJ R0 M0;obtain⟨hkl,_⟩:=List.getElem?_eq_some_iff.1 hk;refine⟨q1.rt q2 ?_,q4,q5⟩
 have:(Zbm w k).notes.length=w.notes.length - 1:=by
  unfold Zbm;simp;omega
 have:=R.nts;omega
end
end Go.Proofs.Ytekpjgmhkkjhgaa
end
section
namespace Go.Proofs.Ytekpjgmhkkjhgaa
open Go.Lf
theorem Zkg (K:Nat):∀ {r:Row},UB r ->r.filter (fun c=>decide (c.name < ((K + 1:Nat):Int)))=r.filter (fun c=>decide (c.name < (K:Int))) ++ (J5 r K).toList
 | [],_=>rfl
 | d::r,s=>by
   have hh:=s.head;rw [Xk];by_cases h1:d.name < (K:Int)
   ·rw [List.filter_cons_of_pos (by simp;omega),List.filter_cons_of_pos (by simpa using h1),if_neg (by omega),Zkg K s.tail];rfl
   ·have h3:r.filter (fun c=>decide (c.name < (K:Int)))= []:=by
     rw [List.filter_eq_nil_iff];intro c hc;have:=hh c hc;simp;omega
    have h4:r.filter (fun c=>decide (c.name < ((K + 1:Nat):Int)))= []:=by
     rw [List.filter_eq_nil_iff];intro c hc;have:=hh c hc;simp;omega
    rw [List.filter_cons_of_neg (p:=fun c:Zb=>decide (c.name < (K:Int))) (by simpa using h1),h3];by_cases h2:d.name= (K:Int)
    ·rw [List.filter_cons_of_pos (by simp;omega),h4,if_pos h2];rfl
    ·rw [List.filter_cons_of_neg (by simp;omega),h4,if_neg h2,Zif (by intro c hc;have:=hh c hc;omega)];rfl
def ZjD (a:Int) (c:Zb) (s:List (List Zb)):List (List Zb):=s.set a.toNat ((s[a.toNat]?.getD []) ++ [c])
section
variable {w:Za} {st:Store}
theorem ZpH {m:Nat} (Xo:UB (rowOf w m)) (hn:∀ c ∈ rowOf w m,0 <=c.name) {s:List (List Zb)} (hs:s[m]? =some []) (K:Nat):
 (List.range K).foldl (fun s n=>Jt w ZjD m n s) s=s.set m ((rowOf w m).filter fun c=>decide (c.name < (K:Int))):=by
 have hm:m < s.length:= (List.getElem?_eq_some_iff.1 hs).1
 induction K with
 | zero=>
   have:(rowOf w m).filter (fun c=>decide (c.name < ((0:Nat):Int)))= []:=by
    rw [List.filter_eq_nil_iff];intro c hc;have:=hn c hc;simp;omega
   rw [this,set_self hs];rfl
 | succ K ih=>
   rw [List.range_succ,List.foldl_append,ih];simp only [List.foldl_cons,List.foldl_nil];rw [Zkg K Xo];unfold Jt;rw [Qg];cases hf:J5 (rowOf w m) (K:Int) with
   | none=>simp
   | some c=>
     dsimp only;unfold ZjD;rw [Int.toNat_natCast,List.getElem?_set_self hm,List.set_set]
     rfl
theorem ZpG {N:Nat} (Xo:∀ m,m < w.cells.length ->UB (rowOf w m)) (hn:∀ m,m < w.cells.length ->∀ c ∈ rowOf w m,0 <=c.name∧c.name < (N:Int)):
 (List.range w.cells.length).foldl (fun s m=>(List.range N).foldl (fun s n=>Jt w ZjD m n s) s) (List.replicate w.cells.length [])=w.cells:=by
 have key:∀ M,M <=w.cells.length ->((List.range M).foldl (fun s m=>(List.range N).foldl (fun s n=>Jt w ZjD m n s) s) (List.replicate w.cells.length [])).length=w.cells.length∧
  ∀ i,i < w.cells.length ->((List.range M).foldl (fun s m=>(List.range N).foldl (fun s n=>Jt w ZjD m n s) s) (List.replicate w.cells.length []))[i]? =some (if i < M then rowOf w i else []):=by
  intro M
  induction M with
  | zero=>intro _;simp;intro i hi;simp [hi]
  | succ M ih=>
    intro hM;obtain⟨i1,i2⟩:=ih (by omega);rw [List.range_succ,List.foldl_append];simp only [List.foldl_cons,List.foldl_nil];rw [ZpH (Xo M (by omega)) (fun c hc=>(hn M (by omega) c hc).1) (by rw [i2 M (by omega),if_neg (by omega)])]
    have hfull:(rowOf w M).filter (fun c=>decide (c.name < (N:Int)))=rowOf w M:=by
     rw [List.filter_eq_self];intro c hc;simpa using (hn M (by omega) c hc).2
    rw [hfull];refine⟨by rw [List.length_set,i1],fun i hi=>?_⟩;by_cases e:i=M
    ·subst e;rw [List.getElem?_set_self (by rw [i1];exact hi),if_pos (by omega)]
    ·rw [List.getElem?_set_ne (fun z=>e z.symm),i2 i hi];congr 1;by_cases z:i < M
     ·rw [if_pos z,if_pos (by omega)]
     ·rw [if_neg z,if_neg (by omega)]
 obtain⟨k1,k2⟩:=key w.cells.length (Nat.le_refl _);apply List.ext_getElem?;intro i;by_cases hi:i < w.cells.length
 ·rw [k2 i hi,if_pos hi,Yl hi]
 ·rw [List.getElem?_eq_none (by omega),List.getElem?_eq_none (by omega)]
theorem Szd.Zg7 (n12:w.names <=12) {m:Nat} (Xo:UB (rowOf w m)) (hn:∀ c ∈ rowOf w m,0 <=c.name∧c.name < w.names):(rowOf w m).length <=12:=by
 have h0:((rowOf w m).map fun c=>c.name).Pairwise (· < ·):=by rw [List.pairwise_map];exact Xo
 by_cases e:0 <=w.names
 ·have:=Za8 (b:=w.names) (a:=0) h0 (by
   intro x hx;obtain⟨c,hc,rfl⟩:=List.mem_map.1 hx;exact hn c hc) e
  rw [List.length_map] at this;omega
 ·cases h:rowOf w m with
  | nil=>simp
  | cons c r=>have:=hn c (by rw [h];simp);omega
theorem ZwI {F:Nat} (hF:1000 <=F) (sm:Small w) (sz:Szd w) (so:Qm w st) (Xo:∀ m,m < w.cells.length ->UB (rowOf w m)) (hn:∀ m,m < w.cells.length ->∀ c ∈ rowOf w m,0 <=c.name∧c.name < w.names):Zne F st=some w:=by
 have hc:=sz.c6;have hno:=sm.notes;have hfr:=sm.freed;have h0:=sz.n0;have h12:=sz.n12;unfold Zne Zpb Zpa mkL;rw [so.m,so.notes,so.freed]
 have hb:(decide (0 <= (w.cells.length:Int)) && (decide ((w.cells.length:Int) <= (w.cells.length:Int)) && Nat.ble (24 * ((w.cells.length:Int)).toNat) 100000))=true:=by
  rw [Bool.and_eq_true,Bool.and_eq_true];refine⟨by simp,by simp,Nat.ble_eq_true_of_le (by omega)⟩
 rw [hb,cond_true,Option.bind_some,YL (by simp only [List.length_nil];omega) (by decide),YL (by simp only [List.length_nil];omega) (by decide)];simp only [Option.bind_some,List.nil_append,Int.toNat_natCast]
 obtain⟨h1,_⟩:=ZlU hF sm sz so (z:=Zb.mk 0 false 0 0 0 false) (fun i (s:List (List Zb))=>s.length=w.cells.length∧∀ r ∈ s,r.length <=i) (fun i s h=>⟨h.1,fun r hr=>Nat.le_succ_of_le (h.2 r hr)⟩) (E:=Zf4 st w.notes w.freed) (B1:=Zln F st w.notes w.freed) (B2:=Zlm st w.notes w.freed)
  (Y:=fun a c s k=>(ZL s a).bind fun x66=>(app 48 x66 [c]).bind fun z74=>(ZL s a).bind fun x78=>k (YH s a z74)) ZjD (fun v s next=>by simp only [Zln]) (fun v0 next v s nx=>by
    simp only [Zlm];cases decide (v < st.names)
    ·rfl
    ·simp only [cond_true];rfl) (fun i a c s k ha hi hs=>by
    have hg:s[a]? =some (s[a]'(by omega)):=by simp
    have hl:(s[a]'(by omega)).length <=i:=hs.2 _ (List.getElem_mem _)
    have hset:YH s (a:Int) (s[a]'(by omega) ++ [c])=ZjD a c s:=by
     unfold YH ZjD;rw [Int.toNat_natCast,hg];rfl
    rw [ZB,hg,Option.bind_some,YL (by simp;omega) (by decide),Option.bind_some,Option.bind_some,hset];refine⟨rfl,?_,fun r hr=>?_⟩
    ·unfold ZjD;rw [List.length_set];exact hs.1
    ·unfold ZjD at hr;rcases List.mem_or_eq_of_mem_set hr with z | z
     ·exact Nat.le_succ_of_le (hs.2 r z)
     ·rw [z,Int.toNat_natCast,hg];simp;omega) (List.replicate w.cells.length []) ⟨by simp,by
    intro r hr;rw [List.mem_replicate] at hr;rw [hr.2];simp⟩
 have:=ZpG (w:=w) Xo (N:=w.names.toNat) (fun m hm c hc=>by have:=hn m hm c hc;omega);rw [h1,this];unfold Zf4;rw [so.n]
theorem Rt.small (R:Rt w):Small w:=by
 have:=R.c6;have:=R.nts;have:=R.Zkd;have:=R.n12;refine⟨by omega,fun r hr=>?_,by omega,by omega⟩;obtain⟨m,hm⟩:=List.getElem?_of_mem hr;have hml:= (List.getElem?_eq_some_iff.1 hm).1;have e:r=rowOf w m:=by have:=Yl hml;rw [hm] at this;exact Option.some.inj this
 have:=Szd.Zg7 R.n12 (R.Xo m hml) (fun c hc=>by have:= (R.cn m hml c hc).1;unfold Ym at this;simp at this;exact this.1);rw [e];omega
theorem Rt.names (R:Rt w):∀ m,m < w.cells.length ->∀ c ∈ rowOf w m,0 <=c.name∧c.name < w.names:=fun m hm c hc=>by
 have:= (R.cn m hm c hc).1;unfold Ym at this;simp at this;exact this.1
theorem Rt.shut {F:Nat} (hF:1000 <=F) (R:Rt w) (so:Qm w st):Zne F st=some w:=ZwI hF R.small R.shp.szd so R.Xo R.names
theorem Rt.open_ {F:Nat} (hF:1000 <=F) (R:Rt w):∃ st,Zjs F w=some st∧Qm w st∧UK st.cells:=by
 obtain⟨cs,q1,q2⟩:=Zqa hF R.small R.shp;obtain⟨cs',q3,q4⟩:=ZwX hF R.small;rw [q1] at q3;have:cs=cs':=congrArg Store.cells (Option.some.inj q3);subst this;exact⟨_,q1,⟨rfl,rfl,rfl,rfl,q2⟩,q4⟩
theorem Rt.copy {F:Nat} (hF:1000 <=F) (R:Rt w) (so:Qm w st):∃ st',Zu4 F st=some st'∧Qm w st'∧UK st'.cells:=by
 obtain⟨st',q1,q2,q3⟩:=R.open_ hF;refine⟨st',?_,q2,q3⟩;unfold Zu4;rw [R.shut hF so,Option.bind_some,q1];rfl
end
end Go.Proofs.Ytekpjgmhkkjhgaa
end
section
namespace Go.Proofs.Ytekpjgmhkkjhgaa
open Go.Lf
def Wd (d:Zv) (M:Int):Bool:=
 bif d.Xf==1 then(((decide (d.at_ >=0)) && (decide (d.at_ < M))) && (d.name==0)) && (d.ZH==0)
 else bif(d.Xf==2 || d.Xf==4) then(((decide (d.at_ >=0)) && (decide (d.at_ < M))) && ((decide (d.ZH >=0)) && (decide (d.ZH < M)))) && ((d.at_ !=d.ZH) && decide (d.name >=0))
 else bif d.Xf==3 then(((decide (d.at_ >=0)) && (decide (d.at_ < M))) && (decide (d.name >=0))) && (d.ZH==0)
 else(((d.Xf==5) && (decide (d.at_ >=0))) && (d.name==0)) && (d.ZH==0)
theorem ZrB (d:Zv) (M:Int):ZrJ d M=some (Wd d M):=by
 unfold ZrJ Wd Ziz;generalize (d.Xf==1)=b1;generalize (d.Xf==2)=b2;generalize (d.Xf==3)=b3;generalize (d.Xf==4)=b4;generalize (d.Xf==5)=b5;cases b1 <;> cases b2 <;> cases b3 <;> cases b4 <;> cases decide (d.at_ >=0) <;> cases decide (d.at_ < M) <;> simp [Bool.and_assoc]
theorem ZuV (d:Zv) {M:Int} (h0:0 <=M) (h1:M <=1000):ZrH d M=some (Wd d M):=by
 unfold ZrH Wd Ziy;rw [in_lt _ _ h0 h1,in_lt _ _ h0 h1];simp only [K7,Option.bind_some];have e:(d.ZH !=d.at_)= (d.at_ !=d.ZH):=by simp only [bne];rw [Bool.beq_comm]
 rw [e];by_cases k1:d.Xf=1
 ·simp [k1]
 ·by_cases k2:d.Xf=2
  ·simp [k2];generalize (d.at_ !=d.ZH)=b;by_cases a1:0 <=d.at_ <;> by_cases a2:d.at_ < M <;> by_cases a3:0 <=d.name <;> cases b <;> simp [a1,a2,a3]
  ·by_cases k4:d.Xf=4
   ·simp [k4];generalize (d.at_ !=d.ZH)=b;by_cases a1:0 <=d.at_ <;> by_cases a2:d.at_ < M <;> by_cases a3:0 <=d.name <;> cases b <;> simp [a1,a2,a3]
   ·by_cases k3:d.Xf=3
    ·simp [k3]
    ·by_cases k5:d.Xf=5
     ·simp [k5]
     ·have b1:(d.Xf==1)=false:=by simp [k1]
      have b2:(d.Xf==2)=false:=by simp [k2]
      have b3:(d.Xf==3)=false:=by simp [k3]
      have b4:(d.Xf==4)=false:=by simp [k4]
      have b5:(d.Xf==5)=false:=by simp [k5]
      rw [b1,b2,b3,b4,b5];rfl
theorem Zaq {d:Zv} {M:Int} (h:Wd d M=true):
 (d.Xf=1∧0 <=d.at_∧d.at_ < M)∨((d.Xf=2∨d.Xf=4)∧(0 <=d.at_∧d.at_ < M)∧(0 <=d.ZH∧d.ZH < M)∧d.at_ ≠ d.ZH∧0 <=d.name)∨(d.Xf=3∧(0 <=d.at_∧d.at_ < M)∧0 <=d.name)∨(d.Xf=5∧0 <=d.at_):=by
 unfold Wd at h;by_cases k1:d.Xf=1
 ·simp [k1] at h;exact .inl ⟨k1,h.1.1⟩
 ·by_cases k2:d.Xf=2
  ·simp [k2] at h;exact .inr (.inl ⟨.inl k2,h.1.1,h.1.2,h.2.1,h.2.2⟩)
  ·by_cases k4:d.Xf=4
   ·simp [k4] at h;exact .inr (.inl ⟨.inr k4,h.1.1,h.1.2,h.2.1,h.2.2⟩)
   ·by_cases k3:d.Xf=3
    ·simp [k3] at h;exact .inr (.inr (.inl ⟨k3,h.1.1,h.1.2⟩))
    ·simp [k1,k2,k3,k4] at h;exact .inr (.inr (.inr ⟨h.1.1.1,h.1.1.2⟩))
def Xu (w:Za) (d:Zv):Za:=
 bif d.Xf==1 then Zeo w d.at_.toNat
 else bif d.Xf==2 then Zeg w d d.at_.toNat (look (rowOf w d.at_.toNat) d.name)
 else bif d.Xf==5 then Uc (Zbm w d.at_.toNat) (w.notes[d.at_.toNat]?.getD ⟨0,0,0,0,0⟩)
 else bif d.Xf==3 then ZgM w d.at_.toNat d.name (look (rowOf w d.at_.toNat) d.name)
 else goW w d d.at_.toNat (look (rowOf w d.at_.toNat) d.name)
section
variable {w:Za} {n:Int}
theorem Rx.range {ex:Int ->Int ->Prop} {fl:List Zf} (R:Rx w ex fl):∀ m,m < w.cells.length ->∀ c ∈ rowOf w m,0 <=c.name∧c.name < w.names:=fun m hm c hc=>by
 have:= (R.cn c.name m c (by rw [Wm hm];exact Zo5 (R.Xo m hm) hc)).1;unfold Ym at this;simp at this;exact this.1
theorem Rx.small {ex:Int ->Int ->Prop} {fl:List Zf} (R:Rx w ex fl) (hl:w.notes.length < 900):Small w:=by
 have:=R.c6;have:=R.n12;have hf:=Za8 R.fr R.frr R.n0;refine⟨by omega,fun r hr=>?_,by omega,by omega⟩;obtain⟨m,hm⟩:=List.getElem?_of_mem hr;have hml:= (List.getElem?_eq_some_iff.1 hm).1;have e:r=rowOf w m:=by have:=Yl hml;rw [hm] at this;exact Option.some.inj this
 have:=Szd.Zg7 R.n12 (R.Xo m hml) (R.range m hml);rw [e];omega
theorem Rx.szd {ex:Int ->Int ->Prop} (R:Rx w ex []):Szd w:= ⟨R.c6,R.n0,R.n12,fun x hx=>by
 have hn:=R.nn x (by simpa using hx);obtain⟨h,H⟩:=R.nm _ hn;have:= (H.nts x (List.mem_append_right _ (List.mem_filter.2 ⟨hx,by simp⟩))).2.2.2;rcases this with z | z | z
 ·exact .inl z.1
 ·exact .inr (.inl z.1)
 ·exact .inr (.inr z.1)⟩
theorem Rt.XM (R:Rt w) {m:Nat} (hm:m < w.cells.length) {c:Zb} (hc:J5 (rowOf w m) n=some c):look (rowOf w m) n=c∧XC w n m=some c∧Ym w n=true:=by
 have e:XC w n m=some c:=by rw [Wm hm];exact hc
 exact⟨Jv hc,e,(R.rx.1.cn n m c e).1⟩
theorem Rx.ZdF (R:Rx w KY []) (Mx:Mw w []):∀ k a c,XC w k a=some c ->c.out <=1000016:=fun k a c hc=>by
 have hn:= (R.cn k a c hc).1;obtain⟨h,H⟩:=R.nm k hn;have:= (H.most (Mx k hn)).1 a c hc;omega
theorem ZdD (R:Rt w) (hn:Ym w n=true) {m:Nat} (hm:m < w.cells.length) {d:Zb} (hd:d.name=n) {y:Zf} (hy:y.name=n) (hu:d.use=true∨d.out ≠ 0)
 (hN:∃ h,Nm w.cells.length n (Yz (XC w n) m (some d)) (Uu w n ++ [y]) h):Rx (sent (cw w m (put d (rowOf w m))) y) KY []:=by
 obtain⟨R0,M0⟩:=R.rx;obtain⟨U,V1,V2⟩:=Zbi hm R.Xo hd;obtain⟨U2,W1,W2⟩:=Zef (w:=cw w m (put d (rowOf w m))) (n:=n) (x:=y) (fun a ha=>U.Xo a (by rw [← U.len];exact ha)) hy;refine R0.upd (U.trans U2) hn (by simp) (by simp) (fun a c hc=>?_) (fun _ _ _ z=>z) ?_
 ·rw [W1,V1] at hc;unfold Yz at hc;split at hc
  ·cases hc;exact hu.elim .inl fun z=>.inr (.inl z)
  ·exact(R0.cn n a c hc).2
 ·rw [W1,W2,V1,V2];exact hN
theorem ZAH (R:Rt w) {d:Zv} {m:Nat} (hm:m < w.cells.length) (hat:d.at_= (m:Int)) (hto:0 <=d.ZH∧d.ZH < (w.cells.length:Int)) {c:Zb} (hc:J5 (rowOf w m) d.name=some c) (hu:c.use=true):Rx (Zeg w d m c) KY []:=by
 obtain⟨_,e,hn⟩:=R.XM hm hc;obtain⟨h,H,Mx⟩:=R.nm _ hn;have S:= (H.most Mx).1 _ c e;have hcn:=Qt hc;unfold Zeg;cases hb:(decide (c.from_ >=0) && decide (c.has >=2))
 ·rw [cond_false,Q5 (n:=c.out + 16) (by omega) (by omega)];exact ZdD R hn hm (d:= ⟨c.name,c.root,c.from_,c.has,c.out + 16,c.use⟩) (y:= ⟨1,d.ZH,d.name,d.at_,16⟩) hcn rfl (.inl hu) ⟨h,H.ZwN (w:=16) e hto (by decide) (by rw [hat])⟩
 ·rw [cond_true];simp at hb;have e1:c.has.tdiv 2=c.has / 2:=Int.tdiv_eq_ediv_of_nonneg (by omega);rw [e1,Q5 (n:=c.has / 2) (by omega) (by omega),Q5 (n:=c.has - c.has / 2) (by omega) (by omega)];exact ZdD R hn hm (d:= ⟨c.name,c.root,c.from_,c.has - c.has / 2,c.out,c.use⟩) (y:= ⟨1,d.ZH,d.name,c.from_,c.has / 2⟩) hcn rfl (.inl hu) ⟨h,H.ZwL (w:=c.has / 2) e hb.1 hto (by omega) (by omega) rfl⟩
theorem ZGl (R:Rt w) {d:Zv} {m:Nat} (hm:m < w.cells.length) (hat:d.at_= (m:Int)) (hto:0 <=d.ZH∧d.ZH < (w.cells.length:Int)) (hne:d.at_ ≠ d.ZH) {c:Zb} (hc:J5 (rowOf w m) d.name=some c) (hr:c.root=true):Rx (goW w d m c) KY []:=by
 obtain⟨_,e,hn⟩:=R.XM hm hc;obtain⟨h,H,Mx⟩:=R.nm _ hn;have hcn:=Qt hc;unfold goW;have hu:c.use=true∨c.out ≠ 0:= (R.cn m hm c (ZcW hc)).2;exact ZdD R hn hm (d:=goC c d.ZH) hcn rfl hu ⟨d.ZH,H.go e hr hto (by omega) rfl⟩
theorem ZlD (R:Rt w) {m:Nat} (hm:m < w.cells.length) {c:Zb} (hc:J5 (rowOf w m) n=some c):Rx (ZgM w m n c) KY []∧Mw (ZgM w m n c) []:=by
 obtain⟨_,e,hn⟩:=R.XM hm hc;obtain⟨h,H,Mx⟩:=R.nm _ hn;obtain⟨R0,M0⟩:=R.rx;have hcn:=Qt hc
 obtain⟨P1,P2,P3⟩:=ZdE (n:=n) (fl:= []) (fl':= []) (m:=m) (m':=m) (ex':=fun a k=>a= (m:Int)∧k=n) R0 M0 hn (by simp) (by simp) rfl hm (d:=Za3 c) hcn (.inr (.inr ⟨rfl,rfl⟩)) (fun a k _ z=>z.elim) ⟨h,H.use e false⟩ (fun a _ _=>by
  by_cases z:a= (m:Int)
  ·rw [if_pos z,z,e];exact Int.le_refl _
  ·rw [if_neg z];exact Int.le_refl _)
 unfold ZgM;exact ZcM P1 P2 rfl (by rw [Yu];exact hm) P3
theorem ZAU (R:Rt w) {m:Nat} (hm:m < w.cells.length) (hlt:w.names < 12):Rx (Zeo w m) KY []:=by
 have hn0:=R.n0;obtain⟨R0,M0⟩:=R.rx;obtain⟨U,V1,V2⟩:=Zbi (w:=w) (n:=w.names) hm R.Xo (c:=ZkP w) rfl;have hnm:(Zeo w m).names=w.names + 1:=Q5 (by omega) (by omega)
 have hB:∀ k,Ym (Zeo w m) k= (Ym w k || (k==w.names)):=by
  intro k;unfold Ym;rw [hnm];show(decide (0 <=k) && decide (k < w.names + 1) && !(w.freed.any fun y=>y==k))=_;by_cases e:k=w.names
  ·have:(w.freed.any fun y=>y==k)=false:=by
    rw [List.any_eq_false];intro y hy;have:=R.frr y hy;simp;omega
   rw [this];simp [e];omega
  ·have:decide (k < w.names + 1)=decide (k < w.names):=decide_eq_decide.2 (by omega);rw [this];simp [e]
 have hno:¬ Ym w w.names=true:=by unfold Ym;simp
 have ZI6:XC w w.names=fun _=>none:=by
  funext a;cases e:XC w w.names a with
  | none=>rfl
  | some c=>exact absurd (R0.cn _ _ _ e).1 hno
 have hns0:Uu w w.names= []:=by
  unfold Uu;rw [List.filter_eq_nil_iff];intro x hx;have:=R.nn x hx;intro z;have z:x.name=w.names:=by simpa using z
  rw [z] at this;exact hno this
 have ZEM:XC (Zeo w m) w.names=Yz (fun _=>none) m (some (ZkP w)):=by
  show XC (cw w m (put (ZkP w) (rowOf w m))) w.names=_;rw [V1,ZI6]
 have hlen:(Zeo w m).cells.length=w.cells.length:=Yu;refine⟨by rw [hlen];exact R.c1,by rw [hlen];exact R.c6,by rw [hnm];omega,by rw [hnm];omega,R.fr,fun x hx=>?_,fun a ha=>?_,fun k a c hc=>?_,fun x hx=>?_,fun k hk=>?_⟩
 ·have:=R.frr x hx;rw [hnm];omega
 ·exact U.Xo a (by rw [hlen] at ha;exact ha)
 ·rw [hB];by_cases e:k=w.names
  ·subst e;rw [ZEM] at hc;unfold Yz at hc;split at hc
   ·cases hc;exact⟨by simp,.inl rfl⟩
   ·cases hc
  ·have:XC (Zeo w m) k=XC w k:=U.oc k e;rw [this] at hc;have:=R0.cn k a c hc;exact⟨by rw [this.1];rfl,this.2⟩
 ·have hx:x ∈ w.notes:=hx;rw [hB,R.nn x hx];rfl
 ·rw [hlen];by_cases e:k=w.names
  ·subst e;refine⟨m,?_⟩;rw [ZEM];show Nm _ _ _ ([] ++ Uu w w.names) _;rw [hns0];exact Nm.fresh ⟨by omega,by omega⟩
  ·rw [hB] at hk;have hk:Ym w k=true:=by simpa [e] using hk
   obtain⟨h,H⟩:=R0.nm k hk;refine⟨h,?_⟩;have:XC (Zeo w m) k=XC w k:=U.oc k e;rw [this];exact H
theorem Zw1 (R:Rt w) {m:Nat} (hm:m < w.cells.length):∀ k a c,XC (Zeo w m) k a=some c ->c.out <=1000016:=fun k a c hc=>by
 obtain⟨R0,M0⟩:=R.rx;obtain⟨U,V1,V2⟩:=Zbi (w:=w) (n:=w.names) hm R.Xo (c:=ZkP w) rfl;have hc:XC (cw w m (put (ZkP w) (rowOf w m))) k a=some c:=hc;by_cases e:k=w.names
 ·subst e;rw [V1] at hc;unfold Yz at hc;split at hc
  ·cases hc;show(0:Int) <=_;omega
  ·exact R0.ZdF M0 _ _ _ hc
 ·rw [U.oc k e] at hc;exact R0.ZdF M0 _ _ _ hc
theorem Zhz (x:Zf):(sent w x).notes.length=w.notes.length + 1:=by unfold sent;simp
theorem ZsE (d:Zv) (m:Nat) (c:Zb):(Zeg w d m c).notes.length=w.notes.length + 1∧(Zeg w d m c).cells.length=w.cells.length∧(Zeg w d m c).names=w.names:=by
 unfold Zeg;cases (decide (c.from_ >=0) && decide (c.has >=2))
 ·rw [cond_false];exact⟨Zhz _,Yu,rfl⟩
 ·rw [cond_true];exact⟨Zhz _,Yu,rfl⟩
theorem Jc {d:Zv} {m:Nat} (h1:d.Xf ≠ 1) (h5:d.Xf ≠ 5) (he:Xt w d m=0):∃ c,J5 (rowOf w m) d.name=some c∧(d.Xf=4 ->c.root=true)∧(d.Xf ≠ 4 ->c.use=true):=by
 unfold Xt at he;have b1:(d.Xf==1)=false:=by simp [h1]
 have b5:(d.Xf==5)=false:=by simp [h5]
 rw [b1,b5] at he;simp only [cond_false] at he;cases hf:J5 (rowOf w m) d.name with
 | none=>rw [hf] at he;cases he
 | some c=>
   rw [hf] at he;refine⟨c,rfl,fun h4=>?_,fun h4=>?_⟩
   ·rw [h4] at he;dsimp only at he;cases hr:c.root with
    | true=>rfl
    | false=>rw [hr] at he;simp at he
   ·have b4:(d.Xf==4)=false:=by simp [h4]
    rw [b4] at he;dsimp only at he;cases hr:c.use with
    | true=>rfl
    | false=>rw [hr] at he;simp at he
theorem Zb5 (R:Rt w) {m:Nat} (hm:m < w.cells.length) {d:Zb} (hd:d.name=n) {y:Zf} (ho:d.out <=1000016):∀ k a c,XC (sent (cw w m (put d (rowOf w m))) y) k a=some c ->c.out <=1000016:=fun k a c hc=>by
 obtain⟨R0,M0⟩:=R.rx;obtain⟨U,V1,V2⟩:=Zbi hm R.Xo hd;have hc:XC (cw w m (put d (rowOf w m))) k a=some c:=hc;by_cases e:k=n
 ·subst e;rw [V1] at hc;unfold Yz at hc;split at hc
  ·cases hc;exact ho
  ·exact R0.ZdF M0 _ _ _ hc
 ·rw [U.oc k e] at hc;exact R0.ZdF M0 _ _ _ hc
theorem ZwM (R:Rt w) {d:Zv} {m:Nat} (hm:m < w.cells.length) {c:Zb} (hc:J5 (rowOf w m) d.name=some c):∀ k a x,XC (Zeg w d m c) k a=some x ->x.out <=1000016:=by
 obtain⟨_,e,hn⟩:=R.XM hm hc;obtain⟨h,H,Mx⟩:=R.nm _ hn;have S:= (H.most Mx).1 _ c e;have hcn:=Qt hc;unfold Zeg;cases hb:(decide (c.from_ >=0) && decide (c.has >=2))
 ·rw [cond_false,Q5 (n:=c.out + 16) (by omega) (by omega)];exact Zb5 R hm (d:= ⟨c.name,c.root,c.from_,c.has,c.out + 16,c.use⟩) hcn (by show c.out + 16 <=_;omega)
 ·rw [cond_true];exact Zb5 R hm (d:= ⟨c.name,c.root,c.from_,ZQ (c.has - ZQ (c.has.tdiv 2)),c.out,c.use⟩) hcn (by show c.out <=_;omega)
theorem ZlE (R:Rt w) {d:Zv} (hf:Wd d w.cells.length=true) (he:Xt w d d.at_.toNat=0):
 Rx (Xu w d) KY []∧(Xu w d).notes.length <=82∧(Xu w d).cells.length=w.cells.length∧(d.Xf ≠ 1 ->(Xu w d).names=w.names)∧∀ k a c,XC (Xu w d) k a=some c ->c.out <=1000016:=by
 have hnl:=R.nts;obtain⟨R0,M0⟩:=R.rx;unfold Xu;rcases Zaq hf with⟨k,a⟩ | ⟨k,a,t,ne,nm⟩ | ⟨k,a,nm⟩ | ⟨k,a⟩
 ·rw [k];simp only [beq_self_eq_true,cond_true]
  have:w.names < 12:=by
   unfold Xt at he;rw [k] at he;simp only [beq_self_eq_true,cond_true] at he;cases hb:decide (w.names >=12) with
   | true=>rw [hb] at he;cases he
   | false=>simpa using hb
  exact⟨ZAU R (by omega) this,by show w.notes.length <=82;omega,Yu,fun z=>absurd rfl z,fun k a c hc=>Zw1 R (by omega) k a c hc⟩
 ·have hm:d.at_.toNat < w.cells.length:=by omega
  have hat:d.at_= (d.at_.toNat:Int):=by omega
  rcases k with k | k
  ·obtain⟨c,hc,_,hu⟩:=Jc (by omega) (by omega) he;have hl:= (R.XM hm hc).1;rw [k,hl];simp only [beq_self_eq_true,cond_true,show((2:Int)==1)=false from rfl,cond_false];obtain⟨q1,q2,q3⟩:=ZsE (w:=w) d d.at_.toNat c;exact⟨ZAH R hm hat t hc (hu (by omega)),by omega,q2,fun _=>q3,ZwM R hm hc⟩
  ·obtain⟨c,hc,hr,_⟩:=Jc (by omega) (by omega) he;have hl:= (R.XM hm hc).1;rw [k,hl];simp only [show((4:Int)==1)=false from rfl,show((4:Int)==2)=false from rfl,show((4:Int)==3)=false from rfl,show((4:Int)==5)=false from rfl,cond_false];refine⟨ZGl R hm hat t ne hc (hr k),?_,Yu,fun _=>rfl,Zb5 R hm (d:=goC c d.ZH) (n:=d.name) (show c.name=d.name from Qt hc) (by show c.out <=_;exact R0.ZdF M0 _ _ _ (R.XM hm hc).2.1)⟩;unfold goW;rw [Zhz];show w.notes.length + 1 <=82;omega
 ·have hm:d.at_.toNat < w.cells.length:=by omega
  obtain⟨c,hc,_,hu⟩:=Jc (by omega) (by omega) he;have hl:= (R.XM hm hc).1;rw [k,hl];simp only [beq_self_eq_true,cond_true,show((3:Int)==1)=false from rfl,show((3:Int)==2)=false from rfl,show((3:Int)==5)=false from rfl,cond_false];have q:=Zam (w:=cw w d.at_.toNat (put (Za3 c) (rowOf w d.at_.toNat))) d.at_.toNat d.name (Za3 c);refine⟨(ZlD R hm hc).1,?_,q.2.1.trans Yu,fun _=>q.2.2.1,(ZlD R hm hc).1.ZdF (ZlD R hm hc).2⟩;have:=q.1;show(Qj _ _ _ _).notes.length <=82;have e:(cw w d.at_.toNat (put (Za3 c) (rowOf w d.at_.toNat))).notes.length=w.notes.length:=rfl;omega
 ·rw [k];simp only [beq_self_eq_true,cond_true,show((5:Int)==1)=false from rfl,show((5:Int)==2)=false from rfl,cond_false]
  have hlt:d.at_.toNat < w.notes.length:=by
   unfold Xt at he;rw [k] at he;simp only [beq_self_eq_true,cond_true,show((5:Int)==1)=false from rfl,cond_false] at he;cases hb:decide (d.at_ >= (w.notes.length:Int)) with
   | true=>rw [hb] at he;cases he
   | false=>simp at hb;omega
  have hx:w.notes[d.at_.toNat]? =some (w.notes[d.at_.toNat]'hlt):=by simp
  rw [hx];simp only [Option.getD_some];obtain⟨q1,q2,q3⟩:=ZvK R hx;have:=q1.nts;exact⟨q1.rx.1,by show(Uc _ _).notes.length <=82;omega,q2,fun _=>q3,q1.rx.1.ZdF q1.rx.2⟩
end
end Go.Proofs.Ytekpjgmhkkjhgaa
end
section
namespace Go.Proofs.Ytekpjgmhkkjhgaa
open Go.Lf
def Kz (w:Za):Bool:=decide ((w.notes.length:Int) > 80) || (List.range w.cells.length).any fun m=>(List.range w.names.toNat).any fun n=>decide (XB w m n > 1000000)
section
variable {w:Za} {n:Int} {st:Store} {F:Nat}
theorem Zci {β:Type} {g:Nat ->Nat ->Unit ->(Unit ->Option β) ->Option β} {d:Unit ->Option β} {r:Option β} (c:Nat ->Bool) {N:Nat}
 (hg:∀ k x next,x < N ->g k x () next=bif c x then r else next ()):iter g d 0 (List.range N) ()=bif(List.range N).any c then r else d ():=by
 rw [XT (r:=r) (fun _ x=>c x) (fun k x next hx=>by
  have:x < N:=by have:=List.mem_of_getElem? hx;simpa using this
  exact hg _ x next this),JR]
theorem ZsQ (hF:1000 <=F) (sm:Small w) (sz:Szd w):Zu0 F w=some (Kz w):=by
 have:=sz.c6;have h0:=sz.n0;have:=sz.n12;have en:((w.names.toNat:Nat):Int)=w.names:=by omega
 unfold Zu0 Kz;cases hb:decide ((w.notes.length:Int) > 80)
 ·simp only [cond_false,Bool.false_or];refine(Qe w.cells.length (fun v (_:Unit)=>v) (Zii F w) (fun m s next=>bif(List.range w.names.toNat).any (fun n=>decide (XB w m n > 1000000)) then some true else next ()) (fun _=>some false) (by omega) (fun m s next hm=>?_) (fun s next=>?_) (by omega) ()).trans ?_
  ·simp only [Zii];rw [decide_eq_true (by omega),cond_true];refine(Qe w.names.toNat (fun v (_:Unit)=>v) (Zih F w m next) (fun n s nx=>bif decide (XB w m n > 1000000) then some true else nx ()) (fun _=>next (ZQ ((m:Int) + 1))) (by omega) (fun k s nx hk=>?_) (fun s nx=>?_) (by omega) ()).trans ?_
   ·simp only [Zih];rw [decide_eq_true (by omega),cond_true,Zm3 hF sm hm,Option.bind_some]
   ·simp only [Zih];rw [decide_eq_false (by omega),cond_false]
   ·rw [Zci (r:=some true) (fun n=>decide (XB w m n > 1000000)) (fun k x next hx=>rfl)]
  ·simp only [Zii];rw [decide_eq_false (by omega),cond_false]
  ·rw [Zci (r:=some true) (fun m=>(List.range w.names.toNat).any (fun n=>decide (XB w m n > 1000000))) (fun k x next hx=>rfl)];cases (List.range w.cells.length).any fun m=>(List.range w.names.toNat).any (fun n=>decide (XB w m n > 1000000)) <;> rfl
 ·rfl
theorem UK.Kj {κ ν:Type} [DecidableEq κ] {l:List (κ×ν)} (u:UK l) (k:κ) (z:ν):UK (Kj l k z):=by
 unfold Go.Lf.Kj;cases e:Yc l k with
 | some q=>exact u
 | none=>
   have:Go.Lf.Xh l k z=l ++ [(k,z)]:=by unfold Go.Lf.Xh;rw [e]
   dsimp only;rw [← this];exact u.Xh k z
theorem UK.upd {v:Acc} (u:UK v) (k:Zg) (x:Int):UK (upd v k x):= (u.Kj k 0).Xh k _
theorem Ztg {κ ν:Type} [DecidableEq κ] {l:List (κ×ν)} {k:κ} {x:ν} (h:XD l k=some x):(k,x) ∈ l:=by
 unfold XD at h;cases e:Yc l k with
 | none=>rw [e] at h;cases h
 | some q=>
   rw [e] at h;cases h;exact List.mem_of_getElem? (K3 e)
theorem UK.get {κ ν:Type} [DecidableEq κ]:∀ {l:List (κ×ν)},UK l ->∀ {k:κ} {x:ν},(k,x) ∈ l ->XD l k=some x
 | [],_,_,_,h=>by simp at h
 | p::l,u,k,x,h=>by
   have u':UK l:=by unfold UK at u ⊢;rw [List.map_cons,List.nodup_cons] at u;exact u.2
   have hp:p.1 ∉ l.map (·.1):=by unfold UK at u;rw [List.map_cons,List.nodup_cons] at u;exact u.1
   unfold XD;rw [K4];rcases List.mem_cons.1 h with z | z
   ·subst z;simp
   ·have hne:¬ p.1=k:=fun e=>hp (by rw [e];exact List.mem_map_of_mem (f:= (·.1)) z)
    rw [if_neg hne];have:=u'.get z;unfold XD at this;cases e:Yc l k with
    | none=>rw [e] at this;cases this
    | some q=>rw [e] at this;simpa using this
theorem ZjR {κ ν:Type} {b:κ ->ν ->Option Bool} (h:∀ k x,∃ p,b k x=some p):∀ l:List (κ×ν),∃ q,ZjS b l=some q
 | []=>⟨false,rfl⟩
 | x::r=>by
   obtain⟨p,hp⟩:=h x.1 x.2;obtain⟨q,hq⟩:=ZjR h r;exact⟨p || q,by unfold ZjS;rw [hp,Option.bind_some,hq,Option.bind_some]⟩
theorem ZyX (R:Rx w KY []) {k:Zg} (hk:¬ ((0 <=k.e0∧k.e0 < (w.cells.length:Int))∧0 <=k.e1∧k.e1 < w.names)):val (ZcG w).1 k=0:=by
 have h0:=R.n0
 have hC:val (Wq w).1 k=0:=by
  unfold Wq;refine UJ (fun q:Acc×Acc=>val q.1 k=0) _ _ (fun q m hm hq=>?_) _ rfl;refine UJ (fun q:Acc×Acc=>val q.1 k=0) _ _ (fun q n hn hq=>?_) _ hq;rw [List.mem_range] at hm hn;unfold Jt;cases hc:cellOf w m n with
  | none=>exact hq
  | some c=>
    have hcn:=QY hc;show val (upd q.1 ⟨m,c.name⟩ c.out) k=0;rw [WT,if_neg (fun z=>hk (by rw [z];dsimp only;omega))];exact hq
 unfold ZcG;refine UJ (fun q:Acc×Acc=>val q.1 k=0) _ _ (fun q x hx hq=>?_) _ hC;have hn:=R.nn x (by simpa using hx);obtain⟨h,H⟩:=R.nm _ hn;have ht:= (H.nts x (List.mem_append_right _ (List.mem_filter.2 ⟨hx,by simp⟩))).1;have hr:0 <=x.name∧x.name < w.names:=by unfold Ym at hn;simp at hn;exact hn.1
 unfold ZpI;cases (x.kind==1)
 ·cases (x.kind==2)
  ·simp only [cond_false];rw [WT,if_neg (fun z=>hk (by rw [z];exact⟨ht,hr⟩))];exact hq
  ·exact hq
 ·exact hq
theorem ZC1:UK (ZcG w).1:=by
 have hC:UK (Wq w).1:=by
  unfold Wq;refine UJ (fun q:Acc×Acc=>UK q.1) _ _ (fun q m hm hq=>?_) _ UK.nil;refine UJ (fun q:Acc×Acc=>UK q.1) _ _ (fun q n hn hq=>?_) _ hq;unfold Jt;cases hc:cellOf w m n with
  | none=>exact hq
  | some c=>exact hq.upd _ _
 unfold ZcG;refine UJ (fun q:Acc×Acc=>UK q.1) _ _ (fun q x hx hq=>?_) _ hC;unfold ZpI;cases (x.kind==1)
 ·cases (x.kind==2)
  ·exact hq.upd _ _
  ·exact hq
 ·exact hq
theorem Zrg (hF:1000 <=F) (R:Rx w KY []) (sm:Small w) (so:Qm w st):ZaF F (st.machines,st.names,st.cells,st.notes,st.freed)=some (bif Kz w then .Jr 3 else .ok st):=by
 have sz:=R.szd;have h0:=R.n0;unfold ZaF;dsimp only;rw [so.notes];unfold Kz;cases hb:decide ((w.notes.length:Int) > 80)
 ·simp only [cond_false,Bool.false_or];have hst:(⟨st.machines,st.names,st.cells,w.notes,st.freed⟩:Store)=st:=by rw [← so.notes]
  rw [hst,ZqZ hF sm sz so,Option.bind_some];obtain⟨q,hq⟩:=ZjR (b:=ZfM) (fun k x=>by unfold ZfM;cases decide (x > 1000000);exact⟨_,rfl⟩;exact⟨_,rfl⟩) (ZcG w).1;rw [hq,Option.bind_some];obtain⟨_,q2⟩:=ZdM hq
  have:q= ((List.range w.cells.length).any fun m=>(List.range w.names.toNat).any fun n=>decide (XB w m n > 1000000)):=by
   rw [Bool.eq_iff_iff,q2,List.any_eq_true]
   constructor
   ·rintro⟨⟨k,v⟩,hm,hv⟩
    have hv:v > 1000000:=by
     unfold ZfM at hv;cases hd:decide (v > 1000000) with
     | true=>simpa using hd
     | false=>dsimp only at hv;rw [hd] at hv;cases hv
    have hval:val (ZcG w).1 k=v:=by unfold val;rw [ZC1.get hm];rfl
    by_cases hk:(0 <=k.e0∧k.e0 < (w.cells.length:Int))∧0 <=k.e1∧k.e1 < w.names
    ·refine⟨k.e0.toNat,List.mem_range.2 (by omega),?_⟩;rw [List.any_eq_true];refine⟨k.e1.toNat,List.mem_range.2 (by omega),?_⟩;have:= (ZlY sz (a:=k.e0.toNat) (n:=k.e1.toNat) (by omega) (by omega)).1
     have e:(⟨((k.e0.toNat:Nat):Int),((k.e1.toNat:Nat):Int)⟩:Zg)=k:=by
      cases k;dsimp only at *;congr 1 <;> omega
     rw [e,hval] at this;rw [← this];simpa using hv
    ·rw [ZyX R hk] at hval;omega
   ·rintro⟨m,hm,hn⟩;rw [List.any_eq_true] at hn;obtain⟨n,hn,hg⟩:=hn;rw [List.mem_range] at hm hn;have hg:XB w m n > 1000000:=by simpa using hg
    have:= (ZlY sz (a:=m) (n:=n) hm (by omega)).1;rw [← this] at hg;unfold val at hg;cases e:XD (ZcG w).1 (⟨(m:Int),(n:Int)⟩:Zg) with
    | none=>rw [e] at hg;simp at hg
    | some v=>
      rw [e] at hg;refine⟨_,Ztg e,?_⟩;unfold ZfM;dsimp only;rw [decide_eq_true (by simpa using hg)];rfl
  rw [← this];cases q <;> rfl
 ·rfl
theorem ZvT {l:List Int} (h:l.Pairwise (· < ·)):Asc l:=h.imp fun z=>Int.le_of_lt z
theorem Rt.ci (R:Rt w) {m:Nat} (hm:m < w.cells.length) {c:Zb} (hc:c ∈ rowOf w m):CI c:=by
 have:= (Za6 (R.J6 hm hc)).2.2.2;rcases this with z | z
 ·exact .inl ⟨z.2.1,z.1⟩
 ·exact .inr z
theorem Rt.Zm4 (R:Rt w) (h:∃ n,Ym w n=true):w.freed.length <=11:=by
 obtain⟨n,hn⟩:=h;unfold Ym at hn;simp at hn;have h12:=R.n12
 have key:∀ (l:List Int) (a:Int),l.Pairwise (· < ·) ->(∀ x ∈ l,a <=x∧x < w.names) ->n ∉ l ->a <=n ->a + (l.length:Int) + 1 <=w.names:=by
  intro l
  induction l with
  | nil=>intro a _ _ _ h;simp;omega
  | cons x l ih=>
    intro a p hr hx ha;rw [List.pairwise_cons] at p;have h0:=hr x (by simp);have hne:n ≠ x:=fun z=>hx (by rw [z];simp)
    by_cases hlt:n < x
    ·have:=Za8 (l:=l) (a:=x + 1) (b:=w.names) p.2 (fun y hy=>by have h1:=p.1 y hy;have h2:=hr y (by simp [hy]);omega) (by omega);simp only [List.length_cons];omega
    ·have:=ih (x + 1) p.2 (fun y hy=>by have h1:=p.1 y hy;have h2:=hr y (by simp [hy]);omega) (fun z=>hx (by simp [z])) (by omega);simp only [List.length_cons];omega
 have:=key w.freed 0 R.fr R.frr (fun z=>hn.2 n z rfl) hn.1.1;omega
theorem ZjP (sm:Small w) (k:Nat):Small (Zbm w k):= ⟨sm.cells,sm.rows,by have:=sm.notes;unfold Zbm;simp;omega,sm.freed⟩
theorem Zvy (hF:1000 <=F) (R:Rt w) {d:Zv} (hf:Wd d w.cells.length=true) (he:Xt w d d.at_.toNat=0):ZgZ F w d=some (Xu w d):=by
 have sm:=R.small;have hnl:=R.nts;have hrow:∀ m,m < w.cells.length ->(rowOf w m).length <=12:=fun m hm=>Szd.Zg7 R.n12 (R.Xo m hm) (R.names m hm)
 unfold Xu;rcases Zaq hf with⟨k,a⟩ | ⟨k,a,t,ne,nm⟩ | ⟨k,a,nm⟩ | ⟨k,a⟩
 ·have hat:d.at_= (d.at_.toNat:Int):=by omega
  have hm:d.at_.toNat < w.cells.length:=by omega
  rw [Zw0 sm hm d k hat (fun x hx=>(R.names _ hm x hx).2),k];rfl
 ·have hm:d.at_.toNat < w.cells.length:=by omega
  have hat:d.at_= (d.at_.toNat:Int):=by omega
  rcases k with k | k
  ·obtain⟨c,hc,_,hu⟩:=Jc (by omega) (by omega) he;have hl:= (R.XM hm hc).1;have:=ZwK hF sm hm (R.Xo _ hm) d hat hc (R.ci hm (ZcW hc));unfold ZgZ;rw [k,hl];simp only [beq_self_eq_true,cond_true,show((2:Int)==1)=false from rfl,cond_false];rw [this];rfl
  ·obtain⟨c,hc,hr,_⟩:=Jc (by omega) (by omega) he;have hl:= (R.XM hm hc).1;rw [ZBY hF sm hm (R.Xo _ hm) d k hat hc,k,hl];rfl
 ·have hm:d.at_.toNat < w.cells.length:=by omega
  have hat:d.at_= (d.at_.toNat:Int):=by omega
  obtain⟨c,hc,_,hu⟩:=Jc (by omega) (by omega) he;have hl:= (R.XM hm hc).1;have:=hrow _ hm;rw [Zvx hF sm hm (R.Xo _ hm) (by omega) (by omega) d k hat hc,k,hl];rfl
 ·have hlt:d.at_.toNat < w.notes.length:=by
   unfold Xt at he;rw [k] at he;simp only [beq_self_eq_true,cond_true,show((5:Int)==1)=false from rfl,cond_false] at he;cases hb:decide (d.at_ >= (w.notes.length:Int)) with
   | true=>rw [hb] at he;cases he
   | false=>simp at hb;omega
  obtain⟨j,hj⟩:∃ j:Nat,d.at_= (j:Int):= ⟨d.at_.toNat,by omega⟩
  have hjt:d.at_.toNat=j:=by omega
  rw [hjt] at hlt ⊢;obtain⟨x,hx⟩:∃ x,w.notes[j]? =some x:= ⟨_,List.getElem?_eq_getElem hlt⟩
  have hxB:=KQ (R.JL (List.mem_of_getElem? hx));have hm:x.ZH.toNat < w.cells.length:=by omega
  have:=hrow _ hm;have hcr:=ZvL hF (ZjP sm j) (m:=x.ZH.toNat) hm (by show(rowOf w _).length < 900;omega) (by unfold Zbm;simp;omega) x (by omega) (R.Xo _ hm);unfold ZgZ;rw [k,hx];simp only [beq_self_eq_true,cond_true,show((5:Int)==1)=false from rfl,show((5:Int)==2)=false from rfl,cond_false];rw [hj,ZB,hx,Option.bind_some,ZwW hF sm d hj x];have e:(⟨w.cells,w.notes.take j ++ w.notes.drop (j + 1),w.names,w.freed⟩:Za)=Zbm w j:=rfl;rw [e,hcr];simp
end
end Go.Proofs.Ytekpjgmhkkjhgaa
end
section
namespace Go.Proofs.Ytekpjgmhkkjhgaa
open Go.Lf
def Zeb:Za:= ⟨[],[],0,[]⟩
def stepW (w:Za) (d:Zv):Za×Int:=
 bif Xt w d d.at_.toNat==0 then(bif Kz (Xu w d) then(Zeb,3) else(Xu w d,0)) else(Zeb,Xt w d d.at_.toNat)
def doW (w:Za) (d:Zv):Za×Int:=bif Us w && Wd d w.cells.length then stepW w d else(Zeb,2)
section
variable {w:Za} {n:Int} {st:Store} {F:Nat}
theorem ZrM {d:Zv} (h:d.Xf=1∨d.Xf=5) (m m':Nat):Xt w d m=Xt w d m':=by
 unfold Xt;rcases h with h | h <;> rw [h] <;> rfl
theorem ZiQ (R:Rt w) {d:Zv} (hf:Wd d w.cells.length=true):∃ m,m < w.cells.length∧(d.Xf=1∨d.Xf=5∨d.at_= (m:Int))∧Xt w d m=Xt w d d.at_.toNat:=by
 have:=R.c1;rcases Zaq hf with⟨k,a⟩ | ⟨k,a,t,ne,nm⟩ | ⟨k,a,nm⟩ | ⟨k,a⟩
 ·exact⟨d.at_.toNat,by omega,.inl k,rfl⟩
 ·exact⟨d.at_.toNat,by omega,.inr (.inr (by omega)),rfl⟩
 ·exact⟨d.at_.toNat,by omega,.inr (.inr (by omega)),rfl⟩
 ·exact⟨0,by omega,.inr (.inl k),ZrM (.inr k) _ _⟩
theorem Rt.ZyG (R:Rt w) {m:Nat} (hm:m < w.cells.length) (n:Int):CI (look (rowOf w m) n):=by
 unfold look;cases h:J5 (rowOf w m) n with
 | none=>exact CI.blank n
 | some c=>exact R.ci hm (ZcW h)
theorem Zr6 (hF:1000 <=F) (R:Rt w) (so:Qm w st) (u:UK st.cells) {d:Zv} (hf:Wd d w.cells.length=true):
 ∃ st',Zu3 F st d=some (bif Xt w d d.at_.toNat==0 then(bif Kz (Xu w d) then .Jr 3 else .ok st') else .Jr (Xt w d d.at_.toNat))∧(Xt w d d.at_.toNat=0 ->Qm (Xu w d) st'∧UK st'.cells):=by
 have sm:=R.small;have hnl:=R.nts;have hrow:∀ m,m < w.cells.length ->(rowOf w m).length <=12:=fun m hm=>Szd.Zg7 R.n12 (R.Xo m hm) (R.names m hm)
 obtain⟨m0,hm0,ho,e0⟩:=ZiQ R hf;have hck:=Zpu so hm0 d ho;rw [e0] at hck;unfold Zu3;rw [hck,Option.bind_some];cases hz:(Xt w d d.at_.toNat==0)
 ·refine⟨st,rfl,fun z=>?_⟩;rw [z] at hz;cases hz
 ·have he:Xt w d d.at_.toNat=0:=by simpa using hz
  obtain⟨X1,X2,X3,X4,X5⟩:=ZlE R hf he;have over:∀ st',Qm (Xu w d) st' ->ZaF F (st'.machines,st'.names,st'.cells,st'.notes,st'.freed)=some (bif Kz (Xu w d) then .Jr 3 else .ok st'):=fun st' s'=>Zrg hF X1 (X1.small (by omega)) s'
  simp only [cond_true];unfold prC;dsimp only;rcases Zaq hf with⟨k,a⟩ | ⟨k,a,t,ne,nm⟩ | ⟨k,a,nm⟩ | ⟨k,a⟩
  ·have hm:d.at_.toNat < w.cells.length:=by omega
   have hat:d.at_= (d.at_.toNat:Int):=by omega
   have hdw:Xu w d=Zeo w d.at_.toNat:=by unfold Xu;rw [k];rfl
   obtain⟨q1,q2⟩:=Ztb so u hm (R.Xo _ hm);have ov:=over _ (by rw [hdw];exact q1);refine⟨_,?_,fun _=>⟨by rw [hdw];exact q1,q2⟩⟩;rw [← ov,k];simp only [beq_self_eq_true,cond_true];rw [hat,so.n]
   rfl
  ·have hm:d.at_.toNat < w.cells.length:=by omega
   have hat:d.at_= (d.at_.toNat:Int):=by omega
   rcases k with k | k
   ·obtain⟨c,hc,_,hu⟩:=Jc (by omega) (by omega) he;have hl:= (R.XM hm hc).1;have hdw:Xu w d=Zeg w d d.at_.toNat c:=by unfold Xu;rw [k,hl];rfl
    obtain⟨st',q1,q2,q3⟩:=ZsD so u hm (R.Xo _ hm) (by omega) d hat hc;have ov:=over st' (by rw [hdw];exact q2);refine⟨st',?_,fun _=>⟨by rw [hdw];exact q2,q3⟩⟩;rw [← ov,k];simp only [beq_self_eq_true,cond_true,show((2:Int)==1)=false from rfl,cond_false];rw [q1,Option.bind_some]
   ·obtain⟨c,hc,hr,_⟩:=Jc (by omega) (by omega) he;have hl:= (R.XM hm hc).1;have hdw:Xu w d=goW w d d.at_.toNat c:=by unfold Xu;rw [k,hl];rfl
    obtain⟨st',q1,q2,q3⟩:=ZxG so u hm (R.Xo _ hm) (by omega) d hc;have ov:=over st' (by rw [hdw];exact q2);refine⟨st',?_,fun _=>⟨by rw [hdw];exact q2,q3⟩⟩;rw [← ov,k];simp only [beq_self_eq_true,cond_true,show((4:Int)==1)=false from rfl,show((4:Int)==2)=false from rfl,show((4:Int)==3)=false from rfl,cond_false];unfold ZaB;rw [Option.bind_some,hat,so.get hm,hc];unfold goC at q1;simp only [Option.getD_some];rw [q1,Option.bind_some]
  ·have hm:d.at_.toNat < w.cells.length:=by omega
   have hat:d.at_= (d.at_.toNat:Int):=by omega
   obtain⟨c,hc,_,hu⟩:=Jc (by omega) (by omega) he;obtain⟨hl,_,hnb⟩:=R.XM hm hc;have hdw:Xu w d=ZgM w d.at_.toNat d.name c:=by unfold Xu;rw [k,hl];rfl
   obtain⟨st',q1,q2,q3⟩:=ZrO (F:=F) (by omega) so u hm (R.Xo _ hm) (by omega) hc (R.ci hm (ZcW hc)) (ZvT R.fr) (R.Zm4 ⟨_,hnb⟩);have ov:=over st' (by rw [hdw];exact q2);refine⟨st',?_,fun _=>⟨by rw [hdw];exact q2,q3⟩⟩;rw [← ov,k];simp only [beq_self_eq_true,cond_true,show((3:Int)==1)=false from rfl,show((3:Int)==2)=false from rfl,cond_false];unfold ZaB;rw [Option.bind_some,hat,so.get hm,hc];unfold Za3 at q1;simp only [Option.getD_some];rw [q1,Option.bind_some]
  ·have hlt:d.at_.toNat < w.notes.length:=by
    have he:=he;unfold Xt at he;rw [k] at he;simp only [beq_self_eq_true,cond_true,show((5:Int)==1)=false from rfl,cond_false] at he;cases hb:decide (d.at_ >= (w.notes.length:Int)) with
    | true=>rw [hb] at he;cases he
    | false=>simp at hb;omega
   obtain⟨j,hj⟩:∃ j:Nat,d.at_= (j:Int):= ⟨d.at_.toNat,by omega⟩
   have hjt:d.at_.toNat=j:=by omega
   rw [hjt] at hlt;obtain⟨x,hx⟩:∃ x,w.notes[j]? =some x:= ⟨_,List.getElem?_eq_getElem hlt⟩
   have hdw:Xu w d=Uc (Zbm w j) x:=by unfold Xu;rw [k,hjt,hx];rfl
   have hxm:=List.mem_of_getElem? hx;have hxB:=KQ (R.JL hxm);have hm:x.ZH.toNat < w.cells.length:=by omega
   have:=hrow _ hm;have so':Qm (Zbm w j) ⟨st.machines,st.names,st.cells,w.notes.take j ++ w.notes.drop (j + 1),st.freed⟩:= ⟨so.m,so.n,rfl,so.freed,so.cells⟩
   obtain⟨st',q1,q2,q3⟩:=Zpw (F:=F) (by omega) so' u (ZjP sm j) (m:=x.ZH.toNat) hm (by show(rowOf w _).length < 900;omega) (by unfold Zbm;simp;omega) x (by omega) (R.Xo _ hm) (R.ZyG hm _) (ZvT R.fr) (R.Zm4 ⟨_,hxB.2.1⟩);have ov:=over st' (by rw [hdw];exact q2);refine⟨st',?_,fun _=>⟨by rw [hdw];exact q2,q3⟩⟩;rw [← ov,k];simp only [beq_self_eq_true,cond_true,show((5:Int)==1)=false from rfl,show((5:Int)==2)=false from rfl,show((5:Int)==3)=false from rfl,show((5:Int)==4)=false from rfl,cond_false];rw [hj,so.notes,ZB,hx,Option.bind_some,ZsS hlt (by omega),Option.bind_some,q1,Option.bind_some]
theorem ZwD (hF:1000 <=F) (sm:Small w):Zvc F w=some w:=by
 have hc:=sm.cells;have hn:=sm.notes;have hf:=sm.freed;unfold Zvc;refine(Yd w.cells (fun v (s:List (List Zb))=>(s,v)) (Ziu w) (fun k r s next=>(app 24 s [r]).bind next) (fun s=>some ⟨s,w.notes,w.names,w.freed⟩) (by omega) (fun k y s next hy hk=>?_) (fun s next=>?_) (by omega) []).trans ?_
 ·have hr:=sm.rows y (List.mem_of_getElem? hy);simp only [Ziu,ZB,hy,hk,decide_true,cond_true,Option.bind_some];rw [YL (by simp only [List.length_nil];omega) (by decide),Option.bind_some]
  rfl
 ·simp only [Ziu];rw [decide_eq_false (by omega),cond_false,YL (by simp only [List.length_nil];omega) (by decide),Option.bind_some,YL (by simp only [List.length_nil];omega) (by decide)]
  rfl
 ·obtain⟨e1,e2⟩:=Y6 (d:=fun s=>some (Za.mk s w.notes w.names w.freed)) (g:=fun(_:Nat) (r:List Zb) s next=>(app 24 s [r]).bind next) (fun _ r s=>s ++ [r]) (fun i s=>s.length <=i) (l:=w.cells) (i:=0) (s:= []) (Nat.le_refl _) (fun k x s next hx hI=>by
   have hk:= (List.getElem?_eq_some_iff.1 hx).1;rw [YL (by simp;omega) (by decide)];exact⟨rfl,by simp;omega⟩)
  rw [e1]
  have:∀ (l:List (List Zb)) (i:Nat) s,foldI (fun _ r s=>s ++ [r]) i l s=s ++ l:=by
   intro l
   induction l with
   | nil=>intro i s;simp [foldI]
   | cons r l ih=>intro i s;unfold foldI;rw [ih];simp
  rw [this];rfl
theorem Zsw (hF:1000 <=F) (R:Rt w) {d:Zv} (hf:Wd d w.cells.length=true):Zve F w d=some (stepW w d):=by
 obtain⟨m0,hm0,ho,e0⟩:=ZiQ R hf;unfold Zve stepW;rw [ZrR hF R.small hm0 d ho,Option.bind_some,e0];cases hz:(Xt w d d.at_.toNat==0)
 ·have:(Xt w d d.at_.toNat !=0)=true:=by simp only [bne,hz];rfl
  rw [this];rfl
 ·have:(Xt w d d.at_.toNat !=0)=false:=by simp only [bne,hz];rfl
  have he:Xt w d d.at_.toNat=0:=by simpa using hz
  obtain⟨X1,X2,X3,X4,X5⟩:=ZlE R hf he;rw [this,cond_false,ZwD hF R.small,Option.bind_some,Zvy hF R hf he,Option.bind_some,ZsQ hF (X1.small (by omega)) X1.szd,Option.bind_some,cond_true];cases Kz (Xu w d) <;> rfl
theorem ZsR (R:Rx w KY []) (ho:∀ k a c,XC w k a=some c ->c.out <=1000016) (h:Kz w=false):Rt w:=by
 unfold Kz at h;rw [Bool.or_eq_false_iff,List.any_eq_false] at h;have sz:=R.szd;have hl:w.notes.length <=80:=by have:=h.1;simp at this;omega
 have h0:=R.n0;refine R.rt (fun n hn=>?_) hl;have hnr:0 <=n∧n < w.names:=by unfold Ym at hn;simp at hn;exact hn.1
 intro a a0 a1;have:=h.2 a.toNat (List.mem_range.2 (by omega));rw [Bool.not_eq_true,List.any_eq_false] at this;have:=this n.toNat (List.mem_range.2 (by omega));have:= (by simpa using this:XB w a.toNat ((n.toNat:Nat):Int) <=1000000)
 rw [show((n.toNat:Nat):Int)=n by omega,Zie w (by omega)] at this;rw [show((a.toNat:Nat):Int)=a by omega] at this;show K6 (XC w n) (Uu w n) a <=1000000;obtain⟨h',H⟩:=R.nm n hn;have H:Nm w.cells.length n (XC w n) (Uu w n) h':=H;have hg:=H.giv a;have hc:=H.ZCK
 have hb:-16 <=Qr (XC w n a)∧Qr (XC w n a) <=1000016:=by
  cases e:XC w n a with
  | none=>simp [Qr]
  | some c=>exact⟨(H.Zoo e).1,ho n a c e⟩
 have:-16 <=K6 (XC w n) (Uu w n) a∧K6 (XC w n) (Uu w n) a <=1000032:=by
  rw [hg];split <;> omega
 rw [Q5 (by omega) (by omega)] at *
 assumption
theorem ZqQ (R:Rt w) {d:Zv} (hf:Wd d w.cells.length=true) (he:Xt w d d.at_.toNat=0) (hv:Kz (Xu w d)=false):Rt (Xu w d)∧(Xu w d).cells.length=w.cells.length:=by
 obtain⟨X1,X2,X3,X4,X5⟩:=ZlE R hf he;exact⟨ZsR X1 X5 hv,X3⟩
theorem Zmg {d:Zv} (h:(stepW w d).2=0):Xt w d d.at_.toNat=0∧Kz (Xu w d)=false∧(stepW w d).1=Xu w d:=by
 unfold stepW at h ⊢;cases hz:(Xt w d d.at_.toNat==0)
 ·rw [hz] at h;have he:Xt w d d.at_.toNat ≠ 0:=by simpa using hz
  exact absurd h he
 ·rw [hz] at h;cases ho:Kz (Xu w d)
  ·exact⟨by simpa using hz,rfl,rfl⟩
  ·rw [ho] at h;cases h
theorem Zq7 (hF:1000 <=F) (R:Rt w) (so:Qm w st) {d:Zv} (hf:Wd d w.cells.length=true):
 ((stepW w d).2 ≠ 0∧ZrI F st d=some (none,(stepW w d).2))∨((stepW w d).2=0∧(stepW w d).1=Xu w d∧∃ st',ZrI F st d=some (some st',0)∧Qm (Xu w d) st'∧UK st'.cells):=by
 obtain⟨sc,c1,c2,c3⟩:=R.copy hF so;obtain⟨st',q1,q2⟩:=Zr6 hF R c2 c3 hf;unfold ZrI stepW;rw [c1,Option.bind_some,q1,Option.bind_some];cases hz:(Xt w d d.at_.toNat==0)
 ·left;have he:Xt w d d.at_.toNat ≠ 0:=by simpa using hz
  exact⟨he,rfl⟩
 ·have he:Xt w d d.at_.toNat=0:=by simpa using hz
  obtain⟨q3,q4⟩:=q2 he;cases Kz (Xu w d)
  ·right;exact⟨rfl,rfl,st',rfl,q3,q4⟩
  ·left;exact⟨(fun z=>by cases z),rfl⟩
theorem ZCG (hF:1000 <=F) (sm:Small w) (d:Zv):Zvj F w d=some (doW w d):=by
 have:=sm.cells;unfold Zvj doW;rw [right_eq hF sm,Option.bind_some,ZuV d (by omega) (by omega)];simp only [K7,Option.bind_some];cases hr:Us w
 ·rfl
 ·have R:=Rt.of hr;cases hf:Wd d w.cells.length
  ·rfl
  ·simp only [Bool.not_true,Bool.not_false,cond_true,Bool.or_self,cond_false,Bool.and_self];rw [Zsw hF R hf];rfl
theorem ZyB (hF:1000 <=F) (sm:Small w) (d:Zv):Zvk F w d=some (doW w d):=by
 have:=sm.cells;unfold Zvk doW;rw [Zyb hF sm,Option.bind_some,ZrB];simp only [K7,Option.bind_some];cases hr:Us w
 ·rfl
 ·have R:=Rt.of hr;cases hf:Wd d w.cells.length
  ·rfl
  ·simp only [Bool.not_true,Bool.not_false,cond_true,Bool.or_self,cond_false,Bool.and_self];obtain⟨st,o1,o2,o3⟩:=R.open_ hF;rw [o1,Option.bind_some];rcases Zq7 hF R o2 hf with⟨s1,s2⟩ | ⟨s1,s2,st',s3,s4,s5⟩
   ·rw [s2,Option.bind_some];unfold opt;dsimp only;have:((stepW w d).2 !=0)=true:=by simpa using s1
    rw [this,cond_true]
    have e:(stepW w d).1=Zeb:=by
     unfold stepW at s1 ⊢;cases hz:(Xt w d d.at_.toNat==0)
     ·rfl
     ·rw [hz] at s1;cases ho:Kz (Xu w d)
      ·rw [ho] at s1;exact absurd rfl s1
      ·rfl
    show some (Zeb,(stepW w d).2)=some (stepW w d);rw [← e]
   ·rw [s3,Option.bind_some];unfold opt;dsimp only;obtain⟨e1,e2,e3⟩:=Zmg s1;have R':= (ZqQ R hf e1 e2).1;rw [show((0:Int) !=0)=false from rfl,cond_false,R'.shut hF s4,Option.bind_some,← s2];rw [← s1]
theorem Zz5 {d:Zv} (h:(doW w d).2=0):Rt w∧Wd d w.cells.length=true∧Xt w d d.at_.toNat=0∧(doW w d).1=Xu w d∧Rt (Xu w d)∧(Xu w d).cells.length=w.cells.length:=by
 unfold doW at h ⊢;cases hb:(Us w && Wd d w.cells.length)
 ·rw [hb] at h;cases h
 ·rw [hb,cond_true] at h;rw [cond_true];rw [Bool.and_eq_true] at hb;have R:=Rt.of hb.1;obtain⟨e1,e2,e3⟩:=Zmg h;obtain⟨r1,r2⟩:=ZqQ R hb.2 e1 e2;exact⟨R,hb.2,e1,e3,r1,r2⟩
end
end Go.Proofs.Ytekpjgmhkkjhgaa
end
section
namespace Go.Proofs.Ytekpjgmhkkjhgaa
open Go.Lf
section
end
theorem Zra {F:Nat} {l:List Int} (hl:l.length < F) (hl2:l.length < 1000):ZrK F l l=some true:=by
 unfold ZrK;have:((l.length:Int) != (l.length:Int))=false:=by simp
 rw [this,cond_false];refine(Yd l (fun v (_:Unit)=>v) (ZiE l l) (fun _ _ _ next=>next ()) (fun _=>some true) (by omega) (fun k y q next hy hk=>?_) (fun q next=>?_) hl ()).trans ?_
 ·simp only [ZiE,ZB,hy,hk,decide_true,cond_true,Option.bind_some];have:(y !=y)=false:=by simp
  rw [this];rfl
 ·simp only [ZiE];rw [decide_eq_false (by omega),cond_false]
 ·rw [(Y6 (fun _ _ s=>s) (fun _ _=>True) trivial (fun _ _ _ _ _ _=>⟨rfl,trivial⟩)).1]
theorem Ztn {F:Nat} (hF:1000 <=F) (w:Za):∃ b,Zvp F w=some b∧(b=false ->Small w):=by
 unfold Zvp;cases h:((decide ((w.cells.length:Int) > 10)) || (decide ((w.notes.length:Int) > 100))) || (decide ((w.freed.length:Int) > 30))
 ·have h':=h;simp only [Bool.or_eq_false_iff,decide_eq_false_iff_not] at h';refine⟨w.cells.any fun r=>decide ((r.length:Int) > 30),?_,fun hb=>⟨by omega,fun r hr=>?_,by omega,by omega⟩⟩
  ·rw [cond_false];refine(Yd w.cells (fun v (_:Unit)=>v) (ZiI w) (fun _ r _ next=>bif decide ((r.length:Int) > 30) then some true else next ()) (fun _=>some false) (by omega) (fun k y q next hy hk=>?_) (fun q next=>?_) (by omega) ()).trans ?_
   ·simp only [ZiI,ZB,hy,hk,decide_true,cond_true,Option.bind_some]
   ·simp only [ZiI];rw [decide_eq_false (by omega),cond_false]
   ·rw [XT (r:=some true) (fun _ (r:List Zb)=>decide ((r.length:Int) > 30)) (fun _ _ _ _=>rfl),JR];cases w.cells.any fun r=>decide ((r.length:Int) > 30) <;> rfl
  ·rw [List.any_eq_false] at hb;have:=hb r hr;simp at this;omega
 ·exact⟨true,rfl,fun h=>by cases h⟩
end Go.Proofs.Ytekpjgmhkkjhgaa
end
section
namespace Go.Proofs.Ytekpjgmhkkjhgaa
open Go.Lf
section
variable {w:Za} {n:Int} {st:Store} {F:Nat}
def ZjX (p:Int):Za×Int:=bif(decide (1 <=p) && decide (p <=6)) then(⟨List.replicate p.toNat [],[],0,[]⟩,0) else(Zeb,2)
theorem Zqf {p:Int} (h:1 <=p∧p <=6):Rt ⟨List.replicate p.toNat [],[],0,[]⟩:=by
 have hrow:∀ m,rowOf ⟨List.replicate p.toNat [],[],0,[]⟩ m= []:=by
  intro m;unfold rowOf;dsimp only;cases e:(List.replicate p.toNat ([]:List Zb))[m]? with
  | none=>rfl
  | some r=>have:=List.mem_of_getElem? e;rw [List.mem_replicate] at this;exact this.2
 refine⟨by simp;omega,by simp;omega,Int.le_refl _,by show(0:Int) <=12;omega,by simp,.nil,by simp,fun m hm=>by rw [hrow];exact .nil,fun m hm c hc=>by rw [hrow] at hc;simp at hc,by simp,fun n hn=>?_⟩;unfold Ym at hn;simp at hn;omega
theorem Ztk (hF:1000 <=F) (p:Int):Zvl F p=some (ZjX p):=by
 unfold Zvl ZjX;rw [Zj0,Option.bind_some];cases hb:(decide (1 <=p) && decide (p <=6))
 ·rfl
 ·simp at hb;simp only [Bool.not_true,cond_false,cond_true];have ep:((p.toNat:Nat):Int)=p:=by omega
  refine(Qe p.toNat (fun v (s:List (List Zb))=>(v,s)) (ZiH p) (fun k s next=>(app 24 s [[]]).bind next) (fun s=>some (⟨s,[],0,[]⟩,0)) (by omega) (fun k s next hk=>?_) (fun s next=>?_) (by omega) []).trans ?_
  ·simp only [ZiH];rw [decide_eq_true (by omega),cond_true]
  ·simp only [ZiH];rw [decide_eq_false (by omega),cond_false]
  ·obtain⟨e1,e2⟩:=Y6 (d:=fun s=>some (Za.mk s [] 0 [],(0:Int))) (g:=fun(_:Nat) (k:Nat) (s:List (List Zb)) next=>(app 24 s [[]]).bind next) (fun _ _ s=>s ++ [[]]) (fun i s=>s.length <=i∧s=List.replicate i []) (l:=List.range p.toNat) (i:=0) (s:= []) ⟨Nat.le_refl _,rfl⟩ (fun k x s next hx hI=>by
    have hk:= (List.getElem?_eq_some_iff.1 hx).1;rw [List.length_range] at hk;rw [YL (by simp;omega) (by decide)];refine⟨rfl,by simp;omega,?_⟩;rw [hI.2,List.replicate_succ'])
   rw [e1,e2.2,List.length_range,Nat.zero_add]
theorem Zrj (hF:1000 <=F) (p:Int):Zvm F p=some (ZjX p):=by
 unfold Zvm ZjX
 have e:((decide (p < 1)) || (decide (p > 6)))= !(decide (1 <=p) && decide (p <=6)):=by
  rw [Bool.not_and,← decide_not,← decide_not];congr 1 <;> exact decide_eq_decide.2 (by omega)
 rw [e];cases hb:(decide (1 <=p) && decide (p <=6))
 ·rfl
 ·simp at hb;simp only [Bool.not_true,cond_false,cond_true]
  have so:Qm ⟨List.replicate p.toNat [],[],0,[]⟩ ⟨p,0,[],[],[]⟩:=by
   refine⟨?_,rfl,rfl,rfl,fun a b=>?_⟩
   ·show p= ((List.replicate p.toNat ([]:List Zb)).length:Int);rw [List.length_replicate];omega
   ·show none=_;split
    ·rename_i hr
     symm
     rw [Qg]
     have:rowOf ⟨List.replicate p.toNat [],[],0,[]⟩ a.toNat= []:=by
      unfold rowOf;dsimp only;cases e:(List.replicate p.toNat ([]:List Zb))[a.toNat]? with
      | none=>rfl
      | some r=>have:=List.mem_of_getElem? e;rw [List.mem_replicate] at this;exact this.2
     rw [this];rfl
    ·rfl
  rw [(Zqf hb).shut hF so];rfl
theorem Znu (y:Zb):JO y y=true:=by simp [JO]
theorem Zns (y:Zf):Zau y y=true:=by simp [Zau]
theorem ZhB (hF:1000 <=F) (sm:Small w):Zpj F w w=some true:=by
 have hc:=sm.cells;have hn:=sm.notes;have hf:=sm.freed;have b1:(((((w.cells.length:Int) != (w.cells.length:Int)) || ((w.notes.length:Int) != (w.notes.length:Int))) || (w.names !=w.names)))=false:=by simp
 unfold Zpj;rw [b1,Zra (by omega) hf];simp only [Bool.not_false,KL,Option.bind_some,Bool.not_true,Bool.or_false,cond_false]
 have l2:loop F (Zf5 w w) 0=some true:=by
  refine(Yd w.notes (fun v (_:Unit)=>v) (Zf5 w w) (fun _ _ _ next=>next ()) (fun _=>some true) (by omega) (fun k y q next hy hk=>?_) (fun q next=>?_) (by omega) ()).trans ?_
  ·simp only [Zf5,ZB,hy,hk,decide_true,cond_true,Option.bind_some];rw [Zns];rfl
  ·simp only [Zf5];rw [decide_eq_false (by omega),cond_false]
  ·rw [(Y6 (fun _ _ s=>s) (fun _ _=>True) trivial (fun _ _ _ _ _ _=>⟨rfl,trivial⟩)).1]
 have l1:∀ (m:Nat) (row:Row) (next:Int ->Option Bool),w.cells[m]? =some row ->loop F (Zf6 w w m next) 0=next (ZQ ((m:Int) + 1)):=by
  intro m row next hm;have hr:=sm.rows row (List.mem_of_getElem? hm);refine(Yd row (fun v (_:Unit)=>v) (Zf6 w w m next) (fun _ _ _ nx=>nx ()) (fun _=>next (ZQ ((m:Int) + 1))) (by omega) (fun k y q nx hy hk=>?_) (fun q nx=>?_) (by omega) ()).trans ?_
  ·simp only [Zf6,ZB,hm,hy,hk,decide_true,cond_true,Option.bind_some];rw [Znu];rfl
  ·simp only [Zf6,ZB,hm,Option.bind_some];rw [decide_eq_false (by omega),cond_false]
  ·rw [(Y6 (fun _ _ s=>s) (fun _ _=>True) trivial (fun _ _ _ _ _ _=>⟨rfl,trivial⟩)).1]
 refine(Yd w.cells (fun v (_:Unit)=>v) (ZiG F w w) (fun _ _ _ next=>next ()) (fun _=>some true) (by omega) (fun k y q next hy hk=>?_) (fun q next=>?_) (by omega) ()).trans ?_
 ·simp only [ZiG,ZB,hy,hk,decide_true,cond_true,Option.bind_some];have:((y.length:Int) != (y.length:Int))=false:=by simp
  rw [this,cond_false];exact l1 k y next hy
 ·simp only [ZiG];rw [decide_eq_false (by omega),cond_false,l2]
 ·rw [(Y6 (fun _ _ s=>s) (fun _ _=>True) trivial (fun _ _ _ _ _ _=>⟨rfl,trivial⟩)).1]
theorem Zhr:Small Zeb:= ⟨by decide,by simp [Zeb],by decide,by decide⟩
theorem Zov (p:Int):Small (ZjX p).1:=by
 unfold ZjX;cases hb:(decide (1 <=p) && decide (p <=6))
 ·exact Zhr
 ·simp at hb;exact(Zqf hb).small
theorem Zvz (w:Za) (d:Zv):Small (doW w d).1:=by
 by_cases h:(doW w d).2=0
 ·obtain⟨_,_,_,e,r,_⟩:=Zz5 h;rw [e];exact r.small
 ·have:(doW w d).1=Zeb:=by
   unfold doW stepW at h ⊢;cases hb:(Us w && Wd d w.cells.length)
   ·rfl
   ·rw [hb] at h;simp only [cond_true] at h ⊢;cases hz:(Xt w d d.at_.toNat==0)
    ·rfl
    ·rw [hz] at h;simp only [cond_true] at h ⊢;cases ho:Kz (Xu w d)
     ·rw [ho] at h;exact absurd rfl h
     ·rfl
  rw [this];exact Zhr
theorem ZjE (p:Int) (w:Za) (d:Zv):f3L 1000 p w d=some true:=by
 have hF:1000 <=1000:=Nat.le_refl _;unfold f3L;obtain⟨b,h1,h2⟩:=Ztn hF w;rw [h1,Option.bind_some];cases b
 ·have sm:=h2 rfl;rw [cond_false,Zrj hF,Ztk hF,ZyB hF sm,ZCG hF sm];simp only [Option.bind_some];rw [ZhB hF (Zov p),ZhB hF (Zvz w d)];simp only [K7,Option.bind_some,bne_self_eq_false,Bool.not_true,Bool.or_self,Bool.not_false,cond_true,cond_false];by_cases h:(doW w d).2=0
  ·obtain⟨_,_,_,e,r,_⟩:=Zz5 h;have:((doW w d).2 !=0)=false:=by simp [h]
   rw [this];simp only [Bool.not_false,KL];rw [e,right_eq hF r.small,r.right];simp [gd,Zvo]
  ·have:((doW w d).2 !=0)=true:=by simpa using h
   rw [this];simp [gd,Zvo]
 ·rfl
end
end Go.Proofs.Ytekpjgmhkkjhgaa
end
