/- Last Part 13 of the proof. -/
import Derived.Test.YtekpjgmhkkjhgaaKa12
set_option linter.all false
section
namespace Go.Proofs.Ytekpjgmhkkjhgaa
open Go.Lf
def YJ (w:Zb) (d:Zn) (m:Nat):Int:=
 bif d.Z4==1 then(bif decide (w.names >=12) then 3 else 0) else bif d.Z4==5 then(bif decide (d.at_ >= (w.notes.length:Int)) then 5 else 0) else
  match Ul (rowOf w m) d.name with
  | none=>7
  | some c=>bif d.Z4==4 then(bif !c.root then 7 else 0) else(bif !c.use then 7 else 0)
theorem Zpg {w:Zb} {st:Store} (s:Qk w st) {m:Nat} (hm:m < w.cells.length) (d:Zn) (hat:d.Z4=1∨d.Z4=5∨d.at_= (m:Int)):Znb st d=some (bif YJ w d m==0 then .ok () else .Jk (YJ w d m)):=by
 unfold Znb YJ Zae;rw [Option.bind_some,s.n,s.notes];cases h1:(d.Z4==1)
 ·cases h5:(d.Z4==5)
  ·have ha:d.at_= (m:Int):=by
    rcases hat with h | h | h
    ·rw [h] at h1;cases h1
    ·rw [h] at h5;cases h5
    ·exact h
   rw [ha,s.get hm];simp only [cond_false];cases hf:Ul (rowOf w m) d.name with
   | none=>
     cases (d.Z4==4) <;> rfl
   | some c=>
     cases (d.Z4==4)
     ·cases hu:c.use <;> simp [hu]
     ·cases hr:c.root <;> simp [hr]
  ·simp only [cond_false,cond_true];cases decide (d.at_ >= (w.notes.length:Int)) <;> rfl
 ·simp only [cond_true];cases decide (w.names >=12) <;> rfl
theorem Zwm {F:Nat} (hF:1000 <=F) {w:Zb} (sm:Small w):∃ cs,Zja F w=some ⟨(w.cells.length:Int),w.names,cs,w.notes,w.freed⟩∧UK cs:=by
 have hc:=sm.cells;have hn:=sm.notes;have hf:=sm.freed;unfold Zja ZoW ZoV;rw [XT (by simp only [List.length_nil];omega) (by decide),XT (by simp only [List.length_nil];omega) (by decide)];simp only [Option.bind_some,List.nil_append]
 have inner:∀ (m:Nat) (row:List Za) (next:Int×(List (Ze×Za)) ->Option Store) (l:List (Ze×Za)),w.cells[m]? =some row ->UK l ->∃ l',UK l'∧loop F (ZaB m next row) (0,l)=next (ZJ ((m:Int) + 1),l'):=by
  intro m row next l hm hI;have hr:=sm.rows row (List.mem_of_getElem? hm)
  have e:=YU row (fun v s=>(v,s)) (ZaB m next row) (fun _ c s nx=>nx (Y4 s (Ze.mk m c.name) c)) (fun s=>next (ZJ ((m:Int) + 1),s)) (by omega) (fun k y s nx hy hk=>by
   simp only [ZaB,ZU,hy,hk,decide_true,cond_true,Option.bind_some]) (fun s nx=>by simp only [ZaB];rw [decide_eq_false (by omega),cond_false]) (by omega:row.length < F) l
  obtain⟨e2,hJ⟩:=Jf (d:=fun s=>next (ZJ ((m:Int) + 1),s)) (g:=fun(_:Nat) (c:Za) s nx=>nx (Y4 s (Ze.mk m c.name) c)) (fun _ c s=>Y4 s (Ze.mk m c.name) c) (fun _ s=>UK s) (l:=row) (i:=0) (s:=l) hI (fun k c s nx hk hJ=>⟨rfl,hJ.Y4 _ _⟩);exact⟨_,hJ,e.trans e2⟩
 have key:∀ (d m:Nat) (F':Nat) (l:List (Ze×Za)),m + d=w.cells.length ->d < F' ->UK l ->∃ cs,loop F' (ZaC F w w.notes w.freed) ((m:Int),l)=some ⟨(w.cells.length:Int),w.names,cs,w.notes,w.freed⟩∧UK cs:=by
  intro d
  induction d with
  | zero=>
    intro m F' l hm hF' hI;obtain⟨F',rfl⟩:=Nat.exists_eq_succ_of_ne_zero (n:=F') (by omega);refine⟨l,?_,hI⟩;rw [Ya];simp only [ZaC];rw [decide_eq_false (by omega),cond_false]
  | succ d ih=>
    intro m F' l hm hF' hI;obtain⟨F',rfl⟩:=Nat.exists_eq_succ_of_ne_zero (n:=F') (by omega);have hr:=Qx (w:=w) (m:=m) (by omega);obtain⟨l',q1,q2⟩:=inner m _ (loop F' (ZaC F w w.notes w.freed)) l hr hI;obtain⟨cs,q3,q4⟩:=ih (m + 1) F' l' (by omega) (by omega) q1;refine⟨cs,?_,q4⟩;rw [Ya];simp only [ZaC];rw [decide_eq_true (by omega),cond_true,ZU,hr,Option.bind_some,q2,YV (by omega),q3]
 exact key w.cells.length 0 F [] (by omega) (by omega) UK.nil
def YO (w:Zb) (n:Int):CV:=fun a=>if 0 <=a∧a < (w.cells.length:Int) then cellOf w a.toNat n else none
def QS (w:Zb) (n:Int):List Zd:=w.notes.filter fun x=>x.name==n
def Mst (M:Nat) (cv:CV) (ns:List Zd):Prop:=∀ a:Int,0 <=a ->a < M ->J7 cv ns a <=1000000
structure Rt (w:Zb):Prop where
 c1:1 <=w.cells.length
 c6:w.cells.length <=6
 n0:0 <=w.names
 n12:w.names <=12
 KJ:w.notes.length <=80
 fr:w.freed.Pairwise (· < ·)
 frr:∀ x ∈ w.freed,0 <=x∧x < w.names
 Yu:∀ m,m < w.cells.length ->J9 (rowOf w m)
 cn:∀ m,m < w.cells.length ->∀ c ∈ rowOf w m,Z6 w c.name=true∧(c.use=true∨c.out ≠ 0)
 nn:∀ x ∈ w.notes,Z6 w x.name=true
 nm:∀ n,Z6 w n=true ->∃ h,Nm w.cells.length n (YO w n) (QS w n) h∧Mst w.cells.length (YO w n) (QS w n)
section
variable {w:Zb} {n:Int}
theorem Q5 {m:Nat} (hm:m < w.cells.length) (n:Int):YO w n (m:Int)=cellOf w m n:=by
 unfold YO;rw [if_pos (by omega)]
 rfl
theorem Qd {a:Int} {c:Za} (h:YO w n a=some c):(0 <=a∧a < (w.cells.length:Int))∧cellOf w a.toNat n=some c:=by
 unfold YO at h;split at h
 ·rename_i z;exact⟨z,h⟩
 ·cases h
theorem Zdq (w:Zb) (m n:Int):YM (YP m) (QS w n)=16 * (Zce w m n:Int):=by
 unfold QS Zce
 induction w.notes with
 | nil=>rfl
 | cons x l ih=>
   rw [List.countP_cons,List.filter_cons];by_cases hn:x.name=n
   ·have:(x.name==n)=true:=by simp [hn]
    rw [this,if_pos rfl];simp only [YM,ih,Bool.and_true];unfold YP;by_cases z:x.kind=3∧x.Zy=m
    ·rw [if_pos z,if_pos (by simp [z.1,z.2])];omega
    ·rw [if_neg z,if_neg (by simpa using z)];omega
   ·have:(x.name==n)=false:=by simp [hn]
    rw [this,if_neg (by simp),ih];simp
theorem ZdL (w:Zb) {m:Nat} (hm:m < w.cells.length) (n:Int):JS w m n=ZJ (J7 (YO w n) (QS w n) m):=by
 unfold JS J7;rw [Zdq,Q5 hm];unfold ZpQ X0;congr 1;cases cellOf w m n <;> dsimp only <;> omega
theorem ZoD (m n:Int) (l:List Zd) (t:Int):l.foldl (fun s x=>Zgl m n x s) (ZJ t)=ZJ (t + YM (UX m) (l.filter fun x=>x.name==n)):=by
 induction l generalizing t with
 | nil=>simp [YM]
 | cons x l ih=>
   rw [List.foldl_cons,List.filter_cons];by_cases hn:x.name=n
   ·have hb:(x.name==n)=true:=by simp [hn]
    rw [hb,if_pos rfl];unfold Zgl;rw [hb,Bool.true_and];simp only [YM];rw [show UX m x=if(x.kind=1∧x.via=m)∨(x.kind=2∧x.Zy=m) then x.w else 0 from rfl];by_cases z:(x.kind=1∧x.via=m)∨(x.kind=2∧x.Zy=m)
    ·have:((x.kind==1) && (x.via==m) || (x.kind==2) && (x.Zy==m))=true:=by simpa using z
     rw [this,cond_true,Zkm,if_pos z];refine(ih _).trans ?_;congr 1;omega
    ·have:((x.kind==1) && (x.via==m) || (x.kind==2) && (x.Zy==m))=false:=by
      rw [← Bool.not_eq_true];simpa using z
     rw [this,cond_false,if_neg z];refine(ih _).trans ?_;congr 1;omega
   ·have hb:(x.name==n)=false:=by simp [hn]
    rw [hb,if_neg (by simp)];have:Zgl m n x (ZJ t)=ZJ t:=by unfold Zgl;rw [hb];rfl
    rw [this];exact ih t
theorem ZoE (w:Zb) (m n:Int) {M:Nat} (hM:M <=w.cells.length):(List.range M).foldl (fun s k=>ZmR w m n k s) 0=ZJ (WZ (fun k=>U5 m (YO w n k)) M):=by
 induction M with
 | zero=>rfl
 | succ M ih=>
   rw [List.range_succ,List.foldl_append,ih (by omega)];simp only [List.foldl_cons,List.foldl_nil,WZ];rw [Q5 (by omega)];unfold ZmR U5;cases cellOf w M n with
   | none=>simp
   | some c=>
     dsimp only;by_cases z:c.from_=m
     ·rw [if_pos z,show(c.from_==m)=true by simp [z],cond_true,Zkm]
     ·rw [if_neg z,show(c.from_==m)=false by simp [z],cond_false];simp
theorem Zrm (w:Zb) (m n:Int):ZdJ w m n=ZJ (Jc w.cells.length (YO w n) (QS w n) m):=by
 unfold ZdJ Jc QS;rw [ZoE w m n (Nat.le_refl _),ZoD]
theorem Zhl {f:Zd ->Int} {l:List Zd} {B:Int} (h:∀ x ∈ l,0 <=f x∧f x <=B):0 <=YM f l∧YM f l <=B * (l.length:Int):=by
 induction l with
 | nil=>simp [YM]
 | cons x l ih=>
   have h1:=h x (by simp);have h2:=ih fun y hy=>h y (by simp [hy])
   simp only [YM,List.length_cons]
   have:B * ((l.length + 1:Nat):Int)=B * (l.length:Int) + B:=by
    rw [Int.natCast_add,Int.mul_add];simp
   omega
theorem Zn3 {f:Nat ->Int} {B:Int} {M:Nat} (h:∀ m,m < M ->0 <=f m∧f m <=B):0 <=WZ f M∧WZ f M <=B * (M:Int):=by
 induction M with
 | zero=>simp [WZ]
 | succ M ih=>
   have h1:=h M (by omega);have h2:=ih fun m hm=>h m (by omega)
   simp only [WZ]
   have:B * ((M + 1:Nat):Int)=B * (M:Int) + B:=by
    rw [Int.natCast_add,Int.mul_add];simp
   omega
theorem Za1 {m:Int} {c:Za} (h:WU w m c=true):Z6 w c.name=true∧(-16 <=c.out∧c.out <=1000000)∧(c.use=true∨c.out ≠ 0)∧
 ((c.root=false∧0 <=c.from_∧c.from_ < (w.cells.length:Int)∧c.from_ ≠ m∧1 <=c.has∧c.has <=1000000)∨(c.from_=-1∧c.has=0)):=by
 unfold WU Zah at h;rw [Bool.and_eq_true,Bool.and_eq_true,Bool.and_eq_true] at h;obtain⟨⟨⟨h1,h2⟩,h3⟩,h4⟩:=h;refine⟨h1,by simpa using h2,?_,?_⟩
 ·simpa using h3
 ·cases hr:(c.root || c.from_==-1)
  ·rw [hr,cond_false] at h4;simp at h4 hr;exact .inl ⟨hr.1,by omega,by omega,h4.1.2,by omega,by omega⟩
  ·rw [hr,cond_true] at h4;simp at h4;exact .inr h4
theorem Zva {m:Int} {c:Za} (h1:Z6 w c.name=true) (h2:-16 <=c.out∧c.out <=1000000) (h3:c.use=true∨c.out ≠ 0)
 (h4:(c.root=false∧0 <=c.from_∧c.from_ < (w.cells.length:Int)∧c.from_ ≠ m∧1 <=c.has∧c.has <=1000000)∨(c.from_=-1∧c.has=0)):WU w m c=true:=by
 unfold WU Zah;rw [Bool.and_eq_true,Bool.and_eq_true,Bool.and_eq_true];refine⟨⟨⟨h1,by simpa using h2⟩,by simpa using h3⟩,?_⟩;rcases h4 with⟨q1,q2,q3,q4,q5,q6⟩ | ⟨q1,q2⟩
 ·have:(c.root || c.from_==-1)=false:=by simp [q1];omega
  rw [this,cond_false];simp;exact⟨⟨⟨q2,q3⟩,q4⟩,q5,q6⟩
 ·have:(c.root || c.from_==-1)=true:=by simp [q1]
  rw [this,cond_true];simp [q1,q2]
theorem ZaP {x:Zd} (h:WM w x=true):(0 <=x.Zy∧x.Zy < (w.cells.length:Int))∧Z6 w x.name=true∧(1 <=x.w∧x.w <=1000000)∧
 ((x.kind=1∧0 <=x.via∧x.via < (w.cells.length:Int))∨(x.kind=2∧x.via=0)∨(x.kind=3∧x.via=0∧x.w=16)):=by
 unfold WM Zah at h;rw [Bool.and_eq_true,Bool.and_eq_true,Bool.and_eq_true] at h;obtain⟨⟨⟨h1,h2⟩,h3⟩,h4⟩:=h;refine⟨by simpa using h1,h2,by simpa using h3,?_⟩;cases k1:(x.kind==1)
 ·rw [k1,cond_false] at h4;cases k2:(x.kind==2)
  ·rw [k2,cond_false] at h4;simp at h4;exact .inr (.inr ⟨h4.1.1,h4.1.2,h4.2⟩)
  ·rw [k2,cond_true] at h4;exact .inr (.inl ⟨by simpa using k2,by simpa using h4⟩)
 ·rw [k1,cond_true] at h4;exact .inl ⟨by simpa using k1,by simpa using h4⟩
theorem Ztg {x:Zd} (h1:0 <=x.Zy∧x.Zy < (w.cells.length:Int)) (h2:Z6 w x.name=true) (h3:1 <=x.w∧x.w <=1000000)
 (h4:(x.kind=1∧0 <=x.via∧x.via < (w.cells.length:Int))∨(x.kind=2∧x.via=0)∨(x.kind=3∧x.via=0∧x.w=16)):WM w x=true:=by
 unfold WM Zah;rw [Bool.and_eq_true,Bool.and_eq_true,Bool.and_eq_true];refine⟨⟨⟨by simpa using h1,h2⟩,by simpa using h3⟩,?_⟩;rcases h4 with⟨k,v⟩ | ⟨k,v⟩ | ⟨k,v,u⟩
 ·rw [k];simpa using v
 ·rw [k];simpa using v
 ·rw [k];simp [v,u]
theorem Shp.Zf8 (sh:Shp w) {m:Nat} (hm:m < w.cells.length) (n:Int):JS w m n=J7 (YO w n) (QS w n) m:=by
 rw [ZdL w hm];have h1:=Zhl (f:=YP (m:Int)) (l:=QS w n) (B:=16) (fun x _=>by unfold YP;split <;> omega);have h2:(QS w n).length <=w.notes.length:=List.length_filter_le _ _;have h3:=sh.notes
 have h4:-16 <=X0 (YO w n m)∧X0 (YO w n m) <=1000000:=by
  rw [Q5 hm];cases e:cellOf w m n with
  | none=>simp [X0]
  | some c=>
    obtain⟨row,k,r1,r2⟩:=KY e;exact(Za1 (sh.cell m row k c r1 r2).1).2.1
 unfold J7;rw [YL] <;> omega
theorem Shp.Zhn (sh:Shp w) {m:Nat} (hm:m < w.cells.length) (n:Int):ZdJ w m n=Jc w.cells.length (YO w n) (QS w n) m:=by
 rw [Zrm w]
 have h1:=Zhl (f:=UX (m:Int)) (l:=QS w n) (B:=1000000) (fun x hx=>by
  have:=ZaP (sh.note x (List.mem_filter.1 hx).1);unfold UX;split <;> omega)
 have h2:(QS w n).length <=w.notes.length:=List.length_filter_le _ _;have h3:=sh.notes
 have h4:=Zn3 (f:=fun k=>U5 (m:Int) (YO w n k)) (B:=1000000) (M:=w.cells.length) (fun k hk=>by
  rw [Q5 hk];cases e:cellOf w k n with
  | none=>simp [U5]
  | some c=>
    obtain⟨row,j,r1,r2⟩:=KY e;have:= (Za1 (sh.cell k row j c r1 r2).1).2.2.2;unfold U5;dsimp only;split <;> omega)
 have:=sh.c6;unfold Jc;rw [YL] <;> omega
theorem WQ (n h:Int) (k:Nat):Y9 w n h k h=true:=by cases k <;> simp [Y9]
theorem Zgk {h:Int}:∀ {k:Nat} {a:Int},Y9 w n h k a=true ->Y9 w n h (k + 1) a=true
 | 0,a,q=>by
   have:a=h:=by simpa [Y9] using q
   subst this;exact WQ _ _ _
 | k + 1,a,q=>by
   rw [Y9] at q ⊢;cases e:(a==h)
   ·rw [e,cond_false] at q;rw [cond_false];cases ec:cellOf w a.toNat n with
    | none=>rw [ec] at q;cases q
    | some c=>
      rw [ec] at q;dsimp only at q ⊢;cases ef:decide (c.from_ < 0)
      ·rw [ef,cond_false] at q;exact Zgk q
      ·rw [ef] at q;cases q
   ·rfl
theorem ZkE {h:Int} {k:Nat} {a:Int} (q:Y9 w n h k a=true):a=h∨cellOf w a.toNat n ≠ none:=by
 by_cases e:a=h
 ·exact .inl e
 ·right;intro z;cases k with
  | zero=>exact e (by simpa [Y9] using q)
  | succ k=>
    rw [Y9,z,show(a==h)=false by simp [e]] at q;cases q
theorem UB {h:Int} {k:Nat} {a:Int} {c:Za} (ha:a ≠ h) (hc:cellOf w a.toNat n=some c):Y9 w n h (k + 1) a= (!decide (c.from_ < 0) && Y9 w n h k c.from_):=by
 rw [Y9,hc,show(a==h)=false by simp [ha],cond_false];dsimp only;cases decide (c.from_ < 0) <;> rfl
theorem ZfO {α:Type} {p q:α ->Bool} {l:List α} (h:∀ x ∈ l,p x=true ->q x=true) {x:α} (hx:x ∈ l) (h1:p x=false) (h2:q x=true):l.countP p < l.countP q:=by
 induction l with
 | nil=>simp at hx
 | cons y l ih=>
   rw [List.countP_cons,List.countP_cons];have hm:l.countP p <=l.countP q:=List.countP_mono_left fun z hz=>h z (by simp [hz])
   have hy:=h y (by simp);rcases List.mem_cons.1 hx with rfl | hx
   ·rw [h1,h2];simp;omega
   ·have:=ih (fun z hz=>h z (by simp [hz])) hx;cases ep:p y
    ·simp;omega
    ·rw [hy ep];simp;omega
theorem switch {f:Nat ->Bool}:∀ {K:Nat},f 0=false ->f (K + 1)=true ->∃ j,j <=K∧f j=false∧f (j + 1)=true
 | 0,h0,h1=>⟨0,Nat.le_refl _,h0,h1⟩
 | K + 1,h0,h1=>by
   cases e:f (K + 1) with
   | false=>exact⟨K + 1,Nat.le_refl _,e,h1⟩
   | true=>
     obtain⟨j,j1,j2⟩:=switch h0 e;exact⟨j,by omega,j2⟩
theorem Zwv {h:Int} (sh:Shp w) (L:WS w n h=true):∃ dep:Int ->Nat,∀ m c,YO w n m=some c ->m ≠ h ->0 <=c.from_∧(YO w n c.from_ ≠ none∨c.from_=h)∧dep c.from_ < dep m:=by
 have all:∀ m:Nat,m < w.cells.length ->cellOf w m n ≠ none ->Y9 w n h w.cells.length m=true:=by
  intro m hm hc;unfold WS at L;rw [Bool.not_eq_true',List.any_eq_false] at L;have:=L m (List.mem_range.2 hm);cases e:Y9 w n h w.cells.length m with
  | true=>rfl
  | false=>
    exfalso;apply this;rw [e];cases ec:cellOf w m n with
    | none=>exact absurd ec hc
    | some c=>rfl
 refine⟨fun a=>(List.range (w.cells.length + 1)).countP fun k=>!Y9 w n h k a,fun m c hc hm=>?_⟩;obtain⟨hr,hc'⟩:=Qd hc;have hmn:((m.toNat:Nat):Int)=m:=by omega
 have q:=all m.toNat (by omega) (by rw [hc'];simp);rw [hmn] at q;have hM:=sh.c1;obtain⟨K,hK⟩:=Nat.exists_eq_succ_of_ne_zero (n:=w.cells.length) (by omega);rw [hK,UB hm hc',Bool.and_eq_true] at q;have hf:0 <=c.from_:=by have:=q.1;simp at this;omega
 have hfr:=sh.from_ hc' (by omega);refine⟨hf,?_,?_⟩
 ·rcases ZkE q.2 with z | z
  ·exact .inr z
  ·left;unfold YO;rw [if_pos hfr];exact z
 ·have hp:w.cells.length=K + 1:=hK
  obtain⟨j,j1,j2,j3⟩:=switch (f:=fun k=>Y9 w n h k m) (K:=K) (by simp [Y9,hm]) (by
   show Y9 w n h (K + 1) m=true;rw [UB hm hc',Bool.and_eq_true];exact q)
  rw [UB hm hc',Bool.and_eq_true] at j3;refine ZfO (x:=j) (fun k hk hp=>?_) (List.mem_range.2 (by omega)) (by rw [j3.2];rfl) (by rw [j2];rfl);rw [Bool.not_eq_true'] at hp ⊢;cases k with
  | zero=>simp [Y9,hm]
  | succ k=>
    rw [UB hm hc',Bool.and_eq_false_iff];right;cases e:Y9 w n h k c.from_ with
    | false=>rfl
    | true=>rw [Zgk e] at hp;cases hp
theorem Zwu {h:Int} (L:∃ dep:Int ->Nat,∀ m c,YO w n m=some c ->m ≠ h ->0 <=c.from_∧(YO w n c.from_ ≠ none∨c.from_=h)∧dep c.from_ < dep m):WS w n h=true:=by
 obtain⟨dep,L⟩:=L
 let S:Int ->Nat ->Bool:=fun a k=>(YO w n (k:Int)).isSome && decide (dep k < dep a)
 let rk:Int ->Nat:=fun a=>(List.range w.cells.length).countP (S a)
 have key:∀ k a c,rk a <=k ->YO w n a=some c ->Y9 w n h (k + 1) a=true:=by
  intro k
  induction k with
  | zero=>
    intro a c hk hc;by_cases ha:a=h
    ·subst ha;exact WQ _ _ _
    ·obtain⟨l1,l2,l3⟩:=L a c hc ha;rw [UB ha (Qd hc).2,Bool.and_eq_true];refine⟨by simp;omega,?_⟩;by_cases z:c.from_=h
     ·rw [z];exact WQ _ _ _
     ·exfalso;have l2:YO w n c.from_ ≠ none:=by rcases l2 with q | q;exact q;exact absurd q z
      obtain⟨d,hd⟩:=Option.ne_none_iff_exists'.1 l2;have hr:= (Qd hd).1;have hf:((c.from_.toNat:Nat):Int)=c.from_:=by omega
      have:0 < rk a:=by
       refine List.countP_pos_iff.2 ⟨c.from_.toNat,List.mem_range.2 (by omega),?_⟩;show((YO w n ((c.from_.toNat:Nat):Int)).isSome && decide (dep ((c.from_.toNat:Nat):Int) < dep a))=true
       rw [hf,hd];simpa using l3
      omega
  | succ k ih=>
    intro a c hk hc;by_cases ha:a=h
    ·subst ha;exact WQ _ _ _
    ·obtain⟨l1,l2,l3⟩:=L a c hc ha;rw [UB ha (Qd hc).2,Bool.and_eq_true];refine⟨by simp;omega,?_⟩;by_cases z:c.from_=h
     ·rw [z];exact WQ _ _ _
     ·have l2:YO w n c.from_ ≠ none:=by rcases l2 with q | q;exact q;exact absurd q z
      obtain⟨d,hd⟩:=Option.ne_none_iff_exists'.1 l2;have hr:= (Qd hd).1;have hf:((c.from_.toNat:Nat):Int)=c.from_:=by omega
      refine ih c.from_ d ?_ hd
      have:rk c.from_ < rk a:=by
       refine ZfO (x:=c.from_.toNat) (fun j hj hp=>?_) (List.mem_range.2 (by omega)) ?_ ?_
       ·have hp:((YO w n (j:Int)).isSome && decide (dep j < dep c.from_))=true:=hp;show((YO w n (j:Int)).isSome && decide (dep j < dep a))=true;rw [Bool.and_eq_true,decide_eq_true_eq] at hp ⊢;exact⟨hp.1,by omega⟩
       ·show((YO w n ((c.from_.toNat:Nat):Int)).isSome && decide (dep ((c.from_.toNat:Nat):Int) < dep c.from_))=false
        rw [hf];simp
       ·show((YO w n ((c.from_.toNat:Nat):Int)).isSome && decide (dep ((c.from_.toNat:Nat):Int) < dep a))=true
        rw [hf,hd];simpa using l3
      omega
 unfold WS;rw [Bool.not_eq_true',List.any_eq_false];intro m hm;rw [List.mem_range] at hm;rw [Bool.not_eq_true];cases e:cellOf w m n with
 | none=>rfl
 | some c=>
   have hc:YO w n m=some c:=by rw [Q5 hm];exact e
   have:rk m < w.cells.length:=by
    have:=ZfO (p:=S m) (q:=fun _=>true) (l:=List.range w.cells.length) (fun _ _ _=>rfl) (x:=m) (List.mem_range.2 hm) (by show((YO w n (m:Int)).isSome && decide (dep m < dep m))=false;simp) rfl
    simpa [rk] using this
   obtain⟨K,hK⟩:=Nat.exists_eq_succ_of_ne_zero (n:=w.cells.length) (by omega);have:=key K m c (by omega) hc;rw [hK,this];rfl
end
end Go.Proofs.Ytekpjgmhkkjhgaa
end
section
namespace Go.Proofs.Ytekpjgmhkkjhgaa
open Go.Lf
theorem ZqI {α:Type} [Inhabited α] (f:α ->Int) {l:List α} (h:∀ k x,l[k]? =some x ->0 < k ->f (QG l k) < f x):l.Pairwise fun a b=>f a < f b:=by
 rw [List.pairwise_iff_getElem]
 have key:∀ (j i:Nat) (hi:i < l.length) (hj:j < l.length),i < j ->f l[i] < f l[j]:=by
  intro j
  induction j with
  | zero=>intro i hi hj h;omega
  | succ j ih=>
    intro i hi hj hij;have q:=h (j + 1) l[j + 1] (by simp [hj]) (by omega)
    have e:QG l (j + 1)=l[j]'(by omega):=by
     unfold QG;rw [Nat.add_sub_cancel,List.getElem?_eq_getElem (by omega)];rfl
    rw [e] at q;by_cases z:i=j
    ·subst z;exact q
    ·have:=ih i hi (by omega) (by omega);omega
 exact fun i j hi hj hij=>key j i hi hj hij
theorem ZqJ {α:Type} [Inhabited α] (f:α ->Int) {l:List α} (h:l.Pairwise fun a b=>f a < f b) {k:Nat} {x:α} (hk:l[k]? =some x) (h0:0 < k):f (QG l k) < f x:=by
 rw [List.pairwise_iff_getElem] at h;obtain⟨hl,rfl⟩:=List.getElem?_eq_some_iff.1 hk
 have e:QG l k=l[k - 1]'(by omega):=by
  unfold QG;rw [List.getElem?_eq_getElem (by omega)];rfl
 rw [e];exact h _ _ _ _ (by omega)
theorem Za3 {b:Int}:∀ {l:List Int} {a:Int},l.Pairwise (· < ·) ->(∀ x ∈ l,a <=x∧x < b) ->a <=b ->a + (l.length:Int) <=b
 | [],a,_,_,h=>by simp;exact h
 | x::l,a,p,hr,h=>by
   rw [List.pairwise_cons] at p;have h0:=hr x (by simp);have:=Za3 (l:=l) (a:=x + 1) (b:=b) p.2 (fun y hy=>by have h1:=p.1 y hy;have h2:=hr y (by simp [hy]);omega) (by omega);simp only [List.length_cons];omega
theorem ZdW {α:Type} {c:Nat ->α ->Bool} {l:List α} (h:∀ k x,l[k]? =some x ->c k x=false):anyI c 0 l=false:=by
 rw [← Bool.not_eq_true,Zcw];rintro⟨k,x,h1,h2⟩;rw [Nat.zero_add,h k x h1] at h2;cases h2
theorem Zx9 {α:Type} {c:Nat ->α ->Bool} {l:List α} (h:anyI c 0 l=false) {k:Nat} {x:α} (hk:l[k]? =some x):c k x=false:=by
 rw [← Bool.not_eq_true,Zcw] at h;cases e:c k x with
 | false=>rfl
 | true=>exact absurd ⟨k,x,hk,by rw [Nat.zero_add];exact e⟩ h
section
variable {w:Zb} {n:Int}
theorem Zwh {m:Nat} (hm:m < w.cells.length) {c:Za} (hc:c ∈ rowOf w m):∃ k:Nat,w.cells[m]? =some (rowOf w m)∧(rowOf w m)[k]? =some c:=by
 obtain⟨k,hk⟩:=List.getElem?_of_mem hc;exact⟨k,Qx hm,hk⟩
theorem ZlC {m:Nat} (hm:m < w.cells.length) (n:Int):ZlD w m n=Zce w m n + Qr (YO w n m):=by
 rw [Q5 hm];unfold ZlD Qr;cases cellOf w m n with
 | none=>rfl
 | some c=>dsimp only;cases c.root <;> rfl
theorem Zoy {m:Int} {x:Zd} (hx:x ∈ QS w n) (k:x.kind=3) (h:x.Zy=m):1 <=Zce w m n:=by
 unfold QS at hx;rw [List.mem_filter] at hx;refine List.countP_pos_iff.2 ⟨x,hx.1,?_⟩;simp [k,h];simpa using hx.2
theorem Rt.of (h:Zbg w=true):Rt w:=by
 unfold Zbg at h;rw [Bool.and_eq_true] at h;obtain⟨hs,hn⟩:=h;have sh:=Zf9 hs;unfold Zaa at hs;simp only [Bool.and_eq_true,Bool.not_eq_true'] at hs;obtain⟨s1,s2,s3,s4⟩:=hs
 have hfr:∀ k x,w.freed[k]? =some x ->(0 <=x∧x < w.names)∧(0 < k ->QG w.freed k < x):=by
  intro k x hk;have:=Zx9 s2 hk;unfold KR at this;simp at this;exact⟨this.1,fun h0=>this.2 h0⟩
 refine⟨sh.c1,sh.c6,sh.n0,sh.n12,sh.notes,ZqI (fun x=>x) (fun k x hk h0=>(hfr k x hk).2 h0),?_,?_,?_,?_,?_⟩
 ·intro x hx;obtain⟨k,hk⟩:=List.getElem?_of_mem hx;exact(hfr k x hk).1
 ·intro m hm;exact ZqI (fun c:Za=>c.name) (fun k c hk h0=>(sh.cell m _ k c (Qx hm) hk).2 h0)
 ·intro m hm c hc;obtain⟨k,r1,r2⟩:=Zwh hm hc;have:=Za1 (sh.cell m _ k c r1 r2).1;exact⟨this.1,this.2.2.1⟩
 ·exact fun x hx=>(ZaP (sh.note x hx)).2.1
 ·intro n hnn
  have hr:0 <=n∧n < w.names:=by
   have:=hnn;unfold Z6 at this;simp at this;exact this.1
  rw [Bool.not_eq_true',List.any_eq_false] at hn
  have hro:Wu w n=true:=by
   have:=hn n.toNat (List.mem_range.2 (by omega));rw [show((n.toNat:Nat):Int)=n by omega,hnn] at this;cases e:Wu w n with
   | true=>rfl
   | false=>rw [e] at this;exact absurd rfl this
  unfold Wu at hro;simp only [Bool.and_eq_true,Bool.not_eq_true',beq_iff_eq] at hro;obtain⟨h1,h2,h3⟩:=hro;rw [List.any_eq_false] at h1
  have hbad:∀ m:Nat,m < w.cells.length ->J7 (YO w n) (QS w n) m=Jc w.cells.length (YO w n) (QS w n) m∧J7 (YO w n) (QS w n) m <=1000000:=by
   intro m hm;have:=h1 m (List.mem_range.2 hm);unfold Zr4 at this;rw [sh.Zf8 hm,sh.Zhn hm] at this
   simpa using this
  obtain⟨f1,f2⟩:=Ze1 sh n
  have hL:YS w n= [(QC w n).2]:=by
   have:(YS w n).length=1:=by
    unfold QC at h2;rw [f1] at h2;omega
   obtain⟨z,hz⟩:=List.length_eq_one_iff.1 this;rw [show(QC w n).2=z from f2 z hz];exact hz
  obtain⟨z,hz⟩:∃ z,(QC w n).2=z:= ⟨_,rfl⟩
  rw [hz] at hL h3;have hzr:=Zbt sh n z (by rw [hL];simp)
  have hcnt:∀ m:Nat,m < w.cells.length ->ZlD w m n=if(m:Int)=z then 1 else 0:=by
   intro m hm;rw [← Kq hm,hL];by_cases e:(m:Int)=z
   ·rw [if_pos e,e];simp
   ·rw [if_neg e];rw [List.count_eq_zero];simp;exact e
  have hcell:∀ m c,YO w n m=some c ->∃ (row:List Za) (k:Nat),w.cells[m.toNat]? =some row∧row[k]? =some c∧WU w m.toNat c=true:=by
   intro m c hc;obtain⟨row,k,r1,r2⟩:=KY (Qd hc).2;exact⟨row,k,r1,r2,(sh.cell _ row k c r1 r2).1⟩
  have h3n:∀ x ∈ QS w n,x.kind=3 ->x.Zy=z:=by
   intro x hx k;have hx':=ZaP (sh.note x (List.mem_filter.1 hx).1);have:=Zoy hx k (m:= ((x.Zy.toNat:Nat):Int)) (by omega);have hc:=hcnt x.Zy.toNat (by omega);rw [ZlC (by omega)] at hc;by_cases e:((x.Zy.toNat:Nat):Int)=z
   ·omega
   ·rw [if_neg e] at hc;omega
  refine⟨z,⟨?_,?_,?_,?_,hzr,?_,?_,?_,?_⟩,?_⟩
  ·exact fun m c hc=>(Qd hc).1
  ·exact fun m c hc=>Qu (Qd hc).2
  ·intro m c hc;have hr:= (Qd hc).1;obtain⟨_,_,_,_,q⟩:=hcell m c hc;have:= (Za1 q).2.2.2;rw [show((m.toNat:Nat):Int)=m by omega] at this;rcases this with⟨a1,a2,a3,a4,a5,a6⟩ | a
   ·exact .inl ⟨a1,a2,a3,a4,a5⟩
   ·exact .inr a
  ·intro x hx;have hx':=ZaP (sh.note x (List.mem_filter.1 hx).1);refine⟨hx'.1,by simpa using (List.mem_filter.1 hx).2,hx'.2.2.1.1,?_⟩;rcases hx'.2.2.2 with a | a | a
   ·exact .inl a
   ·exact .inr (.inl a)
   ·exact .inr (.inr ⟨a.1,a.2.1,a.2.2,h3n x hx a.1⟩)
  ·intro m c hc hrt;have hr:= (Qd hc).1;have q:=hcnt m.toNat (by omega);unfold ZlD at q;rw [(Qd hc).2] at q;dsimp only at q;rw [hrt,cond_true] at q;split at q <;> omega
  ·have q:=hcnt z.toNat (by omega);have hzn:((z.toNat:Nat):Int)=z:=by omega
   rw [if_pos hzn,ZlC (by omega)] at q;rw [hzn] at q;have g1:=Zdq w z n;rw [Zhm h3n,if_pos rfl] at g1;omega
  ·intro a a0 a1;have:= (hbad a.toNat (by omega)).1;rw [show((a.toNat:Nat):Int)=a by omega] at this;exact this
  ·exact Zwv sh h3
  ·intro a a0 a1;have:= (hbad a.toNat (by omega)).2;rw [show((a.toNat:Nat):Int)=a by omega] at this;exact this
theorem Rt.ZjS (R:Rt w):(w.freed.length:Int) <=w.names:=by
 have:=Za3 R.fr R.frr R.n0;omega
theorem Rt.ZfV (R:Rt w) {m:Nat} (hm:m < w.cells.length) {c:Za} (hc:c ∈ rowOf w m):YO w c.name m=some c:=by
 rw [Q5 hm];exact ZoP (R.Yu m hm) hc
theorem Rt.WU (R:Rt w) {m:Nat} (hm:m < w.cells.length) {c:Za} (hc:c ∈ rowOf w m):WU w m c=true:=by
 obtain⟨q1,q2⟩:=R.cn m hm c hc;obtain⟨h,H,Mx⟩:=R.nm _ q1;have e:=R.ZfV hm hc;have ho:=H.ZhD e;have hmx:=Mx m (by omega) (by omega);rw [H.giv,e] at hmx;simp only [X0] at hmx;refine Zva q1 ⟨ho.1,?_⟩ q2 ?_
 ·split at hmx <;> omega
 ·rcases H.cel m c e with⟨a1,a2,a3,a4,a5⟩ | a
  ·have h1:=H.ZcQ e a2;have h2:=H.acc c.from_ a2 a3;have h3:=Mx c.from_ a2 a3;exact .inl ⟨a1,a2,a3,a4,a5,by omega⟩
  ·exact .inr a
theorem Rt.WM (R:Rt w) {x:Zd} (hx:x ∈ w.notes):WM w x=true:=by
 have q1:=R.nn x hx;obtain⟨h,H,Mx⟩:=R.nm _ q1;have hx':x ∈ QS w x.name:=List.mem_filter.2 ⟨hx,by simp⟩;obtain⟨a1,a2,a3,a4⟩:=H.KJ x hx';refine Ztg a1 q1 ⟨a3,?_⟩ ?_
 ·rcases a4 with z | z | z
  ·have h1:=H.UC z.2.1 hx';rw [Wv z.1,if_pos rfl] at h1;have h2:=H.acc _ z.2.1 z.2.2;have h3:=Mx _ z.2.1 z.2.2;omega
  ·have h1:=H.UC a1.1 hx';rw [Zbn z.1,if_pos rfl] at h1;have h2:=H.acc _ a1.1 a1.2;have h3:=Mx _ a1.1 a1.2;omega
  ·omega
 ·rcases a4 with z | z | z
  ·exact .inl z
  ·exact .inr (.inl z)
  ·exact .inr (.inr ⟨z.1,z.2.1,z.2.2.1⟩)
theorem Rt.shaped (R:Rt w):Zaa w=true:=by
 have hfl:=R.ZjS;have:=R.c1;have:=R.c6;have:=R.n0;have:=R.n12;have:=R.KJ;unfold Zaa;simp only [Bool.and_eq_true,Bool.not_eq_true'];refine⟨?_,?_,?_,?_⟩
 ·unfold ZbQ;simp only [Bool.and_eq_true,decide_eq_true_eq];omega
 ·refine ZdW fun k x hk=>?_
  have h1:=R.frr x (List.mem_of_getElem? hk);unfold KR;have h2:0 < k ->QG w.freed k < x:=fun h0=>ZqJ (fun x=>x) R.fr hk h0
  simp;exact⟨h1,h2⟩
 ·unfold Zde;rw [Bool.not_eq_true'];refine ZdW fun m row hm=>?_
  have hml:m < w.cells.length:= (List.getElem?_eq_some_iff.1 hm).1;have hro:row=rowOf w m:=by have:=Qx hml;rw [hm] at this;exact Option.some.inj this
  subst hro;refine ZdW fun k c hk=>?_
  unfold KI;rw [R.WU hml (List.mem_of_getElem? hk)];simp;exact fun h0=>ZqJ (fun c:Za=>c.name) (R.Yu m hml) hk h0
 ·unfold KL;rw [Bool.not_eq_true',List.any_eq_false];intro x hx;rw [R.WM hx];simp
theorem Rt.shp (R:Rt w):Shp w:=Zf9 R.shaped
theorem Rt.right (R:Rt w):Zbg w=true:=by
 have sh:=R.shp;unfold Zbg;rw [Bool.and_eq_true];refine⟨R.shaped,?_⟩;rw [Bool.not_eq_true',List.any_eq_false];intro k hk;rw [Bool.not_eq_true];cases hn:Z6 w k with
 | false=>rfl
 | true=>
   obtain⟨h,H,Mx⟩:=R.nm _ hn;rw [Bool.true_and,Bool.not_eq_false']
   have hcnt:∀ m:Nat,m < w.cells.length ->ZlD w m k=if(m:Int)=h then 1 else 0:=by
    intro m hm;have g1:=Zdq w m k;rw [Zhm (h:=h) (fun x hx k3=>by rcases(H.KJ x hx).2.2.2 with z | z | z <;> omega)] at g1;have o:=H.one;rw [ZlC hm];by_cases e:(m:Int)=h
    ·rw [if_pos e] at g1 ⊢;rw [e];rw [e] at g1;omega
    ·rw [if_neg e] at g1 ⊢
     have:Qr (YO w k m)=0:=by
      cases ec:YO w k m with
      | none=>rfl
      | some c=>
        show(if c.root=true then 1 else 0)=0;rw [if_neg (fun z=>e (H.rt m c ec z))]
     omega
   have hr:=Zbt sh (k:Int)
   have hL:YS w k= [h]:=by
    have c1:∀ x ∈ YS w (k:Int),x=h:=by
     intro x hx;have h1:=hr x hx;have h2:=Kq (w:=w) (m:=x.toNat) (by omega) (k:Int);rw [hcnt x.toNat (by omega),show((x.toNat:Nat):Int)=x by omega] at h2;have h3:0 < (YS w (k:Int)).count x:=List.count_pos_iff.2 hx;by_cases e:x=h
     ·exact e
     ·rw [if_neg e] at h2;omega
    have c2:(YS w (k:Int)).count h=1:=by
     have hh:=H.hM;have h2:=Kq (w:=w) (m:=h.toNat) (by omega) (k:Int);rw [hcnt h.toNat (by omega),show((h.toNat:Nat):Int)=h by omega,if_pos rfl] at h2;exact h2
    have c3:(YS w (k:Int)).length=1:=by
     rw [← c2]
     symm
     rw [List.count_eq_length];exact fun x hx=>(c1 x hx).symm
    obtain⟨z,hz⟩:=List.length_eq_one_iff.1 c3;rw [hz];rw [c1 z (by rw [hz];simp)]
   obtain⟨f1,f2⟩:=Ze1 sh (k:Int);unfold Wu;simp only [Bool.and_eq_true,Bool.not_eq_true',beq_iff_eq];refine⟨?_,?_,?_⟩
   ·rw [List.any_eq_false];intro m hm;rw [List.mem_range] at hm;unfold Zr4;rw [sh.Zf8 hm,sh.Zhn hm,H.acc m (by omega) (by omega)];have:=Mx m (by omega) (by omega);rw [H.acc m (by omega) (by omega)] at this;simp;exact this
   ·unfold QC;rw [f1,hL];rfl
   ·have:(QC w (k:Int)).2=h:=f2 h hL;rw [this];exact Zwu H.lead
end
end Go.Proofs.Ytekpjgmhkkjhgaa
end
section
namespace Go.Proofs.Ytekpjgmhkkjhgaa
open Go.Lf
def flN (n:Int) (fl:List Zd):List Zd:=fl.filter fun x=>x.name==n
structure Rx (w:Zb) (ex:Int ->Int ->Prop) (fl:List Zd):Prop where
 c1:1 <=w.cells.length
 c6:w.cells.length <=6
 n0:0 <=w.names
 n12:w.names <=12
 fr:w.freed.Pairwise (· < ·)
 frr:∀ x ∈ w.freed,0 <=x∧x < w.names
 Yu:∀ m,m < w.cells.length ->J9 (rowOf w m)
 cn:∀ n m c,YO w n m=some c ->Z6 w n=true∧(c.use=true∨c.out ≠ 0∨ex m n)
 nn:∀ x ∈ fl ++ w.notes,Z6 w x.name=true
 nm:∀ n,Z6 w n=true ->∃ h,Nm w.cells.length n (YO w n) (flN n fl ++ QS w n) h
def Mw (w:Zb) (fl:List Zd):Prop:=∀ n,Z6 w n=true ->Mst w.cells.length (YO w n) (flN n fl ++ QS w n)
def Ka:Int ->Int ->Prop:=fun _ _=>False
theorem Rt.rx {w:Zb} (R:Rt w):Rx w Ka []∧Mw w []:=by
 refine⟨⟨R.c1,R.c6,R.n0,R.n12,R.fr,R.frr,R.Yu,fun n m c hc=>?_,R.nn,fun n hn=>?_⟩,fun n hn=>?_⟩
 ·obtain⟨h1,h2⟩:=Qd hc;have hm:m.toNat < w.cells.length:=by omega
  obtain⟨row,k,r1,r2⟩:=KY h2;have:row=rowOf w m.toNat:=by have:=Qx hm;rw [r1] at this;exact Option.some.inj this
  subst this;have q:=R.cn _ hm c (List.mem_of_getElem? r2);rw [Qu h2] at q;exact⟨q.1,q.2.elim .inl fun z=>.inr (.inl z)⟩
 ·obtain⟨h,H,_⟩:=R.nm n hn;exact⟨h,H⟩
 ·obtain⟨h,_,H⟩:=R.nm n hn;exact H
theorem Rx.rt {w:Zb} (R:Rx w Ka []) (Mx:Mw w []) (hl:w.notes.length <=80):Rt w:=by
 refine⟨R.c1,R.c6,R.n0,R.n12,hl,R.fr,R.frr,R.Yu,fun m hm c hc=>?_,R.nn,fun n hn=>?_⟩
 ·have e:YO w c.name m=some c:=by rw [Q5 hm];exact ZoP (R.Yu m hm) hc
  obtain⟨q1,q2⟩:=R.cn _ _ _ e;refine⟨q1,?_⟩;rcases q2 with q | q | q
  ·exact .inl q
  ·exact .inr q
  ·exact q.elim
 ·obtain⟨h,H⟩:=R.nm n hn;exact⟨h,H,Mx n hn⟩
structure Upd (w w':Zb) (n:Int):Prop where
 len:w'.cells.length=w.cells.length
 nms:w'.names=w.names
 fre:w'.freed=w.freed
 Yu:∀ m,m < w.cells.length ->J9 (rowOf w' m)
 oc:∀ k,k ≠ n ->YO w' k=YO w k
 on:∀ k,k ≠ n ->QS w' k=QS w k
theorem Upd.trans {w w1 w2:Zb} {n:Int} (a:Upd w w1 n) (b:Upd w1 w2 n):Upd w w2 n:=
 ⟨b.len.trans a.len,b.nms.trans a.nms,b.fre.trans a.fre,fun m hm=>b.Yu m (by rw [a.len];exact hm),fun k hk=>(b.oc k hk).trans (a.oc k hk),fun k hk=>(b.on k hk).trans (a.on k hk)⟩
theorem Zb7 {w w':Zb} (h1:w'.names=w.names) (h2:w'.freed=w.freed) (n:Int):Z6 w' n=Z6 w n:=by unfold Z6;rw [h1,h2]
theorem Zk1 {n:Int} {fl:List Zd} (h:∀ x ∈ fl,x.name ≠ n):flN n fl= []:=by
 unfold flN;rw [List.filter_eq_nil_iff];intro x hx;simp;exact h x hx
theorem Kr {n:Int} {fl:List Zd} (h:∀ x ∈ fl,x.name=n):flN n fl=fl:=by
 unfold flN;rw [List.filter_eq_self];intro x hx;simp;exact h x hx
section
variable {w w':Zb} {n:Int} {ex ex':Int ->Int ->Prop} {fl fl':List Zd}
theorem Rx.upd (R:Rx w ex fl) (U:Upd w w' n) (hn:Z6 w n=true) (hfl:∀ x ∈ fl,x.name=n) (ZgH:∀ x ∈ fl',x.name=n)
 (he:∀ m c,YO w' n m=some c ->c.use=true∨c.out ≠ 0∨ex' m n) (he2:∀ m k,k ≠ n ->ex m k ->ex' m k)
 (hm:∃ h,Nm w.cells.length n (YO w' n) (fl' ++ QS w' n) h):Rx w' ex' fl':=by
 have hB:=Zb7 U.nms U.fre;refine⟨by rw [U.len];exact R.c1,by rw [U.len];exact R.c6,by rw [U.nms];exact R.n0,by rw [U.nms];exact R.n12,by rw [U.fre];exact R.fr,by rw [U.fre,U.nms];exact R.frr,by rw [U.len];exact U.Yu,fun k m c hc=>?_,fun x hx=>?_,fun k hk=>?_⟩
 ·rw [hB];by_cases e:k=n
  ·subst e;exact⟨hn,he m c hc⟩
  ·rw [U.oc k e] at hc;obtain⟨q1,q2⟩:=R.cn k m c hc;exact⟨q1,q2.elim .inl fun z=>.inr (z.elim .inl fun y=>.inr (he2 m k e y))⟩
 ·rw [hB];by_cases e:x.name=n
  ·rw [e];exact hn
  ·rcases List.mem_append.1 hx with z | z
   ·exact absurd (ZgH x z) e
   ·have:x ∈ QS w' x.name:=List.mem_filter.2 ⟨z,by simp⟩;rw [U.on _ e] at this;exact R.nn x (List.mem_append_right _ (List.mem_filter.1 this).1)
 ·rw [hB] at hk;rw [U.len];by_cases e:k=n
  ·subst e;rw [Kr ZgH];exact hm
  ·obtain⟨h,H⟩:=R.nm k hk;refine⟨h,?_⟩;rw [U.oc k e,U.on k e,Zk1 fun x hx z=>e (z.symm.trans (ZgH x hx))];rw [Zk1 fun x hx z=>e (z.symm.trans (hfl x hx))] at H;exact H
theorem Mw.upd (Mx:Mw w fl) (U:Upd w w' n) (hfl:∀ x ∈ fl,x.name=n) (ZgH:∀ x ∈ fl',x.name=n)
 (hm:Mst w.cells.length (YO w' n) (fl' ++ QS w' n)):Mw w' fl':=by
 intro k hk;rw [Zb7 U.nms U.fre] at hk;rw [U.len];by_cases e:k=n
 ·subst e;rw [Kr ZgH];exact hm
 ·have:=Mx k hk;rw [U.oc k e,U.on k e,Zk1 fun x hx z=>e (z.symm.trans (ZgH x hx))];rw [Zk1 fun x hx z=>e (z.symm.trans (hfl x hx))] at this;exact this
theorem Zj5 {m a:Nat} {r:Row} (hm:m < w.cells.length) (k:Int):cellOf (cw w m r) a k=if a=m then Ul r k else cellOf w a k:=by
 rw [Y5,Y5];by_cases e:a=m
 ·subst e;rw [if_pos rfl,Qq hm]
 ·rw [if_neg e,Uy e]
theorem Qg {m:Nat} (hm:m < w.cells.length) (Yu:∀ m,m < w.cells.length ->J9 (rowOf w m)) {c:Za} (hc:c.name=n):
 Upd w (cw w m (put c (rowOf w m))) n∧YO (cw w m (put c (rowOf w m))) n=Yx (YO w n) m (some c)∧QS (cw w m (put c (rowOf w m))) n=QS w n:=by
 have key:∀ k a,YO (cw w m (put c (rowOf w m))) k a=if a=m∧k=n then some c else YO w k a:=by
  intro k a;unfold YO;rw [Yd];by_cases hr:0 <=a∧a < (w.cells.length:Int)
  ·rw [if_pos hr,if_pos hr,Zj5 hm];by_cases e:a=m
   ·have:a.toNat=m:=by omega
    rw [if_pos this,Zaj _ (Yu m hm),hc,Y5,this];by_cases ek:k=n
    ·rw [if_pos ek,if_pos ⟨e,ek⟩]
    ·rw [if_neg ek,if_neg (fun z=>ek z.2)]
   ·have:¬ a.toNat=m:=by omega
    rw [if_neg this,if_neg (fun z=>e z.1)]
  ·rw [if_neg hr,if_neg hr,if_neg (by rintro⟨z,_⟩;subst z;omega)]
 refine⟨⟨Yd,rfl,rfl,fun a ha=>?_,fun k hk=>?_,fun k hk=>rfl⟩,?_,rfl⟩
 ·by_cases e:a=m
  ·subst e;rw [Qq hm];exact(Yu a hm).put
  ·rw [Uy e];exact Yu a ha
 ·funext a;rw [key,if_neg (fun z=>hk z.2)]
 ·funext a;rw [key];unfold Yx;by_cases e:a=m
  ·rw [if_pos ⟨e,rfl⟩,if_pos e]
  ·rw [if_neg (fun z=>e z.1),if_neg e]
theorem Zkt {m:Nat} (hm:m < w.cells.length) (Yu:∀ m,m < w.cells.length ->J9 (rowOf w m)):
 Upd w (cw w m (rmv n (rowOf w m))) n∧YO (cw w m (rmv n (rowOf w m))) n=Yx (YO w n) m none∧QS (cw w m (rmv n (rowOf w m))) n=QS w n:=by
 have key:∀ k a,YO (cw w m (rmv n (rowOf w m))) k a=if a=m∧k=n then none else YO w k a:=by
  intro k a;unfold YO;rw [Yd];by_cases hr:0 <=a∧a < (w.cells.length:Int)
  ·rw [if_pos hr,if_pos hr,Zj5 hm];by_cases e:a=m
   ·have:a.toNat=m:=by omega
    rw [if_pos this,Zqf,Y5,this];by_cases ek:k=n
    ·rw [if_pos ek,if_pos ⟨e,ek⟩]
    ·rw [if_neg ek,if_neg (fun z=>ek z.2)]
   ·have:¬ a.toNat=m:=by omega
    rw [if_neg this,if_neg (fun z=>e z.1)]
  ·rw [if_neg hr,if_neg hr];split <;> rfl
 refine⟨⟨Yd,rfl,rfl,fun a ha=>?_,fun k hk=>?_,fun k hk=>rfl⟩,?_,rfl⟩
 ·by_cases e:a=m
  ·subst e;rw [Qq hm];exact(Yu a hm).rmv n
  ·rw [Uy e];exact Yu a ha
 ·funext a;rw [key,if_neg (fun z=>hk z.2)]
 ·funext a;rw [key];unfold Yx;by_cases e:a=m
  ·rw [if_pos ⟨e,rfl⟩,if_pos e]
  ·rw [if_neg (fun z=>e z.1),if_neg e]
theorem Zd9 (Yu:∀ m,m < w.cells.length ->J9 (rowOf w m)) {x:Zd} (hx:x.name=n):Upd w (sent w x) n∧YO (sent w x) n=YO w n∧QS (sent w x) n=QS w n ++ [x]:=by
 refine⟨⟨rfl,rfl,rfl,Yu,fun k hk=>rfl,fun k hk=>?_⟩,rfl,?_⟩
 ·unfold QS sent;rw [List.filter_append]
  have: [x].filter (fun x=>x.name==k)= []:=by
   rw [List.filter_eq_nil_iff];intro y hy;rw [List.mem_singleton.1 hy];simp;exact fun z=>hk (z.symm.trans hx)
  rw [this,List.append_nil]
 ·unfold QS sent;rw [List.filter_append]
  have: [x].filter (fun x=>x.name==n)= [x]:=by
   rw [List.filter_eq_self];intro y hy;rw [List.mem_singleton.1 hy];simp;exact hx
  rw [this]
theorem Zfg {m:Nat} (hm:m < w.cells.length) (n:Int):look (rowOf w m) n=Zai n (YO w n) m:=by
 unfold Zai;rw [Q5 hm];rfl
theorem Mst.put {M:Nat} {cv:CV} {ns ns':List Zd} (Mx:Mst M cv ns) {m:Int} {d:Za} (h:∀ a:Int,0 <=a ->a < M ->(if a=m then d.out else X0 (cv a)) + YM (YP a) ns' <=X0 (cv a) + YM (YP a) ns):Mst M (Yx cv m (some d)) ns':=by
 intro a a0 a1;have h1:=h a a0 a1;have h2:=Mx a a0 a1;unfold J7 at h2 ⊢;have:X0 (Yx cv m (some d) a)=if a=m then d.out else X0 (cv a):=by unfold Yx;split <;> rfl
 omega
theorem ZcH {m:Int} (R:Rx w (fun a k=>a=m∧k=n) []) (Mx:Mw w []) {m':Nat} (hmm:(m':Int)=m) (hm:m' < w.cells.length) {c:Za} (hc:YO w n m=some c):
 Rx (Xd w m' n c) Ka []∧Mw (Xd w m' n c) []:=by
 have hn:= (R.cn n m c hc).1;have hcn:=Qu (Qd hc).2;obtain⟨h,H⟩:=R.nm n hn;have H:Nm w.cells.length n (YO w n) (QS w n) h:=H;have hMx:=Mx n hn;have hMx:Mst w.cells.length (YO w n) (QS w n):=hMx;unfold Xd;cases hu:(c.use || (c.out !=0))
 ·rw [cond_false];have hu1:c.use=false:=by cases q:c.use;rfl;rw [q] at hu;cases hu
  have hu2:c.out=0:=by rw [hu1,Bool.false_or] at hu;simpa using hu
  obtain⟨U,V1,V2⟩:=Zkt (n:=n) hm R.Yu
  have hout:∀ a,X0 (Yx (YO w n) m none a)=X0 (YO w n a):=by
   intro a;unfold Yx;split
   ·rename_i e;rw [e,hc];simp [X0,hu2]
   ·rfl
  rw [hmm] at V1
  have ZD7:∀ a d,YO (cw w m' (rmv n (rowOf w m'))) n a=some d ->d.use=true∨d.out ≠ 0∨Ka a n:=by
   intro a d hd;rw [V1] at hd;unfold Yx at hd;split at hd
   ·cases hd
   ·rename_i e;rcases(R.cn n a d hd).2 with z | z | z
    ·exact .inl z
    ·exact .inr (.inl z)
    ·exact absurd z.1 e
  cases hr:c.root
  ·simp only [cond_false];cases hf:decide (c.from_ >=0)
   ·rw [cond_false];show Rx (cw w m' (rmv n (rowOf w m'))) Ka []∧Mw (cw w m' (rmv n (rowOf w m'))) [];have hf':¬ 0 <=c.from_:=by simpa using hf
    refine⟨R.upd U hn (by simp) (by simp) ZD7 (fun a k hk z=>absurd z.2 hk) ⟨h,?_⟩,Mx.upd U (by simp) (by simp) ?_⟩
    ·have:=H.gone hc hu2 hr (ys:= []) (by rw [if_neg hf']);rw [List.append_nil] at this;rw [V1];exact this
    ·intro a a0 a1;have:=hMx a a0 a1;rw [V1];show X0 (Yx (YO w n) m none a) + YM (YP a) (QS w n) <=1000000;rw [hout];exact this
   ·rw [cond_true];show Rx (sent (cw w m' (rmv n (rowOf w m'))) ⟨2,c.from_,n,0,c.has⟩) Ka []∧Mw (sent (cw w m' (rmv n (rowOf w m'))) ⟨2,c.from_,n,0,c.has⟩) []
    have hf':0 <=c.from_:=by simpa using hf
    obtain⟨U2,W1,W2⟩:=Zd9 (w:=cw w m' (rmv n (rowOf w m'))) (n:=n) (x:= ⟨2,c.from_,n,0,c.has⟩) (fun a ha=>U.Yu a (by rw [← U.len];exact ha)) rfl;rw [V1] at W1;refine⟨R.upd (U.trans U2) hn (by simp) (by simp) (fun a d hd=>ZD7 a d (by rw [V1,← W1];exact hd)) (fun a k hk z=>absurd z.2 hk) ⟨h,?_⟩,Mx.upd (U.trans U2) (by simp) (by simp) ?_⟩
    ·have:=H.gone hc hu2 hr (ys:= [⟨2,c.from_,n,0,c.has⟩]) (by rw [if_pos hf']);rw [W1,W2];exact this
    ·intro a a0 a1;have:=hMx a a0 a1;rw [W1,W2];show X0 (Yx (YO w n) m none a) + YM (YP a) (QS w n ++ [⟨2,c.from_,n,0,c.has⟩]) <=1000000
     rw [hout,Xn,Qo,ZcL rfl];unfold J7 at this;omega
  ·simp only [cond_true];obtain⟨e1,e2⟩:=H.last hc hu2 hr;have hnr:0 <=n∧n < w.names:=by have:=hn;unfold Z6 at this;simp at this;exact this.1
   have hnf:n ∉ w.freed:=by
    have:=hn;unfold Z6 at this;simp at this;exact fun z=>this.2 n z rfl
   have hmem:∀ x,x ∈ Jp n w.freed↔x=n∨x ∈ w.freed:=by
    intro x
    constructor
    ·exact Zel
    ·intro hx
     have key:∀ l:List Int,x=n∨x ∈ l ->x ∈ Jp n l:=by
      intro l
      induction l with
      | nil=>intro z;rcases z with z | z;subst z;simp [Jp];simp at z
      | cons y l ih=>
        intro z;unfold Jp;split
        ·simp only [List.mem_cons] at z ⊢;omega
        ·simp only [List.mem_cons] at z ⊢;rcases z with z | z | z
         ·exact .inr (ih (.inl z))
         ·exact .inl z
         ·exact .inr (ih (.inr z))
     exact key _ hx
   have hB:∀ k,Z6 ⟨w.cells.set m' (rmv n (rowOf w m')),w.notes,w.names,Jp n w.freed⟩ k= (Z6 w k && !(k==n)):=by
    intro k;unfold Z6;dsimp only
    have:((Jp n w.freed).any fun y=>y==k)= ((w.freed.any fun y=>y==k) || (k==n)):=by
     rw [Bool.eq_iff_iff,Bool.or_eq_true,List.any_eq_true,List.any_eq_true];simp only [beq_iff_eq,hmem]
     constructor
     ·rintro⟨x,z | z,rfl⟩
      ·exact .inr z
      ·exact .inl ⟨x,z,rfl⟩
     ·rintro(⟨x,z,rfl⟩ | z)
      ·exact⟨x,.inr z,rfl⟩
      ·exact⟨n,.inl rfl,z.symm⟩
    rw [this];cases decide (0 <=k) <;> cases decide (k < w.names) <;> cases (w.freed.any fun y=>y==k) <;> cases (k==n) <;> rfl
   have key:∀ k,YO ⟨w.cells.set m' (rmv n (rowOf w m')),w.notes,w.names,Jp n w.freed⟩ k=if k=n then(fun _=>none) else YO w k:=by
    intro k;by_cases e:k=n
    ·subst e;rw [if_pos rfl];show YO (cw w m' (rmv k (rowOf w m'))) k=_;rw [V1];funext a;unfold Yx;split
     ·rfl
     ·rename_i z;exact e1 a z
    ·rw [if_neg e];exact U.oc k e
   refine⟨⟨by show 1 <= (w.cells.set _ _).length;rw [List.length_set];exact R.c1,by show(w.cells.set _ _).length <=6;rw [List.length_set];exact R.c6,R.n0,R.n12,?_,?_,?_,?_,?_,?_⟩,?_⟩
   ·have q1:∀ l:List Int,l.Pairwise (· < ·) ->n ∉ l ->(Jp n l).Pairwise (· < ·):=by
     intro l
     induction l with
     | nil=>intro _ _;simp [Jp]
     | cons y l ih=>
       intro p q;rw [List.pairwise_cons] at p;unfold Jp;split
       ·rename_i hyx;rw [List.pairwise_cons,List.pairwise_cons];refine⟨fun z hz=>?_,p⟩;rcases List.mem_cons.1 hz with rfl | hz
        ·exact hyx
        ·have:=p.1 z hz;omega
       ·rename_i hyx;have hne:n ≠ y:=fun z=>q (by rw [z];simp)
        rw [List.pairwise_cons];refine⟨fun z hz=>?_,ih p.2 fun z=>q (by simp [z])⟩;rcases Zel hz with rfl | hz
        ·omega
        ·exact p.1 z hz
    exact q1 _ R.fr hnf
   ·intro x hx;rcases(hmem x).1 hx with z | z
    ·subst z;exact hnr
    ·exact R.frr x z
   ·intro a ha;have ha:a < w.cells.length:=by simpa using ha
    exact U.Yu a ha
   ·intro k a d hd;rw [key] at hd;split at hd
    ·cases hd
    ·rename_i hk;obtain⟨q1,q2⟩:=R.cn k a d hd;refine⟨by rw [hB,q1];simp [hk],?_⟩;rcases q2 with z | z | z
     ·exact .inl z
     ·exact .inr (.inl z)
     ·exact absurd z.2 hk
   ·intro x hx;have hx:x ∈ w.notes:=hx
    have hne:x.name ≠ n:=by
     intro z;have:x ∈ QS w n:=List.mem_filter.2 ⟨hx,by simp [z]⟩;rw [e2] at this;simp at this
    rw [hB,R.nn x (by simpa using hx)];simp [hne]
   ·intro k hk;rw [hB] at hk;simp at hk;obtain⟨h',H'⟩:=R.nm k hk.1;refine⟨h',?_⟩;rw [key,if_neg hk.2];show Nm (w.cells.set _ _).length k (YO w k) (QS w k) h';rw [List.length_set];exact H'
   ·intro k hk;rw [hB] at hk;simp at hk;have:=Mx k hk.1;rw [key,if_neg hk.2];show Mst (w.cells.set _ _).length (YO w k) (QS w k);rw [List.length_set];exact this
 ·rw [cond_true];refine⟨{R with cn:=fun k a d hd=>?_},Mx⟩;obtain⟨q1,q2⟩:=R.cn k a d hd;refine⟨q1,?_⟩;rcases q2 with z | z | ⟨z1,z2⟩
  ·exact .inl z
  ·exact .inr (.inl z)
  ·subst z1 z2;rw [hc] at hd;cases hd;rw [Bool.or_eq_true] at hu;rcases hu with z | z
   ·exact .inl z
   ·exact .inr (.inl (by simpa using z))
end
end Go.Proofs.Ytekpjgmhkkjhgaa
end
section
namespace Go.Proofs.Ytekpjgmhkkjhgaa
open Go.Lf
section
variable {w w':Zb} {n:Int}
theorem Nm.most {M:Nat} {cv:CV} {ns:List Zd} {h:Int} (H:Nm M n cv ns h) (Mx:Mst M cv ns):
 (∀ m c,cv m=some c ->-16 <=c.out∧c.out <=1000000∧0 <=c.has∧c.has <=1000000)∧∀ x ∈ ns,1 <=x.w∧x.w <=1000000:=by
 refine⟨fun m c hc=>?_,fun x hx=>?_⟩
 ·have hr:=H.rng m c hc;have h1:=Mx m hr.1 hr.2;have h2:=H.ZhD hc;rw [H.giv,hc] at h1;simp only [X0] at h1;refine⟨h2.1,by split at h1 <;> omega,?_⟩;rcases H.cel m c hc with z | z
  ·have:=H.ZcQ hc z.2.1;have:=H.acc c.from_ z.2.1 z.2.2.1;have:=Mx c.from_ z.2.1 z.2.2.1;omega
  ·omega
 ·have hx':=H.KJ x hx;refine⟨hx'.2.2.1,?_⟩;rcases hx'.2.2.2 with z | z | z
  ·have h1:=H.UC z.2.1 hx;rw [Wv z.1,if_pos rfl] at h1;have:=H.acc _ z.2.1 z.2.2;have:=Mx _ z.2.1 z.2.2;omega
  ·have h1:=H.UC hx'.1.1 hx;rw [Zbn z.1,if_pos rfl] at h1;have:=H.acc _ hx'.1.1 hx'.1.2;have:=Mx _ hx'.1.1 hx'.1.2;omega
  ·omega
theorem Zgj {M:Nat} {cv:CV} {ns:List Zd} {h:Int} (H:Nm M n cv ns h) (Mx:Mst M cv ns) (m:Int):-16 <= (Zai n cv m).out∧(Zai n cv m).out <=1000000∧0 <= (Zai n cv m).has∧(Zai n cv m).has <=1000000:=by
 unfold Zai;cases e:cv m with
 | none=>simp [Zvg]
 | some c=>exact(H.most Mx).1 m c e
theorem Zdw {fl fl':List Zd} {ex ex':Int ->Int ->Prop} (R:Rx w ex fl) (Mx:Mw w fl) (hn:Z6 w n=true) (hfl:∀ x ∈ fl,x.name=n) (ZgH:∀ x ∈ fl',x.name=n) {m:Int} {m':Nat} (hmm:(m':Int)=m) (hm:m' < w.cells.length) {d:Za} (hd:d.name=n)
 (he:d.use=true∨d.out ≠ 0∨ex' m n) (he2:∀ a k,(k ≠ n∨a ≠ m) ->ex a k ->ex' a k)
 (hN:∃ h,Nm w.cells.length n (Yx (YO w n) m (some d)) (fl' ++ QS w n) h)
 (hM:∀ a:Int,0 <=a ->a < w.cells.length ->(if a=m then d.out else X0 (YO w n a)) + YM (YP a) (fl' ++ QS w n) <=X0 (YO w n a) + YM (YP a) (fl ++ QS w n)):
 Rx (cw w m' (put d (rowOf w m'))) ex' fl'∧Mw (cw w m' (put d (rowOf w m'))) fl'∧YO (cw w m' (put d (rowOf w m'))) n m=some d:=by
 obtain⟨U,V1,V2⟩:=Qg hm R.Yu hd;rw [hmm] at V1;refine⟨R.upd U hn hfl ZgH (fun a c hc=>?_) (fun a k hk=>he2 a k (.inl hk)) ?_,Mx.upd U hfl ZgH ?_,by rw [V1,Wj]⟩
 ·rw [V1] at hc;unfold Yx at hc;split at hc
  ·rename_i e;cases hc;rw [e];exact he
  ·rename_i e;rcases(R.cn n a c hc).2 with z | z | z
   ·exact .inl z
   ·exact .inr (.inl z)
   ·exact .inr (.inr (he2 a n (.inr e) z))
 ·rw [V1,V2];exact hN
 ·rw [V1,V2];have:=Mx n hn;rw [Kr hfl] at this;exact this.put hM
theorem Zwd {fl fl':List Zd} {ex:Int ->Int ->Prop} (R:Rx w ex fl) (Mx:Mw w fl) (hn:Z6 w n=true) (hfl:∀ x ∈ fl,x.name=n) (ZgH:∀ x ∈ fl',x.name=n) {y:Zd} (hy:y.name=n)
 (hN:∃ h,Nm w.cells.length n (YO w n) (fl' ++ (QS w n ++ [y])) h)
 (hM:∀ a:Int,0 <=a ->a < w.cells.length ->YM (YP a) (fl' ++ (QS w n ++ [y])) <=YM (YP a) (fl ++ QS w n)):
 Rx (sent w y) ex fl'∧Mw (sent w y) fl':=by
 obtain⟨U,V1,V2⟩:=Zd9 R.Yu hy;refine⟨R.upd U hn hfl ZgH (fun a c hc=>?_) (fun a k hk z=>z) ?_,Mx.upd U hfl ZgH ?_⟩
 ·rw [V1] at hc;exact(R.cn n a c hc).2
 ·rw [V1,V2];exact hN
 ·rw [V1,V2];have:=Mx n hn;rw [Kr hfl] at this;intro a a0 a1;have h1:=this a a0 a1;have h2:=hM a a0 a1;unfold J7 at h1 ⊢;omega
theorem WH (m:Nat) (n:Int) (c:Za):(Xd w m n c).notes.length <=w.notes.length + 1∧(Xd w m n c).cells.length=w.cells.length∧(Xd w m n c).names=w.names∧(c.root=true ->(Xd w m n c).notes.length=w.notes.length):=by
 unfold Xd;cases (c.use || (c.out !=0))
 ·simp only [cond_false,List.length_set,true_and];cases c.root
  ·cases decide (c.from_ >=0) <;> simp
  ·simp
 ·simp
theorem Uh {m:Nat} (hm:m < w.cells.length) (Yu:J9 (rowOf w m)) {d:Za} (hd:d.name=n):look (rowOf (cw w m (put d (rowOf w m))) m) n=d:=Qs (Zfp hm Yu hd)
theorem Zny {x:Zd} (R:Rx w Ka [x]) (Mx:Mw w [x]):
 Rx (Qe w x) Ka []∧Mw (Qe w x) []∧(Qe w x).notes.length <=w.notes.length + 1∧(Qe w x).cells.length=w.cells.length∧(Qe w x).names=w.names:=by
 have hn:=R.nn x (by simp);obtain⟨n,hxn⟩:∃ n,x.name=n:= ⟨_,rfl⟩
 rw [hxn] at hn;have hfl:∀ y ∈ [x],y.name=n:=by simp [hxn]
 have hno:∀ y ∈ ([]:List Zd),y.name=n:=by simp
 obtain⟨h,H⟩:=R.nm n hn;rw [Kr hfl] at H;have hMx:=Mx n hn;rw [Kr hfl] at hMx;have H:Nm w.cells.length n (YO w n) (x::QS w n) h:=H;have hx:=H.KJ x (by simp);have hxw:= (H.most hMx).2 x (by simp);obtain⟨m',hm'⟩:∃ m',x.Zy.toNat=m':= ⟨_,rfl⟩
 have hmm:(m':Int)=x.Zy:=by omega
 have hm:m' < w.cells.length:=by omega
 have L:=H.look x.Zy;have S:=Zgj H hMx x.Zy;have KQ:look (rowOf w m') n=Zai n (YO w n) x.Zy:=by rw [Zfg hm,hmm]
 unfold Qe;rw [hm',hxn];dsimp only;obtain⟨c,hc⟩:∃ c,Zai n (YO w n) x.Zy=c:= ⟨_,rfl⟩
 rw [hc] at L S KQ;rw [KQ];have hsrt:=R.Yu m' hm;cases k1:(x.kind==1)
 ·rw [cond_false];cases k2:(x.kind==2)
  ·-- the root
   rw [cond_false]
   have k3:x.kind=3:=by
    rcases hx.2.2.2 with z | z | z
    ·rw [z.1] at k1;cases k1
    ·rw [z.1] at k2;cases k2
    ·exact z.1
   have hh:x.Zy=h:=by rcases hx.2.2.2 with z | z | z <;> omega
   rw [YL (n:=c.out + 16) (by omega) (by omega)]
   have hG:∀ a:Int,(if a=x.Zy then(c.out + 16) else X0 (YO w n a)) + YM (YP a) (QS w n) <=X0 (YO w n a) + YM (YP a) (x::QS w n):=by
    intro a;simp only [YM,ZgS k3];by_cases z:a=x.Zy
    ·rw [if_pos z,if_pos z.symm,z,L.out];omega
    ·rw [if_neg z,if_neg (by omega)];omega
   cases hf:decide (c.from_ >=0)
   ·simp only [cond_false];have hf':¬ 0 <=c.from_:=by simpa using hf
    rw [Uh hm hsrt (by exact L.nam)];have:=H.home k3 L c.use (ys:= []) (by rw [if_neg hf']);rw [List.append_nil] at this;obtain⟨P1,P2,P3⟩:=Zdw (ex':=fun a k=>a=x.Zy∧k=n) R Mx hn hfl hno hmm hm (d:= ⟨c.name,true,-1,0,c.out + 16,c.use⟩) L.nam (.inr (.inr ⟨rfl,rfl⟩)) (fun a k _ z=>z.elim) ⟨h,this⟩ (fun a _ _=>hG a);obtain⟨Q1,Q2⟩:=ZcH P1 P2 hmm (by rw [Yd];exact hm) P3;have Q3:=WH (w:=cw w m' (put ⟨c.name,true,-1,0,c.out + 16,c.use⟩ (rowOf w m'))) m' n ⟨c.name,true,-1,0,c.out + 16,c.use⟩;exact⟨Q1,Q2,Q3.1,Q3.2.1.trans Yd,Q3.2.2.1⟩
   ·simp only [cond_true];have hf':0 <=c.from_:=by simpa using hf
    have hce:c.root=false∧0 <=c.from_∧c.from_ < w.cells.length∧c.from_ ≠ x.Zy∧1 <=c.has:=by rcases L.cel with z | z;exact z;omega
    have hb:Xp (cw w m' (put ⟨c.name,true,-1,0,c.out + 16,c.use⟩ (rowOf w m'))) m' n c.from_ c.has=sent (cw w m' (put ⟨c.name,true,-1,0,c.out + 16,c.use⟩ (rowOf w m'))) ⟨2,c.from_,n,0,c.has⟩:=by
     unfold Xp;have:(c.from_ != (m':Int))=true:=by simp;omega
     rw [this,cond_true]
    rw [hb];have hrow:rowOf (sent (cw w m' (put ⟨c.name,true,-1,0,c.out + 16,c.use⟩ (rowOf w m'))) ⟨2,c.from_,n,0,c.has⟩) m'=rowOf (cw w m' (put ⟨c.name,true,-1,0,c.out + 16,c.use⟩ (rowOf w m'))) m':=rfl;rw [hrow,Uh hm hsrt (by exact L.nam)];have hH:=H.home k3 L c.use (ys:= [⟨2,c.from_,n,0,c.has⟩]) (by rw [if_pos hf']);obtain⟨U,V1,V2⟩:=Qg (n:=n) hm R.Yu (c:= ⟨c.name,true,-1,0,c.out + 16,c.use⟩) L.nam;obtain⟨U2,W1,W2⟩:=Zd9 (w:=cw w m' (put ⟨c.name,true,-1,0,c.out + 16,c.use⟩ (rowOf w m'))) (n:=n) (x:= ⟨2,c.from_,n,0,c.has⟩) (fun a ha=>U.Yu a (by rw [← U.len];exact ha)) rfl;rw [hmm] at V1
    have P1:Rx (sent (cw w m' (put ⟨c.name,true,-1,0,c.out + 16,c.use⟩ (rowOf w m'))) ⟨2,c.from_,n,0,c.has⟩) (fun a k=>a=x.Zy∧k=n) []:=by
     refine R.upd (U.trans U2) hn hfl hno (fun a d hd=>?_) (fun _ _ _ z=>z.elim) ⟨h,?_⟩
     ·rw [W1,V1] at hd;unfold Yx at hd;split at hd
      ·rename_i e;exact .inr (.inr ⟨e,rfl⟩)
      ·rcases(R.cn n a d hd).2 with z | z | z
       ·exact .inl z
       ·exact .inr (.inl z)
       ·exact z.elim
     ·rw [W1,V1,W2,V2];exact hH
    have P2:Mw (sent (cw w m' (put ⟨c.name,true,-1,0,c.out + 16,c.use⟩ (rowOf w m'))) ⟨2,c.from_,n,0,c.has⟩) []:=by
     refine Mx.upd (U.trans U2) hfl hno ?_;rw [W1,V1,W2,V2];refine hMx.put fun a _ _=>?_
     have:=hG a;rw [List.nil_append,Xn,Qo,ZcL rfl];show(if a=x.Zy then(c.out + 16) else X0 (YO w n a)) + _ <=_ + YM (YP a) (x::QS w n);omega
    have P3:YO (sent (cw w m' (put ⟨c.name,true,-1,0,c.out + 16,c.use⟩ (rowOf w m'))) ⟨2,c.from_,n,0,c.has⟩) n x.Zy=some ⟨c.name,true,-1,0,c.out + 16,c.use⟩:=by
     rw [W1,V1,Wj]
    obtain⟨Q1,Q2⟩:=ZcH P1 P2 hmm (by show m' < (cw _ _ _).cells.length;rw [Yd];exact hm) P3;have Q3:=WH (w:=sent (cw w m' (put ⟨c.name,true,-1,0,c.out + 16,c.use⟩ (rowOf w m'))) ⟨2,c.from_,n,0,c.has⟩) m' n ⟨c.name,true,-1,0,c.out + 16,c.use⟩;refine⟨Q1,Q2,?_,Q3.2.1.trans Yd,Q3.2.2.1⟩;rw [Q3.2.2.2 rfl];show(w.notes ++ [_]).length <=_;simp
  ·-- weight
   rw [cond_true];have k2':x.kind=2:=by simpa using k2
   rw [YL (n:=c.out - x.w) (by omega) (by omega)];have:=H.ZjO (.inr k2') L c.use
   obtain⟨P1,P2,P3⟩:=Zdw (ex':=fun a k=>a=x.Zy∧k=n) R Mx hn hfl hno hmm hm (d:= ⟨c.name,c.root,c.from_,c.has,c.out - x.w,c.use⟩) L.nam (.inr (.inr ⟨rfl,rfl⟩)) (fun a k _ z=>z.elim) ⟨h,this⟩ (fun a _ _=>by
    simp only [List.nil_append,List.cons_append,YM,ZcL k2'];by_cases z:a=x.Zy
    ·rw [if_pos z,z,L.out];omega
    ·rw [if_neg z];omega)
   obtain⟨Q1,Q2⟩:=ZcH P1 P2 hmm (by rw [Yd];exact hm) P3;have Q3:=WH (w:=cw w m' (put ⟨c.name,c.root,c.from_,c.has,c.out - x.w,c.use⟩ (rowOf w m'))) m' n ⟨c.name,c.root,c.from_,c.has,c.out - x.w,c.use⟩;exact⟨Q1,Q2,Q3.1,Q3.2.1.trans Yd,Q3.2.2.1⟩
 ·rw [cond_true];have k1':x.kind=1:=by simpa using k1
  have hvr:0 <=x.via∧x.via < w.cells.length:=by rcases hx.2.2.2 with z | z | z <;> omega
  cases g1:((!c.root && (c.from_==-1)) && (x.via !=x.Zy))
  ·rw [cond_false];cases g2:((!c.root && decide (c.from_ >=0)) && (c.from_==x.via))
   ·rw [cond_false];by_cases hv:x.via=x.Zy
    ·have hb:Xp (cw w m' (put ⟨c.name,c.root,c.from_,c.has,c.out,true⟩ (rowOf w m'))) m' n x.via x.w=cw w m' (put ⟨c.name,c.root,c.from_,c.has,c.out - x.w,true⟩ (rowOf w m')):=by
      unfold Xp;have:(x.via != (m':Int))=false:=by simp;omega
      rw [this,cond_false,Uh hm hsrt (by exact L.nam),Zzj,Qq hm,ZpM hsrt (by rfl),YL (n:=c.out - x.w) (by omega) (by omega)]
     rw [hb];have:=H.ZjO (.inl ⟨k1',hv⟩) L true
     obtain⟨P1,P2,P3⟩:=Zdw (ex':=Ka) R Mx hn hfl hno hmm hm (d:= ⟨c.name,c.root,c.from_,c.has,c.out - x.w,true⟩) L.nam (.inl rfl) (fun a k _ z=>z.elim) ⟨h,this⟩ (fun a _ _=>by
      simp only [List.nil_append,List.cons_append,YM,Ww k1'];by_cases z:a=x.Zy
      ·rw [if_pos z,z,L.out];omega
      ·rw [if_neg z];omega)
     exact⟨P1,P2,by show w.notes.length <=_;omega,Yd,rfl⟩
    ·have hce:YO w n x.Zy=some c:=by
      rcases L.or with z | ⟨z1,z2,z3,z4⟩
      ·exact z
      ·rw [z2,z3] at g1;simp at g1;exact absurd g1 hv
     have hb:Xp (cw w m' (put ⟨c.name,c.root,c.from_,c.has,c.out,true⟩ (rowOf w m'))) m' n x.via x.w=sent (cw w m' (put ⟨c.name,c.root,c.from_,c.has,c.out,true⟩ (rowOf w m'))) ⟨2,x.via,n,0,x.w⟩:=by
      unfold Xp;have:(x.via != (m':Int))=true:=by simp;omega
      rw [this,cond_true]
     rw [hb];have hH:=H.use hce true
     obtain⟨P1,P2,P3⟩:=Zdw (ex':=Ka) R Mx hn hfl hfl hmm hm (d:= ⟨c.name,c.root,c.from_,c.has,c.out,true⟩) L.nam (.inl rfl) (fun a k _ z=>z.elim) ⟨h,hH⟩ (fun a _ _=>by
      by_cases z:a=x.Zy
      ·rw [if_pos z,z,L.out];exact Int.le_refl _
      ·rw [if_neg z];exact Int.le_refl _)
     obtain⟨U,V1,V2⟩:=Qg (n:=n) hm R.Yu (c:= ⟨c.name,c.root,c.from_,c.has,c.out,true⟩) L.nam;rw [hmm] at V1
     obtain⟨Q1,Q2⟩:=Zwd (n:=n) (y:= ⟨2,x.via,n,0,x.w⟩) P1 P2 (by rw [Zb7 U.nms U.fre];exact hn) hfl hno rfl (by
      rw [Yd,V1,V2];exact⟨h,hH.Zrr k1' rfl⟩) (fun a _ _=>by
      rw [V2,List.nil_append,Xn,Qo,ZcL rfl];simp only [List.cons_append,List.nil_append,YM,Ww k1'];omega)
     refine⟨Q1,Q2,?_,Yd,rfl⟩;show(w.notes ++ [_]).length <=_;simp
   ·rw [cond_true];simp at g2;rw [YL (n:=c.has + x.w) (by omega) (by omega)];have:=H.Zrq k1' L g2.1.2 g2.2 true
    obtain⟨P1,P2,P3⟩:=Zdw (ex':=Ka) R Mx hn hfl hno hmm hm (d:= ⟨c.name,c.root,c.from_,c.has + x.w,c.out,true⟩) L.nam (.inl rfl) (fun a k _ z=>z.elim) ⟨h,this⟩ (fun a _ _=>by
     simp only [List.nil_append,List.cons_append,YM,Ww k1'];by_cases z:a=x.Zy
     ·rw [if_pos z,z,L.out];omega
     ·rw [if_neg z];omega)
    exact⟨P1,P2,by show w.notes.length <=_;omega,Yd,rfl⟩
  ·rw [cond_true];simp at g1;have:=H.Zuw k1' L g1.1.1 g1.1.2 g1.2 true
   obtain⟨P1,P2,P3⟩:=Zdw (ex':=Ka) R Mx hn hfl hno hmm hm (d:= ⟨c.name,c.root,x.via,x.w,c.out,true⟩) L.nam (.inl rfl) (fun a k _ z=>z.elim) ⟨h,this⟩ (fun a _ _=>by
    simp only [List.nil_append,List.cons_append,YM,Ww k1'];by_cases z:a=x.Zy
    ·rw [if_pos z,z,L.out];omega
    ·rw [if_neg z];omega)
   exact⟨P1,P2,by show w.notes.length <=_;omega,Yd,rfl⟩
def Ur (w:Zb) (k:Nat):Zb:= ⟨w.cells,w.notes.take k ++ w.notes.drop (k + 1),w.names,w.freed⟩
theorem Zky (R:Rt w) {k:Nat} {x:Zd} (hk:w.notes[k]? =some x):Rx (Ur w k) Ka [x]∧Mw (Ur w k) [x]:=by
 obtain⟨hkl,hkx⟩:=List.getElem?_eq_some_iff.1 hk
 have K7:w.notes=w.notes.take k ++ x::w.notes.drop (k + 1):=by
  rw [← hkx,← List.drop_eq_getElem_cons hkl,List.take_append_drop]
 obtain⟨R0,M0⟩:=R.rx
 have hp:∀ n,(QS w n).Perm (flN n [x] ++ QS (Ur w k) n):=by
  intro n;unfold QS Ur flN
  conv=>lhs;rw [K7]
  rw [List.filter_append,List.filter_append,List.filter_cons,List.filter_cons];split
  ·exact List.perm_middle
  ·exact List.Perm.refl _
 have hmem:∀ y ∈ [x] ++ (Ur w k).notes,y ∈ w.notes:=by
  intro y hy;rw [K7];simp only [Ur,List.mem_append,List.mem_cons,List.mem_singleton,List.not_mem_nil,or_false] at hy ⊢;rcases hy with z | z | z
  ·exact .inr (.inl z)
  ·exact .inl z
  ·exact .inr (.inr z)
 refine⟨{R0 with nn:=fun y hy=>R0.nn y (by simpa using hmem y hy),nm:=fun n hn=>?_},fun n hn=>?_⟩
 ·obtain⟨h,H⟩:=R0.nm n hn;exact⟨h,H.perm (hp n)⟩
 ·have:=M0 n hn;intro a a0 a1;have:=this a a0 a1;unfold J7 at this ⊢;rw [← ZeU (hp n)];exact this
theorem Zvb (R:Rt w) {k:Nat} {x:Zd} (hk:w.notes[k]? =some x):Rt (Qe (Ur w k) x)∧(Qe (Ur w k) x).cells.length=w.cells.length∧(Qe (Ur w k) x).names=w.names:=by
 obtain⟨R0,M0⟩:=Zky R hk;obtain⟨q1,q2,q3,q4,q5⟩:=Zny R0 M0;obtain⟨hkl,_⟩:=List.getElem?_eq_some_iff.1 hk;refine⟨q1.rt q2 ?_,q4,q5⟩
 have:(Ur w k).notes.length=w.notes.length - 1:=by
  unfold Ur;simp;omega
 have:=R.KJ;omega
end
end Go.Proofs.Ytekpjgmhkkjhgaa
end
section
namespace Go.Proofs.Ytekpjgmhkkjhgaa
open Go.Lf
theorem ZjT (K:Nat):∀ {r:Row},J9 r ->r.filter (fun c=>decide (c.name < ((K + 1:Nat):Int)))=r.filter (fun c=>decide (c.name < (K:Int))) ++ (Ul r K).toList
 | [],_=>rfl
 | d::r,s=>by
   have hh:=s.head;rw [YF];by_cases h1:d.name < (K:Int)
   ·rw [List.filter_cons_of_pos (by simp;omega),List.filter_cons_of_pos (by simpa using h1),if_neg (by omega),ZjT K s.tail];rfl
   ·have h3:r.filter (fun c=>decide (c.name < (K:Int)))= []:=by
     rw [List.filter_eq_nil_iff];intro c hc;have:=hh c hc;simp;omega
    have h4:r.filter (fun c=>decide (c.name < ((K + 1:Nat):Int)))= []:=by
     rw [List.filter_eq_nil_iff];intro c hc;have:=hh c hc;simp;omega
    rw [List.filter_cons_of_neg (p:=fun c:Za=>decide (c.name < (K:Int))) (by simpa using h1),h3];by_cases h2:d.name= (K:Int)
    ·rw [List.filter_cons_of_pos (by simp;omega),h4,if_pos h2];rfl
    ·rw [List.filter_cons_of_neg (by simp;omega),h4,if_neg h2,Zci (by intro c hc;have:=hh c hc;omega)];rfl
def Zjo (a:Int) (c:Za) (s:List (List Za)):List (List Za):=s.set a.toNat ((s[a.toNat]?.getD []) ++ [c])
section
variable {w:Zb} {st:Store}
theorem Zpw {m:Nat} (Yu:J9 (rowOf w m)) (hn:∀ c ∈ rowOf w m,0 <=c.name) {s:List (List Za)} (hs:s[m]? =some []) (K:Nat):
 (List.range K).foldl (fun s n=>Jm w Zjo m n s) s=s.set m ((rowOf w m).filter fun c=>decide (c.name < (K:Int))):=by
 have hm:m < s.length:= (List.getElem?_eq_some_iff.1 hs).1
 induction K with
 | zero=>
   have:(rowOf w m).filter (fun c=>decide (c.name < ((0:Nat):Int)))= []:=by
    rw [List.filter_eq_nil_iff];intro c hc;have:=hn c hc;simp;omega
   rw [this,set_self hs];rfl
 | succ K ih=>
   rw [List.range_succ,List.foldl_append,ih];simp only [List.foldl_cons,List.foldl_nil];rw [ZjT K Yu];unfold Jm;rw [Y5];cases hf:Ul (rowOf w m) (K:Int) with
   | none=>simp
   | some c=>
     dsimp only;unfold Zjo;rw [Int.toNat_natCast,List.getElem?_set_self hm,List.set_set]
     rfl
theorem Zpv {N:Nat} (Yu:∀ m,m < w.cells.length ->J9 (rowOf w m)) (hn:∀ m,m < w.cells.length ->∀ c ∈ rowOf w m,0 <=c.name∧c.name < (N:Int)):
 (List.range w.cells.length).foldl (fun s m=>(List.range N).foldl (fun s n=>Jm w Zjo m n s) s) (List.replicate w.cells.length [])=w.cells:=by
 have key:∀ M,M <=w.cells.length ->((List.range M).foldl (fun s m=>(List.range N).foldl (fun s n=>Jm w Zjo m n s) s) (List.replicate w.cells.length [])).length=w.cells.length∧
  ∀ i,i < w.cells.length ->((List.range M).foldl (fun s m=>(List.range N).foldl (fun s n=>Jm w Zjo m n s) s) (List.replicate w.cells.length []))[i]? =some (if i < M then rowOf w i else []):=by
  intro M
  induction M with
  | zero=>intro _;simp;intro i hi;simp [hi]
  | succ M ih=>
    intro hM;obtain⟨i1,i2⟩:=ih (by omega);rw [List.range_succ,List.foldl_append];simp only [List.foldl_cons,List.foldl_nil];rw [Zpw (Yu M (by omega)) (fun c hc=>(hn M (by omega) c hc).1) (by rw [i2 M (by omega),if_neg (by omega)])]
    have hfull:(rowOf w M).filter (fun c=>decide (c.name < (N:Int)))=rowOf w M:=by
     rw [List.filter_eq_self];intro c hc;simpa using (hn M (by omega) c hc).2
    rw [hfull];refine⟨by rw [List.length_set,i1],fun i hi=>?_⟩;by_cases e:i=M
    ·subst e;rw [List.getElem?_set_self (by rw [i1];exact hi),if_pos (by omega)]
    ·rw [List.getElem?_set_ne (fun z=>e z.symm),i2 i hi];congr 1;by_cases z:i < M
     ·rw [if_pos z,if_pos (by omega)]
     ·rw [if_neg z,if_neg (by omega)]
 obtain⟨k1,k2⟩:=key w.cells.length (Nat.le_refl _);apply List.ext_getElem?;intro i;by_cases hi:i < w.cells.length
 ·rw [k2 i hi,if_pos hi,Qx hi]
 ·rw [List.getElem?_eq_none (by omega),List.getElem?_eq_none (by omega)]
theorem Szd.Zbf (n12:w.names <=12) {m:Nat} (Yu:J9 (rowOf w m)) (hn:∀ c ∈ rowOf w m,0 <=c.name∧c.name < w.names):(rowOf w m).length <=12:=by
 have h0:((rowOf w m).map fun c=>c.name).Pairwise (· < ·):=by rw [List.pairwise_map];exact Yu
 by_cases e:0 <=w.names
 ·have:=Za3 (b:=w.names) (a:=0) h0 (by
   intro x hx;obtain⟨c,hc,rfl⟩:=List.mem_map.1 hx;exact hn c hc) e
  rw [List.length_map] at this;omega
 ·cases h:rowOf w m with
  | nil=>simp
  | cons c r=>have:=hn c (by rw [h];simp);omega
theorem Zwc {F:Nat} (hF:1000 <=F) (sm:Small w) (sz:Szd w) (so:Qk w st) (Yu:∀ m,m < w.cells.length ->J9 (rowOf w m)) (hn:∀ m,m < w.cells.length ->∀ c ∈ rowOf w m,0 <=c.name∧c.name < w.names):Zm6 F st=some w:=by
 have hc:=sz.c6;have hno:=sm.notes;have hfr:=sm.freed;have h0:=sz.n0;have h12:=sz.n12;unfold Zm6 ZoW ZoV mkL;rw [so.m,so.notes,so.freed]
 have hb:(decide (0 <= (w.cells.length:Int)) && (decide ((w.cells.length:Int) <= (w.cells.length:Int)) && Nat.ble (24 * ((w.cells.length:Int)).toNat) 100000))=true:=by
  rw [Bool.and_eq_true,Bool.and_eq_true];refine⟨by simp,by simp,Nat.ble_eq_true_of_le (by omega)⟩
 rw [hb,cond_true,Option.bind_some,XT (by simp only [List.length_nil];omega) (by decide),XT (by simp only [List.length_nil];omega) (by decide)];simp only [Option.bind_some,List.nil_append,Int.toNat_natCast]
 obtain⟨h1,_⟩:=ZlQ hF sm sz so (z:=Za.mk 0 false 0 0 0 false) (fun i (s:List (List Za))=>s.length=w.cells.length∧∀ r ∈ s,r.length <=i) (fun i s h=>⟨h.1,fun r hr=>Nat.le_succ_of_le (h.2 r hr)⟩) (E:=ZfA st w.notes w.freed) (B1:=Zk9 F st w.notes w.freed) (B2:=Zk8 st w.notes w.freed)
  (Y:=fun a c s k=>(Yh s a).bind fun x66=>(app 48 x66 [c]).bind fun z74=>(Yh s a).bind fun x78=>k (Ju s a z74)) Zjo (fun v s next=>by simp only [Zk9]) (fun v0 next v s nx=>by
    simp only [Zk8];cases decide (v < st.names)
    ·rfl
    ·simp only [cond_true];rfl) (fun i a c s k ha hi hs=>by
    have hg:s[a]? =some (s[a]'(by omega)):=by simp
    have hl:(s[a]'(by omega)).length <=i:=hs.2 _ (List.getElem_mem _)
    have hset:Ju s (a:Int) (s[a]'(by omega) ++ [c])=Zjo a c s:=by
     unfold Ju Zjo;rw [Int.toNat_natCast,hg];rfl
    rw [ZU,hg,Option.bind_some,XT (by simp;omega) (by decide),Option.bind_some,Option.bind_some,hset];refine⟨rfl,?_,fun r hr=>?_⟩
    ·unfold Zjo;rw [List.length_set];exact hs.1
    ·unfold Zjo at hr;rcases List.mem_or_eq_of_mem_set hr with z | z
     ·exact Nat.le_succ_of_le (hs.2 r z)
     ·rw [z,Int.toNat_natCast,hg];simp;omega) (List.replicate w.cells.length []) ⟨by simp,by
    intro r hr;rw [List.mem_replicate] at hr;rw [hr.2];simp⟩
 have:=Zpv (w:=w) Yu (N:=w.names.toNat) (fun m hm c hc=>by have:=hn m hm c hc;omega);rw [h1,this];unfold ZfA;rw [so.n]
theorem Rt.small (R:Rt w):Small w:=by
 have:=R.c6;have:=R.KJ;have:=R.ZjS;have:=R.n12;refine⟨by omega,fun r hr=>?_,by omega,by omega⟩;obtain⟨m,hm⟩:=List.getElem?_of_mem hr;have hml:= (List.getElem?_eq_some_iff.1 hm).1;have e:r=rowOf w m:=by have:=Qx hml;rw [hm] at this;exact Option.some.inj this
 have:=Szd.Zbf R.n12 (R.Yu m hml) (fun c hc=>by have:= (R.cn m hml c hc).1;unfold Z6 at this;simp at this;exact this.1);rw [e];omega
theorem Rt.names (R:Rt w):∀ m,m < w.cells.length ->∀ c ∈ rowOf w m,0 <=c.name∧c.name < w.names:=fun m hm c hc=>by
 have:= (R.cn m hm c hc).1;unfold Z6 at this;simp at this;exact this.1
theorem Rt.shut {F:Nat} (hF:1000 <=F) (R:Rt w) (so:Qk w st):Zm6 F st=some w:=Zwc hF R.small R.shp.szd so R.Yu R.names
theorem Rt.open_ {F:Nat} (hF:1000 <=F) (R:Rt w):∃ st,Zja F w=some st∧Qk w st∧UK st.cells:=by
 obtain⟨cs,q1,q2⟩:=ZpR hF R.small R.shp;obtain⟨cs',q3,q4⟩:=Zwm hF R.small;rw [q1] at q3;have:cs=cs':=congrArg Store.cells (Option.some.inj q3);subst this;exact⟨_,q1,⟨rfl,rfl,rfl,rfl,q2⟩,q4⟩
theorem Rt.copy {F:Nat} (hF:1000 <=F) (R:Rt w) (so:Qk w st):∃ st',ZuF F st=some st'∧Qk w st'∧UK st'.cells:=by
 obtain⟨st',q1,q2,q3⟩:=R.open_ hF;refine⟨st',?_,q2,q3⟩;unfold ZuF;rw [R.shut hF so,Option.bind_some,q1];rfl
end
end Go.Proofs.Ytekpjgmhkkjhgaa
end
section
namespace Go.Proofs.Ytekpjgmhkkjhgaa
open Go.Lf
def Qb (d:Zn) (M:Int):Bool:=
 bif d.Z4==1 then(((decide (d.at_ >=0)) && (decide (d.at_ < M))) && (d.name==0)) && (d.Zy==0)
 else bif(d.Z4==2 || d.Z4==4) then(((decide (d.at_ >=0)) && (decide (d.at_ < M))) && ((decide (d.Zy >=0)) && (decide (d.Zy < M)))) && ((d.at_ !=d.Zy) && decide (d.name >=0))
 else bif d.Z4==3 then(((decide (d.at_ >=0)) && (decide (d.at_ < M))) && (decide (d.name >=0))) && (d.Zy==0)
 else(((d.Z4==5) && (decide (d.at_ >=0))) && (d.name==0)) && (d.Zy==0)
theorem ZrD (d:Zn) (M:Int):ZrJ d M=some (Qb d M):=by
 unfold ZrJ Qb Zid;generalize (d.Z4==1)=b1;generalize (d.Z4==2)=b2;generalize (d.Z4==3)=b3;generalize (d.Z4==4)=b4;generalize (d.Z4==5)=b5;cases b1 <;> cases b2 <;> cases b3 <;> cases b4 <;> cases decide (d.at_ >=0) <;> cases decide (d.at_ < M) <;> simp [Bool.and_assoc]
theorem YT {d:Zn} {M:Int} (h:Qb d M=true):
 (d.Z4=1∧0 <=d.at_∧d.at_ < M)∨((d.Z4=2∨d.Z4=4)∧(0 <=d.at_∧d.at_ < M)∧(0 <=d.Zy∧d.Zy < M)∧d.at_ ≠ d.Zy∧0 <=d.name)∨(d.Z4=3∧(0 <=d.at_∧d.at_ < M)∧0 <=d.name)∨(d.Z4=5∧0 <=d.at_):=by
 unfold Qb at h;by_cases k1:d.Z4=1
 ·simp [k1] at h;exact .inl ⟨k1,h.1.1⟩
 ·by_cases k2:d.Z4=2
  ·simp [k2] at h;exact .inr (.inl ⟨.inl k2,h.1.1,h.1.2,h.2.1,h.2.2⟩)
  ·by_cases k4:d.Z4=4
   ·simp [k4] at h;exact .inr (.inl ⟨.inr k4,h.1.1,h.1.2,h.2.1,h.2.2⟩)
   ·by_cases k3:d.Z4=3
    ·simp [k3] at h;exact .inr (.inr (.inl ⟨k3,h.1.1,h.1.2⟩))
    ·simp [k1,k2,k3,k4] at h;exact .inr (.inr (.inr ⟨h.1.1.1,h.1.1.2⟩))
def Z0 (w:Zb) (d:Zn):Zb:=
 bif d.Z4==1 then Zei w d.at_.toNat
 else bif d.Z4==2 then Zeb w d d.at_.toNat (look (rowOf w d.at_.toNat) d.name)
 else bif d.Z4==5 then Qe (Ur w d.at_.toNat) (w.notes[d.at_.toNat]?.getD ⟨0,0,0,0,0⟩)
 else bif d.Z4==3 then Zgv w d.at_.toNat d.name (look (rowOf w d.at_.toNat) d.name)
 else goW w d d.at_.toNat (look (rowOf w d.at_.toNat) d.name)
section
variable {w:Zb} {n:Int}
theorem Rx.range {ex:Int ->Int ->Prop} {fl:List Zd} (R:Rx w ex fl):∀ m,m < w.cells.length ->∀ c ∈ rowOf w m,0 <=c.name∧c.name < w.names:=fun m hm c hc=>by
 have:= (R.cn c.name m c (by rw [Q5 hm];exact ZoP (R.Yu m hm) hc)).1;unfold Z6 at this;simp at this;exact this.1
theorem Rx.small {ex:Int ->Int ->Prop} {fl:List Zd} (R:Rx w ex fl) (hl:w.notes.length < 900):Small w:=by
 have:=R.c6;have:=R.n12;have hf:=Za3 R.fr R.frr R.n0;refine⟨by omega,fun r hr=>?_,by omega,by omega⟩;obtain⟨m,hm⟩:=List.getElem?_of_mem hr;have hml:= (List.getElem?_eq_some_iff.1 hm).1;have e:r=rowOf w m:=by have:=Qx hml;rw [hm] at this;exact Option.some.inj this
 have:=Szd.Zbf R.n12 (R.Yu m hml) (R.range m hml);rw [e];omega
theorem Rx.szd {ex:Int ->Int ->Prop} (R:Rx w ex []):Szd w:= ⟨R.c6,R.n0,R.n12,fun x hx=>by
 have hn:=R.nn x (by simpa using hx);obtain⟨h,H⟩:=R.nm _ hn;have:= (H.KJ x (List.mem_append_right _ (List.mem_filter.2 ⟨hx,by simp⟩))).2.2.2;rcases this with z | z | z
 ·exact .inl z.1
 ·exact .inr (.inl z.1)
 ·exact .inr (.inr z.1)⟩
theorem Rt.X6 (R:Rt w) {m:Nat} (hm:m < w.cells.length) {c:Za} (hc:Ul (rowOf w m) n=some c):look (rowOf w m) n=c∧YO w n m=some c∧Z6 w n=true:=by
 have e:YO w n m=some c:=by rw [Q5 hm];exact hc
 exact⟨Qs hc,e,(R.rx.1.cn n m c e).1⟩
theorem Rx.Zdx (R:Rx w Ka []) (Mx:Mw w []):∀ k a c,YO w k a=some c ->c.out <=1000016:=fun k a c hc=>by
 have hn:= (R.cn k a c hc).1;obtain⟨h,H⟩:=R.nm k hn;have:= (H.most (Mx k hn)).1 a c hc;omega
theorem Zdv (R:Rt w) (hn:Z6 w n=true) {m:Nat} (hm:m < w.cells.length) {d:Za} (hd:d.name=n) {y:Zd} (hy:y.name=n) (hu:d.use=true∨d.out ≠ 0)
 (hN:∃ h,Nm w.cells.length n (Yx (YO w n) m (some d)) (QS w n ++ [y]) h):Rx (sent (cw w m (put d (rowOf w m))) y) Ka []:=by
 obtain⟨R0,M0⟩:=R.rx;obtain⟨U,V1,V2⟩:=Qg hm R.Yu hd;obtain⟨U2,W1,W2⟩:=Zd9 (w:=cw w m (put d (rowOf w m))) (n:=n) (x:=y) (fun a ha=>U.Yu a (by rw [← U.len];exact ha)) hy;refine R0.upd (U.trans U2) hn (by simp) (by simp) (fun a c hc=>?_) (fun _ _ _ z=>z) ?_
 ·rw [W1,V1] at hc;unfold Yx at hc;split at hc
  ·cases hc;exact hu.elim .inl fun z=>.inr (.inl z)
  ·exact(R0.cn n a c hc).2
 ·rw [W1,W2,V1,V2];exact hN
theorem ZzS (R:Rt w) {d:Zn} {m:Nat} (hm:m < w.cells.length) (hat:d.at_= (m:Int)) (hto:0 <=d.Zy∧d.Zy < (w.cells.length:Int)) {c:Za} (hc:Ul (rowOf w m) d.name=some c) (hu:c.use=true):Rx (Zeb w d m c) Ka []:=by
 obtain⟨_,e,hn⟩:=R.X6 hm hc;obtain⟨h,H,Mx⟩:=R.nm _ hn;have S:= (H.most Mx).1 _ c e;have hcn:=Qc hc;unfold Zeb;cases hb:(decide (c.from_ >=0) && decide (c.has >=2))
 ·rw [cond_false,YL (n:=c.out + 16) (by omega) (by omega)];exact Zdv R hn hm (d:= ⟨c.name,c.root,c.from_,c.has,c.out + 16,c.use⟩) (y:= ⟨1,d.Zy,d.name,d.at_,16⟩) hcn rfl (.inl hu) ⟨h,H.Zwg (w:=16) e hto (by decide) (by rw [hat])⟩
 ·rw [cond_true];simp at hb;have e1:c.has.tdiv 2=c.has / 2:=Int.tdiv_eq_ediv_of_nonneg (by omega);rw [e1,YL (n:=c.has / 2) (by omega) (by omega),YL (n:=c.has - c.has / 2) (by omega) (by omega)];exact Zdv R hn hm (d:= ⟨c.name,c.root,c.from_,c.has - c.has / 2,c.out,c.use⟩) (y:= ⟨1,d.Zy,d.name,c.from_,c.has / 2⟩) hcn rfl (.inl hu) ⟨h,H.Zwe (w:=c.has / 2) e hb.1 hto (by omega) (by omega) rfl⟩
theorem ZFQ (R:Rt w) {d:Zn} {m:Nat} (hm:m < w.cells.length) (hat:d.at_= (m:Int)) (hto:0 <=d.Zy∧d.Zy < (w.cells.length:Int)) (hne:d.at_ ≠ d.Zy) {c:Za} (hc:Ul (rowOf w m) d.name=some c) (hr:c.root=true):Rx (goW w d m c) Ka []:=by
 obtain⟨_,e,hn⟩:=R.X6 hm hc;obtain⟨h,H,Mx⟩:=R.nm _ hn;have hcn:=Qc hc;unfold goW;have hu:c.use=true∨c.out ≠ 0:= (R.cn m hm c (Zbv hc)).2;exact Zdv R hn hm (d:=goC c d.Zy) hcn rfl hu ⟨d.Zy,H.go e hr hto (by omega) rfl⟩
theorem Zlw (R:Rt w) {m:Nat} (hm:m < w.cells.length) {c:Za} (hc:Ul (rowOf w m) n=some c):Rx (Zgv w m n c) Ka []∧Mw (Zgv w m n c) []:=by
 obtain⟨_,e,hn⟩:=R.X6 hm hc;obtain⟨h,H,Mx⟩:=R.nm _ hn;obtain⟨R0,M0⟩:=R.rx;have hcn:=Qc hc
 obtain⟨P1,P2,P3⟩:=Zdw (n:=n) (fl:= []) (fl':= []) (m:=m) (m':=m) (ex':=fun a k=>a= (m:Int)∧k=n) R0 M0 hn (by simp) (by simp) rfl hm (d:=Zan c) hcn (.inr (.inr ⟨rfl,rfl⟩)) (fun a k _ z=>z.elim) ⟨h,H.use e false⟩ (fun a _ _=>by
  by_cases z:a= (m:Int)
  ·rw [if_pos z,z,e];exact Int.le_refl _
  ·rw [if_neg z];exact Int.le_refl _)
 unfold Zgv;exact ZcH P1 P2 rfl (by rw [Yd];exact hm) P3
theorem Zz1 (R:Rt w) {m:Nat} (hm:m < w.cells.length) (hlt:w.names < 12):Rx (Zei w m) Ka []:=by
 have hn0:=R.n0;obtain⟨R0,M0⟩:=R.rx;obtain⟨U,V1,V2⟩:=Qg (w:=w) (n:=w.names) hm R.Yu (c:=Zfa w) rfl;have hnm:(Zei w m).names=w.names + 1:=YL (by omega) (by omega)
 have hB:∀ k,Z6 (Zei w m) k= (Z6 w k || (k==w.names)):=by
  intro k;unfold Z6;rw [hnm];show(decide (0 <=k) && decide (k < w.names + 1) && !(w.freed.any fun y=>y==k))=_;by_cases e:k=w.names
  ·have:(w.freed.any fun y=>y==k)=false:=by
    rw [List.any_eq_false];intro y hy;have:=R.frr y hy;simp;omega
   rw [this];simp [e];omega
  ·have:decide (k < w.names + 1)=decide (k < w.names):=decide_eq_decide.2 (by omega);rw [this];simp [e]
 have hno:¬ Z6 w w.names=true:=by unfold Z6;simp
 have ZIl:YO w w.names=fun _=>none:=by
  funext a;cases e:YO w w.names a with
  | none=>rfl
  | some c=>exact absurd (R0.cn _ _ _ e).1 hno
 have hns0:QS w w.names= []:=by
  unfold QS;rw [List.filter_eq_nil_iff];intro x hx;have:=R.nn x hx;intro z;have z:x.name=w.names:=by simpa using z
  rw [z] at this;exact hno this
 have ZD8:YO (Zei w m) w.names=Yx (fun _=>none) m (some (Zfa w)):=by
  show YO (cw w m (put (Zfa w) (rowOf w m))) w.names=_;rw [V1,ZIl]
 have hlen:(Zei w m).cells.length=w.cells.length:=Yd;refine⟨by rw [hlen];exact R.c1,by rw [hlen];exact R.c6,by rw [hnm];omega,by rw [hnm];omega,R.fr,fun x hx=>?_,fun a ha=>?_,fun k a c hc=>?_,fun x hx=>?_,fun k hk=>?_⟩
 ·have:=R.frr x hx;rw [hnm];omega
 ·exact U.Yu a (by rw [hlen] at ha;exact ha)
 ·rw [hB];by_cases e:k=w.names
  ·subst e;rw [ZD8] at hc;unfold Yx at hc;split at hc
   ·cases hc;exact⟨by simp,.inl rfl⟩
   ·cases hc
  ·have:YO (Zei w m) k=YO w k:=U.oc k e;rw [this] at hc;have:=R0.cn k a c hc;exact⟨by rw [this.1];rfl,this.2⟩
 ·have hx:x ∈ w.notes:=hx;rw [hB,R.nn x hx];rfl
 ·rw [hlen];by_cases e:k=w.names
  ·subst e;refine⟨m,?_⟩;rw [ZD8];show Nm _ _ _ ([] ++ QS w w.names) _;rw [hns0];exact Nm.fresh ⟨by omega,by omega⟩
  ·rw [hB] at hk;have hk:Z6 w k=true:=by simpa [e] using hk
   obtain⟨h,H⟩:=R0.nm k hk;refine⟨h,?_⟩;have:YO (Zei w m) k=YO w k:=U.oc k e;rw [this];exact H
theorem Zwq (R:Rt w) {m:Nat} (hm:m < w.cells.length):∀ k a c,YO (Zei w m) k a=some c ->c.out <=1000016:=fun k a c hc=>by
 obtain⟨R0,M0⟩:=R.rx;obtain⟨U,V1,V2⟩:=Qg (w:=w) (n:=w.names) hm R.Yu (c:=Zfa w) rfl;have hc:YO (cw w m (put (Zfa w) (rowOf w m))) k a=some c:=hc;by_cases e:k=w.names
 ·subst e;rw [V1] at hc;unfold Yx at hc;split at hc
  ·cases hc;show(0:Int) <=_;omega
  ·exact R0.Zdx M0 _ _ _ hc
 ·rw [U.oc k e] at hc;exact R0.Zdx M0 _ _ _ hc
theorem Zea (x:Zd):(sent w x).notes.length=w.notes.length + 1:=by unfold sent;simp
theorem Zmj (d:Zn) (m:Nat) (c:Za):(Zeb w d m c).notes.length=w.notes.length + 1∧(Zeb w d m c).cells.length=w.cells.length∧(Zeb w d m c).names=w.names:=by
 unfold Zeb;cases (decide (c.from_ >=0) && decide (c.has >=2))
 ·rw [cond_false];exact⟨Zea _,Yd,rfl⟩
 ·rw [cond_true];exact⟨Zea _,Yd,rfl⟩
theorem Qz {d:Zn} {m:Nat} (h1:d.Z4 ≠ 1) (h5:d.Z4 ≠ 5) (he:YJ w d m=0):∃ c,Ul (rowOf w m) d.name=some c∧(d.Z4=4 ->c.root=true)∧(d.Z4 ≠ 4 ->c.use=true):=by
 unfold YJ at he;have b1:(d.Z4==1)=false:=by simp [h1]
 have b5:(d.Z4==5)=false:=by simp [h5]
 rw [b1,b5] at he;simp only [cond_false] at he;cases hf:Ul (rowOf w m) d.name with
 | none=>rw [hf] at he;cases he
 | some c=>
   rw [hf] at he;refine⟨c,rfl,fun h4=>?_,fun h4=>?_⟩
   ·rw [h4] at he;dsimp only at he;cases hr:c.root with
    | true=>rfl
    | false=>rw [hr] at he;simp at he
   ·have b4:(d.Z4==4)=false:=by simp [h4]
    rw [b4] at he;dsimp only at he;cases hr:c.use with
    | true=>rfl
    | false=>rw [hr] at he;simp at he
theorem Zb0 (R:Rt w) {m:Nat} (hm:m < w.cells.length) {d:Za} (hd:d.name=n) {y:Zd} (ho:d.out <=1000016):∀ k a c,YO (sent (cw w m (put d (rowOf w m))) y) k a=some c ->c.out <=1000016:=fun k a c hc=>by
 obtain⟨R0,M0⟩:=R.rx;obtain⟨U,V1,V2⟩:=Qg hm R.Yu hd;have hc:YO (cw w m (put d (rowOf w m))) k a=some c:=hc;by_cases e:k=n
 ·subst e;rw [V1] at hc;unfold Yx at hc;split at hc
  ·cases hc;exact ho
  ·exact R0.Zdx M0 _ _ _ hc
 ·rw [U.oc k e] at hc;exact R0.Zdx M0 _ _ _ hc
theorem Zwf (R:Rt w) {d:Zn} {m:Nat} (hm:m < w.cells.length) {c:Za} (hc:Ul (rowOf w m) d.name=some c):∀ k a x,YO (Zeb w d m c) k a=some x ->x.out <=1000016:=by
 obtain⟨_,e,hn⟩:=R.X6 hm hc;obtain⟨h,H,Mx⟩:=R.nm _ hn;have S:= (H.most Mx).1 _ c e;have hcn:=Qc hc;unfold Zeb;cases hb:(decide (c.from_ >=0) && decide (c.has >=2))
 ·rw [cond_false,YL (n:=c.out + 16) (by omega) (by omega)];exact Zb0 R hm (d:= ⟨c.name,c.root,c.from_,c.has,c.out + 16,c.use⟩) hcn (by show c.out + 16 <=_;omega)
 ·rw [cond_true];exact Zb0 R hm (d:= ⟨c.name,c.root,c.from_,ZJ (c.has - ZJ (c.has.tdiv 2)),c.out,c.use⟩) hcn (by show c.out <=_;omega)
theorem Zg6 (R:Rt w) {d:Zn} (hf:Qb d w.cells.length=true) (he:YJ w d d.at_.toNat=0):
 Rx (Z0 w d) Ka []∧(Z0 w d).notes.length <=82∧(Z0 w d).cells.length=w.cells.length∧(d.Z4 ≠ 1 ->(Z0 w d).names=w.names)∧∀ k a c,YO (Z0 w d) k a=some c ->c.out <=1000016:=by
 have hnl:=R.KJ;obtain⟨R0,M0⟩:=R.rx;unfold Z0;rcases YT hf with⟨k,a⟩ | ⟨k,a,t,ne,nm⟩ | ⟨k,a,nm⟩ | ⟨k,a⟩
 ·rw [k];simp only [beq_self_eq_true,cond_true]
  have:w.names < 12:=by
   unfold YJ at he;rw [k] at he;simp only [beq_self_eq_true,cond_true] at he;cases hb:decide (w.names >=12) with
   | true=>rw [hb] at he;cases he
   | false=>simpa using hb
  exact⟨Zz1 R (by omega) this,by show w.notes.length <=82;omega,Yd,fun z=>absurd rfl z,fun k a c hc=>Zwq R (by omega) k a c hc⟩
 ·have hm:d.at_.toNat < w.cells.length:=by omega
  have hat:d.at_= (d.at_.toNat:Int):=by omega
  rcases k with k | k
  ·obtain⟨c,hc,_,hu⟩:=Qz (by omega) (by omega) he;have hl:= (R.X6 hm hc).1;rw [k,hl];simp only [beq_self_eq_true,cond_true,show((2:Int)==1)=false from rfl,cond_false];obtain⟨q1,q2,q3⟩:=Zmj (w:=w) d d.at_.toNat c;exact⟨ZzS R hm hat t hc (hu (by omega)),by omega,q2,fun _=>q3,Zwf R hm hc⟩
  ·obtain⟨c,hc,hr,_⟩:=Qz (by omega) (by omega) he;have hl:= (R.X6 hm hc).1;rw [k,hl];simp only [show((4:Int)==1)=false from rfl,show((4:Int)==2)=false from rfl,show((4:Int)==3)=false from rfl,show((4:Int)==5)=false from rfl,cond_false];refine⟨ZFQ R hm hat t ne hc (hr k),?_,Yd,fun _=>rfl,Zb0 R hm (d:=goC c d.Zy) (n:=d.name) (show c.name=d.name from Qc hc) (by show c.out <=_;exact R0.Zdx M0 _ _ _ (R.X6 hm hc).2.1)⟩;unfold goW;rw [Zea];show w.notes.length + 1 <=82;omega
 ·have hm:d.at_.toNat < w.cells.length:=by omega
  obtain⟨c,hc,_,hu⟩:=Qz (by omega) (by omega) he;have hl:= (R.X6 hm hc).1;rw [k,hl];simp only [beq_self_eq_true,cond_true,show((3:Int)==1)=false from rfl,show((3:Int)==2)=false from rfl,show((3:Int)==5)=false from rfl,cond_false];have q:=WH (w:=cw w d.at_.toNat (put (Zan c) (rowOf w d.at_.toNat))) d.at_.toNat d.name (Zan c);refine⟨(Zlw R hm hc).1,?_,q.2.1.trans Yd,fun _=>q.2.2.1,(Zlw R hm hc).1.Zdx (Zlw R hm hc).2⟩;have:=q.1;show(Xd _ _ _ _).notes.length <=82;have e:(cw w d.at_.toNat (put (Zan c) (rowOf w d.at_.toNat))).notes.length=w.notes.length:=rfl;omega
 ·rw [k];simp only [beq_self_eq_true,cond_true,show((5:Int)==1)=false from rfl,show((5:Int)==2)=false from rfl,cond_false]
  have hlt:d.at_.toNat < w.notes.length:=by
   unfold YJ at he;rw [k] at he;simp only [beq_self_eq_true,cond_true,show((5:Int)==1)=false from rfl,cond_false] at he;cases hb:decide (d.at_ >= (w.notes.length:Int)) with
   | true=>rw [hb] at he;cases he
   | false=>simp at hb;omega
  have hx:w.notes[d.at_.toNat]? =some (w.notes[d.at_.toNat]'hlt):=by simp
  rw [hx];simp only [Option.getD_some];obtain⟨q1,q2,q3⟩:=Zvb R hx;have:=q1.KJ;exact⟨q1.rx.1,by show(Qe _ _).notes.length <=82;omega,q2,fun _=>q3,q1.rx.1.Zdx q1.rx.2⟩
end
end Go.Proofs.Ytekpjgmhkkjhgaa
end
section
namespace Go.Proofs.Ytekpjgmhkkjhgaa
open Go.Lf
def WK (w:Zb):Bool:=decide ((w.notes.length:Int) > 80) || (List.range w.cells.length).any fun m=>(List.range w.names.toNat).any fun n=>decide (JS w m n > 1000000)
section
variable {w:Zb} {n:Int} {st:Store} {F:Nat}
theorem UK.WN {κ ν:Type} [DecidableEq κ] {l:List (κ×ν)} (u:UK l) (k:κ) (z:ν):UK (WN l k z):=by
 unfold Go.Lf.WN;cases e:Yc l k with
 | some q=>exact u
 | none=>
   have:Go.Lf.Y4 l k z=l ++ [(k,z)]:=by unfold Go.Lf.Y4;rw [e]
   dsimp only;rw [← this];exact u.Y4 k z
theorem UK.upd {v:Acc} (u:UK v) (k:Ze) (x:Int):UK (upd v k x):= (u.WN k 0).Y4 k _
theorem Zty {κ ν:Type} [DecidableEq κ] {l:List (κ×ν)} {k:κ} {x:ν} (h:Xr l k=some x):(k,x) ∈ l:=by
 unfold Xr at h;cases e:Yc l k with
 | none=>rw [e] at h;cases h
 | some q=>
   rw [e] at h;cases h;exact List.mem_of_getElem? (KM e)
theorem UK.get {κ ν:Type} [DecidableEq κ]:∀ {l:List (κ×ν)},UK l ->∀ {k:κ} {x:ν},(k,x) ∈ l ->Xr l k=some x
 | [],_,_,_,h=>by simp at h
 | p::l,u,k,x,h=>by
   have u':UK l:=by unfold UK at u ⊢;rw [List.map_cons,List.nodup_cons] at u;exact u.2
   have hp:p.1 ∉ l.map (·.1):=by unfold UK at u;rw [List.map_cons,List.nodup_cons] at u;exact u.1
   unfold Xr;rw [KN];rcases List.mem_cons.1 h with z | z
   ·subst z;simp
   ·have hne:¬ p.1=k:=fun e=>hp (by rw [e];exact List.mem_map_of_mem (f:= (·.1)) z)
    rw [if_neg hne];have:=u'.get z;unfold Xr at this;cases e:Yc l k with
    | none=>rw [e] at this;cases this
    | some q=>rw [e] at this;simpa using this
theorem ZjD {κ ν:Type} {b:κ ->ν ->Option Bool} (h:∀ k x,∃ p,b k x=some p):∀ l:List (κ×ν),∃ q,ZjE b l=some q
 | []=>⟨false,rfl⟩
 | x::r=>by
   obtain⟨p,hp⟩:=h x.1 x.2;obtain⟨q,hq⟩:=ZjD h r;exact⟨p || q,by unfold ZjE;rw [hp,Option.bind_some,hq,Option.bind_some]⟩
theorem Zyd (R:Rx w Ka []) {k:Ze} (hk:¬ ((0 <=k.e0∧k.e0 < (w.cells.length:Int))∧0 <=k.e1∧k.e1 < w.names)):val (ZcA w).1 k=0:=by
 have h0:=R.n0
 have hC:val (U0 w).1 k=0:=by
  unfold U0;refine UD (fun q:Acc×Acc=>val q.1 k=0) _ _ (fun q m hm hq=>?_) _ rfl;refine UD (fun q:Acc×Acc=>val q.1 k=0) _ _ (fun q n hn hq=>?_) _ hq;rw [List.mem_range] at hm hn;unfold Jm;cases hc:cellOf w m n with
  | none=>exact hq
  | some c=>
    have hcn:=Qu hc;show val (upd q.1 ⟨m,c.name⟩ c.out) k=0;rw [Wt,if_neg (fun z=>hk (by rw [z];dsimp only;omega))];exact hq
 unfold ZcA;refine UD (fun q:Acc×Acc=>val q.1 k=0) _ _ (fun q x hx hq=>?_) _ hC;have hn:=R.nn x (by simpa using hx);obtain⟨h,H⟩:=R.nm _ hn;have ht:= (H.KJ x (List.mem_append_right _ (List.mem_filter.2 ⟨hx,by simp⟩))).1;have hr:0 <=x.name∧x.name < w.names:=by unfold Z6 at hn;simp at hn;exact hn.1
 unfold Zpx;cases (x.kind==1)
 ·cases (x.kind==2)
  ·simp only [cond_false];rw [Wt,if_neg (fun z=>hk (by rw [z];exact⟨ht,hr⟩))];exact hq
  ·exact hq
 ·exact hq
theorem ZCa:UK (ZcA w).1:=by
 have hC:UK (U0 w).1:=by
  unfold U0;refine UD (fun q:Acc×Acc=>UK q.1) _ _ (fun q m hm hq=>?_) _ UK.nil;refine UD (fun q:Acc×Acc=>UK q.1) _ _ (fun q n hn hq=>?_) _ hq;unfold Jm;cases hc:cellOf w m n with
  | none=>exact hq
  | some c=>exact hq.upd _ _
 unfold ZcA;refine UD (fun q:Acc×Acc=>UK q.1) _ _ (fun q x hx hq=>?_) _ hC;unfold Zpx;cases (x.kind==1)
 ·cases (x.kind==2)
  ·exact hq.upd _ _
  ·exact hq
 ·exact hq
theorem Zq7 (hF:1000 <=F) (R:Rx w Ka []) (sm:Small w) (so:Qk w st):ZaA F (st.machines,st.names,st.cells,st.notes,st.freed)=some (bif WK w then .Jk 3 else .ok st):=by
 have sz:=R.szd;have h0:=R.n0;unfold ZaA;dsimp only;rw [so.notes];unfold WK;cases hb:decide ((w.notes.length:Int) > 80)
 ·simp only [cond_false,Bool.false_or];have hst:(⟨st.machines,st.names,st.cells,w.notes,st.freed⟩:Store)=st:=by rw [← so.notes]
  rw [hst,ZqL hF sm sz so,Option.bind_some];obtain⟨q,hq⟩:=ZjD (b:=Zfs) (fun k x=>by unfold Zfs;cases decide (x > 1000000);exact⟨_,rfl⟩;exact⟨_,rfl⟩) (ZcA w).1;rw [hq,Option.bind_some];obtain⟨_,q2⟩:=ZdD hq
  have:q= ((List.range w.cells.length).any fun m=>(List.range w.names.toNat).any fun n=>decide (JS w m n > 1000000)):=by
   rw [Bool.eq_iff_iff,q2,List.any_eq_true]
   constructor
   ·rintro⟨⟨k,v⟩,hm,hv⟩
    have hv:v > 1000000:=by
     unfold Zfs at hv;cases hd:decide (v > 1000000) with
     | true=>simpa using hd
     | false=>dsimp only at hv;rw [hd] at hv;cases hv
    have hval:val (ZcA w).1 k=v:=by unfold val;rw [ZCa.get hm];rfl
    by_cases hk:(0 <=k.e0∧k.e0 < (w.cells.length:Int))∧0 <=k.e1∧k.e1 < w.names
    ·refine⟨k.e0.toNat,List.mem_range.2 (by omega),?_⟩;rw [List.any_eq_true];refine⟨k.e1.toNat,List.mem_range.2 (by omega),?_⟩;have:= (ZlU sz (a:=k.e0.toNat) (n:=k.e1.toNat) (by omega) (by omega)).1
     have e:(⟨((k.e0.toNat:Nat):Int),((k.e1.toNat:Nat):Int)⟩:Ze)=k:=by
      cases k;dsimp only at *;congr 1 <;> omega
     rw [e,hval] at this;rw [← this];simpa using hv
    ·rw [Zyd R hk] at hval;omega
   ·rintro⟨m,hm,hn⟩;rw [List.any_eq_true] at hn;obtain⟨n,hn,hg⟩:=hn;rw [List.mem_range] at hm hn;have hg:JS w m n > 1000000:=by simpa using hg
    have:= (ZlU sz (a:=m) (n:=n) hm (by omega)).1;rw [← this] at hg;unfold val at hg;cases e:Xr (ZcA w).1 (⟨(m:Int),(n:Int)⟩:Ze) with
    | none=>rw [e] at hg;simp at hg
    | some v=>
      rw [e] at hg;refine⟨_,Zty e,?_⟩;unfold Zfs;dsimp only;rw [decide_eq_true (by simpa using hg)];rfl
  rw [← this];cases q <;> rfl
 ·rfl
theorem Zvn {l:List Int} (h:l.Pairwise (· < ·)):Asc l:=h.imp fun z=>Int.le_of_lt z
theorem Rt.ci (R:Rt w) {m:Nat} (hm:m < w.cells.length) {c:Za} (hc:c ∈ rowOf w m):CI c:=by
 have:= (Za1 (R.WU hm hc)).2.2.2;rcases this with z | z
 ·exact .inl ⟨z.2.1,z.1⟩
 ·exact .inr z
theorem Rt.ZmY (R:Rt w) (h:∃ n,Z6 w n=true):w.freed.length <=11:=by
 obtain⟨n,hn⟩:=h;unfold Z6 at hn;simp at hn;have h12:=R.n12
 have key:∀ (l:List Int) (a:Int),l.Pairwise (· < ·) ->(∀ x ∈ l,a <=x∧x < w.names) ->n ∉ l ->a <=n ->a + (l.length:Int) + 1 <=w.names:=by
  intro l
  induction l with
  | nil=>intro a _ _ _ h;simp;omega
  | cons x l ih=>
    intro a p hr hx ha;rw [List.pairwise_cons] at p;have h0:=hr x (by simp);have hne:n ≠ x:=fun z=>hx (by rw [z];simp)
    by_cases hlt:n < x
    ·have:=Za3 (l:=l) (a:=x + 1) (b:=w.names) p.2 (fun y hy=>by have h1:=p.1 y hy;have h2:=hr y (by simp [hy]);omega) (by omega);simp only [List.length_cons];omega
    ·have:=ih (x + 1) p.2 (fun y hy=>by have h1:=p.1 y hy;have h2:=hr y (by simp [hy]);omega) (fun z=>hx (by simp [z])) (by omega);simp only [List.length_cons];omega
 have:=key w.freed 0 R.fr R.frr (fun z=>hn.2 n z rfl) hn.1.1;omega
theorem Zq8 (sm:Small w) (k:Nat):Small (Ur w k):= ⟨sm.cells,sm.rows,by have:=sm.notes;unfold Ur;simp;omega,sm.freed⟩
end
end Go.Proofs.Ytekpjgmhkkjhgaa
end
section
namespace Go.Proofs.Ytekpjgmhkkjhgaa
open Go.Lf
def Zjv:Zb:= ⟨[],[],0,[]⟩
def stepW (w:Zb) (d:Zn):Zb×Int:=
 bif YJ w d d.at_.toNat==0 then(bif WK (Z0 w d) then(Zjv,3) else(Z0 w d,0)) else(Zjv,YJ w d d.at_.toNat)
def doW (w:Zb) (d:Zn):Zb×Int:=bif Zbg w && Qb d w.cells.length then stepW w d else(Zjv,2)
section
variable {w:Zb} {n:Int} {st:Store} {F:Nat}
theorem ZrO {d:Zn} (h:d.Z4=1∨d.Z4=5) (m m':Nat):YJ w d m=YJ w d m':=by
 unfold YJ;rcases h with h | h <;> rw [h] <;> rfl
theorem Zo7 (R:Rt w) {d:Zn} (hf:Qb d w.cells.length=true):∃ m,m < w.cells.length∧(d.Z4=1∨d.Z4=5∨d.at_= (m:Int))∧YJ w d m=YJ w d d.at_.toNat:=by
 have:=R.c1;rcases YT hf with⟨k,a⟩ | ⟨k,a,t,ne,nm⟩ | ⟨k,a,nm⟩ | ⟨k,a⟩
 ·exact⟨d.at_.toNat,by omega,.inl k,rfl⟩
 ·exact⟨d.at_.toNat,by omega,.inr (.inr (by omega)),rfl⟩
 ·exact⟨d.at_.toNat,by omega,.inr (.inr (by omega)),rfl⟩
 ·exact⟨0,by omega,.inr (.inl k),ZrO (.inr k) _ _⟩
theorem Rt.ZxY (R:Rt w) {m:Nat} (hm:m < w.cells.length) (n:Int):CI (look (rowOf w m) n):=by
 unfold look;cases h:Ul (rowOf w m) n with
 | none=>exact CI.blank n
 | some c=>exact R.ci hm (Zbv h)
theorem Zsf (hF:1000 <=F) (R:Rt w) (so:Qk w st) (u:UK st.cells) {d:Zn} (hf:Qb d w.cells.length=true):
 ∃ st',ZuE F st d=some (bif YJ w d d.at_.toNat==0 then(bif WK (Z0 w d) then .Jk 3 else .ok st') else .Jk (YJ w d d.at_.toNat))∧(YJ w d d.at_.toNat=0 ->Qk (Z0 w d) st'∧UK st'.cells):=by
 have sm:=R.small;have hnl:=R.KJ;have hrow:∀ m,m < w.cells.length ->(rowOf w m).length <=12:=fun m hm=>Szd.Zbf R.n12 (R.Yu m hm) (R.names m hm)
 obtain⟨m0,hm0,ho,e0⟩:=Zo7 R hf;have hck:=Zpg so hm0 d ho;rw [e0] at hck;unfold ZuE;rw [hck,Option.bind_some];cases hz:(YJ w d d.at_.toNat==0)
 ·refine⟨st,rfl,fun z=>?_⟩;rw [z] at hz;cases hz
 ·have he:YJ w d d.at_.toNat=0:=by simpa using hz
  obtain⟨X1,X2,X3,X4,X5⟩:=Zg6 R hf he;have over:∀ st',Qk (Z0 w d) st' ->ZaA F (st'.machines,st'.names,st'.cells,st'.notes,st'.freed)=some (bif WK (Z0 w d) then .Jk 3 else .ok st'):=fun st' s'=>Zq7 hF X1 (X1.small (by omega)) s'
  simp only [cond_true];unfold prC;dsimp only;rcases YT hf with⟨k,a⟩ | ⟨k,a,t,ne,nm⟩ | ⟨k,a,nm⟩ | ⟨k,a⟩
  ·have hm:d.at_.toNat < w.cells.length:=by omega
   have hat:d.at_= (d.at_.toNat:Int):=by omega
   have hdw:Z0 w d=Zei w d.at_.toNat:=by unfold Z0;rw [k];rfl
   obtain⟨q1,q2⟩:=Zts so u hm (R.Yu _ hm);have ov:=over _ (by rw [hdw];exact q1);refine⟨_,?_,fun _=>⟨by rw [hdw];exact q1,q2⟩⟩;rw [← ov,k];simp only [beq_self_eq_true,cond_true];rw [hat,so.n]
   rfl
  ·have hm:d.at_.toNat < w.cells.length:=by omega
   have hat:d.at_= (d.at_.toNat:Int):=by omega
   rcases k with k | k
   ·obtain⟨c,hc,_,hu⟩:=Qz (by omega) (by omega) he;have hl:= (R.X6 hm hc).1;have hdw:Z0 w d=Zeb w d d.at_.toNat c:=by unfold Z0;rw [k,hl];rfl
    obtain⟨st',q1,q2,q3⟩:=ZsP so u hm (R.Yu _ hm) (by omega) d hat hc;have ov:=over st' (by rw [hdw];exact q2);refine⟨st',?_,fun _=>⟨by rw [hdw];exact q2,q3⟩⟩;rw [← ov,k];simp only [beq_self_eq_true,cond_true,show((2:Int)==1)=false from rfl,cond_false];rw [q1,Option.bind_some]
   ·obtain⟨c,hc,hr,_⟩:=Qz (by omega) (by omega) he;have hl:= (R.X6 hm hc).1;have hdw:Z0 w d=goW w d d.at_.toNat c:=by unfold Z0;rw [k,hl];rfl
    obtain⟨st',q1,q2,q3⟩:=Zw5 so u hm (R.Yu _ hm) (by omega) d hc;have ov:=over st' (by rw [hdw];exact q2);refine⟨st',?_,fun _=>⟨by rw [hdw];exact q2,q3⟩⟩;rw [← ov,k];simp only [beq_self_eq_true,cond_true,show((4:Int)==1)=false from rfl,show((4:Int)==2)=false from rfl,show((4:Int)==3)=false from rfl,cond_false];unfold Zaw;rw [Option.bind_some,hat,so.get hm,hc];unfold goC at q1;simp only [Option.getD_some];rw [q1,Option.bind_some]
  ·have hm:d.at_.toNat < w.cells.length:=by omega
   have hat:d.at_= (d.at_.toNat:Int):=by omega
   obtain⟨c,hc,_,hu⟩:=Qz (by omega) (by omega) he;obtain⟨hl,_,hnb⟩:=R.X6 hm hc;have hdw:Z0 w d=Zgv w d.at_.toNat d.name c:=by unfold Z0;rw [k,hl];rfl
   obtain⟨st',q1,q2,q3⟩:=ZrR (F:=F) (by omega) so u hm (R.Yu _ hm) (by omega) hc (R.ci hm (Zbv hc)) (Zvn R.fr) (R.ZmY ⟨_,hnb⟩);have ov:=over st' (by rw [hdw];exact q2);refine⟨st',?_,fun _=>⟨by rw [hdw];exact q2,q3⟩⟩;rw [← ov,k];simp only [beq_self_eq_true,cond_true,show((3:Int)==1)=false from rfl,show((3:Int)==2)=false from rfl,cond_false];unfold Zaw;rw [Option.bind_some,hat,so.get hm,hc];unfold Zan at q1;simp only [Option.getD_some];rw [q1,Option.bind_some]
  ·have hlt:d.at_.toNat < w.notes.length:=by
    have he:=he;unfold YJ at he;rw [k] at he;simp only [beq_self_eq_true,cond_true,show((5:Int)==1)=false from rfl,cond_false] at he;cases hb:decide (d.at_ >= (w.notes.length:Int)) with
    | true=>rw [hb] at he;cases he
    | false=>simp at hb;omega
   obtain⟨j,hj⟩:∃ j:Nat,d.at_= (j:Int):= ⟨d.at_.toNat,by omega⟩
   have hjt:d.at_.toNat=j:=by omega
   rw [hjt] at hlt;obtain⟨x,hx⟩:∃ x,w.notes[j]? =some x:= ⟨_,List.getElem?_eq_getElem hlt⟩
   have hdw:Z0 w d=Qe (Ur w j) x:=by unfold Z0;rw [k,hjt,hx];rfl
   have hxm:=List.mem_of_getElem? hx;have hxB:=ZaP (R.WM hxm);have hm:x.Zy.toNat < w.cells.length:=by omega
   have:=hrow _ hm;have so':Qk (Ur w j) ⟨st.machines,st.names,st.cells,w.notes.take j ++ w.notes.drop (j + 1),st.freed⟩:= ⟨so.m,so.n,rfl,so.freed,so.cells⟩
   obtain⟨st',q1,q2,q3⟩:=Zpj (F:=F) (by omega) so' u (Zq8 sm j) (m:=x.Zy.toNat) hm (by show(rowOf w _).length < 900;omega) (by unfold Ur;simp;omega) x (by omega) (R.Yu _ hm) (R.ZxY hm _) (Zvn R.fr) (R.ZmY ⟨_,hxB.2.1⟩);have ov:=over st' (by rw [hdw];exact q2);refine⟨st',?_,fun _=>⟨by rw [hdw];exact q2,q3⟩⟩;rw [← ov,k];simp only [beq_self_eq_true,cond_true,show((5:Int)==1)=false from rfl,show((5:Int)==2)=false from rfl,show((5:Int)==3)=false from rfl,show((5:Int)==4)=false from rfl,cond_false];rw [hj,so.notes,ZU,hx,Option.bind_some,Ztb hlt (by omega),Option.bind_some,q1,Option.bind_some]
theorem Zta (R:Rx w Ka []) (ho:∀ k a c,YO w k a=some c ->c.out <=1000016) (h:WK w=false):Rt w:=by
 unfold WK at h;rw [Bool.or_eq_false_iff,List.any_eq_false] at h;have sz:=R.szd;have hl:w.notes.length <=80:=by have:=h.1;simp at this;omega
 have h0:=R.n0;refine R.rt (fun n hn=>?_) hl;have hnr:0 <=n∧n < w.names:=by unfold Z6 at hn;simp at hn;exact hn.1
 intro a a0 a1;have:=h.2 a.toNat (List.mem_range.2 (by omega));rw [Bool.not_eq_true,List.any_eq_false] at this;have:=this n.toNat (List.mem_range.2 (by omega));have:= (by simpa using this:JS w a.toNat ((n.toNat:Nat):Int) <=1000000)
 rw [show((n.toNat:Nat):Int)=n by omega,ZdL w (by omega)] at this;rw [show((a.toNat:Nat):Int)=a by omega] at this;show J7 (YO w n) (QS w n) a <=1000000;obtain⟨h',H⟩:=R.nm n hn;have H:Nm w.cells.length n (YO w n) (QS w n) h':=H;have hg:=H.giv a;have hc:=H.Zpf
 have hb:-16 <=X0 (YO w n a)∧X0 (YO w n a) <=1000016:=by
  cases e:YO w n a with
  | none=>simp [X0]
  | some c=>exact⟨(H.ZhD e).1,ho n a c e⟩
 have:-16 <=J7 (YO w n) (QS w n) a∧J7 (YO w n) (QS w n) a <=1000032:=by
  rw [hg];split <;> omega
 rw [YL (by omega) (by omega)] at *
 assumption
theorem ZqB (R:Rt w) {d:Zn} (hf:Qb d w.cells.length=true) (he:YJ w d d.at_.toNat=0) (hv:WK (Z0 w d)=false):Rt (Z0 w d)∧(Z0 w d).cells.length=w.cells.length:=by
 obtain⟨X1,X2,X3,X4,X5⟩:=Zg6 R hf he;exact⟨Zta X1 X5 hv,X3⟩
theorem ZsG {d:Zn} (h:(stepW w d).2=0):YJ w d d.at_.toNat=0∧WK (Z0 w d)=false∧(stepW w d).1=Z0 w d:=by
 unfold stepW at h ⊢;cases hz:(YJ w d d.at_.toNat==0)
 ·rw [hz] at h;have he:YJ w d d.at_.toNat ≠ 0:=by simpa using hz
  exact absurd h he
 ·rw [hz] at h;cases ho:WK (Z0 w d)
  ·exact⟨by simpa using hz,rfl,rfl⟩
  ·rw [ho] at h;cases h
theorem Zq0 (hF:1000 <=F) (R:Rt w) (so:Qk w st) {d:Zn} (hf:Qb d w.cells.length=true):
 ((stepW w d).2 ≠ 0∧ZrI F st d=some (none,(stepW w d).2))∨((stepW w d).2=0∧(stepW w d).1=Z0 w d∧∃ st',ZrI F st d=some (some st',0)∧Qk (Z0 w d) st'∧UK st'.cells):=by
 obtain⟨sc,c1,c2,c3⟩:=R.copy hF so;obtain⟨st',q1,q2⟩:=Zsf hF R c2 c3 hf;unfold ZrI stepW;rw [c1,Option.bind_some,q1,Option.bind_some];cases hz:(YJ w d d.at_.toNat==0)
 ·left;have he:YJ w d d.at_.toNat ≠ 0:=by simpa using hz
  exact⟨he,rfl⟩
 ·have he:YJ w d d.at_.toNat=0:=by simpa using hz
  obtain⟨q3,q4⟩:=q2 he;cases WK (Z0 w d)
  ·right;exact⟨rfl,rfl,st',rfl,q3,q4⟩
  ·left;exact⟨(fun z=>by cases z),rfl⟩
theorem Zly (hF:1000 <=F) (sm:Small w) (d:Zn):Zlg F w d=some (doW w d):=by
 have:=sm.cells;unfold Zlg doW;rw [Zxy hF sm,Option.bind_some,ZrD];simp only [ZmV,Option.bind_some];cases hr:Zbg w
 ·rfl
 ·have R:=Rt.of hr;cases hf:Qb d w.cells.length
  ·rfl
  ·simp only [Bool.not_true,Bool.not_false,cond_true,Bool.or_self,cond_false,Bool.and_self];obtain⟨st,o1,o2,o3⟩:=R.open_ hF;rw [o1,Option.bind_some];rcases Zq0 hF R o2 hf with⟨s1,s2⟩ | ⟨s1,s2,st',s3,s4,s5⟩
   ·rw [s2,Option.bind_some];unfold opt;dsimp only;have:((stepW w d).2 !=0)=true:=by simpa using s1
    rw [this,cond_true]
    have e:(stepW w d).1=Zjv:=by
     unfold stepW at s1 ⊢;cases hz:(YJ w d d.at_.toNat==0)
     ·rfl
     ·rw [hz] at s1;cases ho:WK (Z0 w d)
      ·rw [ho] at s1;exact absurd rfl s1
      ·rfl
    show some (Zjv,(stepW w d).2)=some (stepW w d);rw [← e]
   ·rw [s3,Option.bind_some];unfold opt;dsimp only;obtain⟨e1,e2,e3⟩:=ZsG s1;have R':= (ZqB R hf e1 e2).1;rw [show((0:Int) !=0)=false from rfl,cond_false,R'.shut hF s4,Option.bind_some,← s2];rw [← s1]
end
end Go.Proofs.Ytekpjgmhkkjhgaa
end
section
namespace Go.Proofs.Ytekpjgmhkkjhgaa
open Go.Lf
section
end
end Go.Proofs.Ytekpjgmhkkjhgaa
end
section
namespace Go.Proofs.Ytekpjgmhkkjhgaa
open Go.Lf
section
variable {w:Zb} {n:Int} {st:Store} {F:Nat}
def Zp1 (p:Int):Zb×Int:=bif(decide (1 <=p) && decide (p <=6)) then(⟨List.replicate p.toNat [],[],0,[]⟩,0) else(Zjv,2)
theorem Zp0 {p:Int} (h:1 <=p∧p <=6):Rt ⟨List.replicate p.toNat [],[],0,[]⟩:=by
 have hrow:∀ m,rowOf ⟨List.replicate p.toNat [],[],0,[]⟩ m= []:=by
  intro m;unfold rowOf;dsimp only;cases e:(List.replicate p.toNat ([]:List Za))[m]? with
  | none=>rfl
  | some r=>have:=List.mem_of_getElem? e;rw [List.mem_replicate] at this;exact this.2
 refine⟨by simp;omega,by simp;omega,Int.le_refl _,by show(0:Int) <=12;omega,by simp,.nil,by simp,fun m hm=>by rw [hrow];exact .nil,fun m hm c hc=>by rw [hrow] at hc;simp at hc,by simp,fun n hn=>?_⟩;unfold Z6 at hn;simp at hn;omega
theorem Zrb (hF:1000 <=F) (p:Int):ZuS F p=some (Zp1 p):=by
 unfold ZuS Zp1
 have e:((decide (p < 1)) || (decide (p > 6)))= !(decide (1 <=p) && decide (p <=6)):=by
  rw [Bool.not_and,← decide_not,← decide_not];congr 1 <;> exact decide_eq_decide.2 (by omega)
 rw [e];cases hb:(decide (1 <=p) && decide (p <=6))
 ·rfl
 ·simp at hb;simp only [Bool.not_true,cond_false,cond_true]
  have so:Qk ⟨List.replicate p.toNat [],[],0,[]⟩ ⟨p,0,[],[],[]⟩:=by
   refine⟨?_,rfl,rfl,rfl,fun a b=>?_⟩
   ·show p= ((List.replicate p.toNat ([]:List Za)).length:Int);rw [List.length_replicate];omega
   ·show none=_;split
    ·rename_i hr
     symm
     rw [Y5]
     have:rowOf ⟨List.replicate p.toNat [],[],0,[]⟩ a.toNat= []:=by
      unfold rowOf;dsimp only;cases e:(List.replicate p.toNat ([]:List Za))[a.toNat]? with
      | none=>rfl
      | some r=>have:=List.mem_of_getElem? e;rw [List.mem_replicate] at this;exact this.2
     rw [this];rfl
    ·rfl
  rw [(Zp0 hb).shut hF so];rfl
end
end Go.Proofs.Ytekpjgmhkkjhgaa
end
section
namespace Go.Proofs.Ytekpjgmhkkjhgaa
open Go.Lf
def ZyH (c:Za):Bool:=decide (c.from_ >=0)
def Ko (r:Row):Nat:=r.countP ZyH
def Jb:Option Za ->Nat | some c=>if c.from_ >=0 then 1 else 0 | none=>0
def wt (x:Zd):Nat:=if x.kind=1 then 2 else 1
def wts:List Zd ->Nat | []=>0 | x::l=>wt x + wts l
def Zba (f:Nat ->Nat):Nat ->Nat | 0=>0 | k + 1=>Zba f k + f k
def mu (w:Zb):Nat:=Zba (fun m=>Ko (rowOf w m)) w.cells.length + wts w.notes
theorem ZgO (l r:List Zd):wts (l ++ r)=wts l + wts r:=by
 induction l with
 | nil=>simp [wts]
 | cons x l ih=>simp only [List.cons_append,wts,ih];omega
theorem Zn4 {f g:Nat ->Nat} {M:Nat} (h:∀ m,m < M ->f m=g m):Zba f M=Zba g M:=by
 induction M with
 | zero=>rfl
 | succ M ih=>simp only [Zba];rw [ih fun m hm=>h m (by omega),h M (by omega)]
theorem ZsF {f g:Nat ->Nat} {M k:Nat} (hk:k < M) (h:∀ m,m < M ->m ≠ k ->f m=g m):Zba f M + g k=Zba g M + f k:=by
 induction M with
 | zero=>omega
 | succ M ih=>
   simp only [Zba];by_cases e:k=M
   ·subst e;rw [Zn4 fun m hm=>h m (by omega) (by omega)];omega
   ·have:=ih (by omega) (fun m hm hn=>h m (by omega) hn);rw [h M (by omega) (fun z=>e z.symm)];omega
theorem Je (d:Za) (r:Row):Ko (d::r)=Jb (some d) + Ko r:=by
 unfold Ko Jb;rw [List.countP_cons];unfold ZyH;by_cases h:d.from_ >=0
 ·simp [h];omega
 ·simp [h]
theorem ZmH (c:Za):∀ {r:Row},J9 r ->Ko (put c r) + Jb (Ul r c.name)=Ko r + Jb (some c)
 | [],_=>by rw [put,Je,Zg0];simp [Jb,Ko]
 | d::r,s=>by
   unfold put;by_cases h1:d.name < c.name
   ·have:=ZmH c s.tail;rw [if_pos h1,Je,Je,YF,if_neg (by omega)];omega
   ·rw [if_neg h1];by_cases h2:d.name=c.name
    ·rw [if_pos h2,Je,Je,YF,if_pos h2];omega
    ·rw [if_neg h2,Je,Je,YF,if_neg h2,Zci (by intro x hx;have:=s.head x hx;omega)];simp [Jb];omega
theorem ZmG (n:Int):∀ {r:Row},J9 r ->Ko (rmv n r) + Jb (Ul r n)=Ko r
 | [],_=>by simp [rmv,Ko,Jb,Zg0]
 | d::r,s=>by
   have:=ZmG n s.tail;rw [YF];by_cases h:d.name=n
   ·have e:rmv n (d::r)=rmv n r:=by unfold rmv;rw [List.filter_cons_of_neg (by simp [h])]
    rw [e,if_pos h,Je];have hn:Ul r n=none:=Zci (by intro x hx;have:=s.head x hx;omega);rw [hn] at this;simp only [Jb] at this ⊢;omega
   ·have e:rmv n (d::r)=d::rmv n r:=by unfold rmv;rw [List.filter_cons_of_pos (by simp [h])]
    rw [e,if_neg h,Je,Je];omega
section
variable {w:Zb} {n:Int} {m:Nat}
theorem ZyF (hm:m < w.cells.length) (r:Row):mu (cw w m r) + Ko (rowOf w m)=mu w + Ko r:=by
 unfold mu;rw [Yd];have:=ZsF (f:=fun k=>Ko (rowOf (cw w m r) k)) (g:=fun k=>Ko (rowOf w k)) hm (fun k hk hne=>by rw [Uy hne]);simp only [Qq hm] at this;have e:(cw w m r).notes=w.notes:=rfl;rw [e];omega
theorem Zz2 (hm:m < w.cells.length) (s:J9 (rowOf w m)) {d:Za} (hd:d.name=n):mu (cw w m (put d (rowOf w m))) + Jb (Ul (rowOf w m) n)=mu w + Jb (some d):=by
 have h1:=ZyF hm (put d (rowOf w m));have h2:=ZmH d s;rw [hd] at h2;omega
theorem ZpY (x:Zd):mu (sent w x)=mu w + wt x:=by
 unfold mu sent;dsimp only;rw [ZgO];simp only [wts];have:Zba (fun m=>Ko (rowOf {cells:=w.cells,notes:=w.notes ++ [x],names:=w.names,freed:=w.freed} m)) w.cells.length=Zba (fun m=>Ko (rowOf w m)) w.cells.length:=rfl;omega
theorem Zfc (hm:m < w.cells.length) (s:J9 (rowOf w m)) {c:Za} (hc:Ul (rowOf w m) n=some c):mu (Xd w m n c) <=mu w:=by
 unfold Xd;cases (c.use || (c.out !=0))
 ·rw [cond_false];have h1:=ZyF hm (rmv n (rowOf w m));have h2:=ZmG n s;rw [hc] at h2
  have key:∀ (ns:List Zd) (fr:List Int),mu ⟨w.cells.set m (rmv n (rowOf w m)),ns,w.names,fr⟩ + wts w.notes=mu (cw w m (rmv n (rowOf w m))) + wts ns:=by
   intro ns fr;unfold mu;show Zba (fun k=>Ko (rowOf (cw w m (rmv n (rowOf w m))) k)) (w.cells.set m (rmv n (rowOf w m))).length + wts ns + wts w.notes=Zba (fun k=>Ko (rowOf (cw w m (rmv n (rowOf w m))) k)) (w.cells.set m (rmv n (rowOf w m))).length + wts w.notes + wts ns;omega
  cases c.root
  ·simp only [cond_false];cases hf:decide (c.from_ >=0)
   ·rw [cond_false];have:=key w.notes w.freed;simp only [Jb] at h2;omega
   ·rw [cond_true];have hf':c.from_ >=0:=by simpa using hf
    have:=key (w.notes ++ [⟨2,c.from_,n,0,c.has⟩]) w.freed;rw [ZgO] at this;have e2:wts [(⟨2,c.from_,n,0,c.has⟩:Zd)]=1:=rfl;rw [e2] at this;simp only [Jb,if_pos hf'] at h2;omega
  ·simp only [cond_true];have:=key w.notes (Jp n w.freed);simp only [Jb] at h2;omega
 ·exact Nat.le_refl _
theorem Zoj (n:Int) (r:Row):Jb (Ul r n)=Jb (some (look r n)):=by
 unfold look;cases Ul r n <;> rfl
theorem Zvc {x:Zd} (R:Rx w Ka [x]):mu (Qe w x) + 1 <=mu w + wt x:=by
 have hn:=R.nn x (by simp);obtain⟨n,hxn⟩:∃ n,x.name=n:= ⟨_,rfl⟩
 rw [hxn] at hn;have hfl:∀ y ∈ [x],y.name=n:=by simp [hxn]
 obtain⟨h,H⟩:=R.nm n hn;rw [Kr hfl] at H;have H:Nm w.cells.length n (YO w n) (x::QS w n) h:=H;have hx:=H.KJ x (by simp);obtain⟨m',hm'⟩:∃ m',x.Zy.toNat=m':= ⟨_,rfl⟩
 have hmm:(m':Int)=x.Zy:=by omega
 have hm:m' < w.cells.length:=by omega
 have L:=H.look x.Zy;have KQ:look (rowOf w m') n=Zai n (YO w n) x.Zy:=by rw [Zfg hm,hmm]
 unfold Qe;rw [hm',hxn];dsimp only;obtain⟨c,hc⟩:∃ c,Zai n (YO w n) x.Zy=c:= ⟨_,rfl⟩
 rw [hc] at L KQ;have hlo:=Zoj n (rowOf w m');rw [KQ] at hlo ⊢;have hsrt:=R.Yu m' hm
 have hmp:∀ {d:Za},d.name=n ->mu (cw w m' (put d (rowOf w m'))) + Jb (some c)=mu w + Jb (some d):=fun hd=>by
  have:=Zz2 hm hsrt hd;rw [hlo] at this;exact this
 have hcw:∀ {d:Za},d.name=n ->Ul (rowOf (cw w m' (put d (rowOf w m'))) m') n=some d∧J9 (rowOf (cw w m' (put d (rowOf w m'))) m'):=fun hd=>⟨Zfp hm hsrt hd,by rw [Qq hm];exact hsrt.put⟩
 have hwt:1 <=wt x:=by unfold wt;split <;> omega
 cases k1:(x.kind==1)
 ·rw [cond_false];cases k2:(x.kind==2)
  ·rw [cond_false];have h1:=hmp (d:= ⟨c.name,true,-1,0,ZJ (c.out + 16),c.use⟩) L.nam;obtain⟨h2,h3⟩:=hcw (d:= ⟨c.name,true,-1,0,ZJ (c.out + 16),c.use⟩) L.nam
   have k3:x.kind=3:=by
    rcases hx.2.2.2 with z | z | z
    ·rw [z.1] at k1;cases k1
    ·rw [z.1] at k2;cases k2
    ·exact z.1
   have hw1:wt x=1:=by unfold wt;rw [if_neg (by omega)]
   cases hf:decide (c.from_ >=0)
   ·simp only [cond_false];rw [Qs h2];have h4:=Zfc (by rw [Yd];exact hm) h3 h2;have hf':¬ c.from_ >=0:=by simpa using hf
    simp only [Jb,if_neg hf',if_neg (by omega:¬ (-1:Int) >=0)] at h1;omega
   ·simp only [cond_true];have hf':c.from_ >=0:=by simpa using hf
    have hne:c.from_ ≠ x.Zy:=by rcases L.cel with z | z;exact z.2.2.2.1;omega
    have hb:Xp (cw w m' (put ⟨c.name,true,-1,0,ZJ (c.out + 16),c.use⟩ (rowOf w m'))) m' n c.from_ c.has=sent (cw w m' (put ⟨c.name,true,-1,0,ZJ (c.out + 16),c.use⟩ (rowOf w m'))) ⟨2,c.from_,n,0,c.has⟩:=by
     unfold Xp;have:(c.from_ != (m':Int))=true:=by simp;omega
     rw [this,cond_true]
    rw [hb];have hrow:rowOf (sent (cw w m' (put ⟨c.name,true,-1,0,ZJ (c.out + 16),c.use⟩ (rowOf w m'))) ⟨2,c.from_,n,0,c.has⟩) m'=rowOf (cw w m' (put ⟨c.name,true,-1,0,ZJ (c.out + 16),c.use⟩ (rowOf w m'))) m':=rfl;rw [hrow,Qs h2];have h4:=Zfc (w:=sent (cw w m' (put ⟨c.name,true,-1,0,ZJ (c.out + 16),c.use⟩ (rowOf w m'))) ⟨2,c.from_,n,0,c.has⟩) (m:=m') (n:=n) (by show m' < (cw _ _ _).cells.length;rw [Yd];exact hm) h3 h2;have h5:=ZpY (w:=cw w m' (put ⟨c.name,true,-1,0,ZJ (c.out + 16),c.use⟩ (rowOf w m'))) ⟨2,c.from_,n,0,c.has⟩;simp only [Jb,if_pos hf',if_neg (by omega:¬ (-1:Int) >=0)] at h1;have:wt ⟨2,c.from_,n,0,c.has⟩=1:=rfl;omega
  ·rw [cond_true];have h1:=hmp (d:= ⟨c.name,c.root,c.from_,c.has,ZJ (c.out - x.w),c.use⟩) L.nam;obtain⟨h2,h3⟩:=hcw (d:= ⟨c.name,c.root,c.from_,c.has,ZJ (c.out - x.w),c.use⟩) L.nam;have h4:=Zfc (by rw [Yd];exact hm) h3 h2;simp only [Jb] at h1;omega
 ·rw [cond_true];have hw2:wt x=2:=by unfold wt;rw [if_pos (by simpa using k1)]
  cases g1:((!c.root && (c.from_==-1)) && (x.via !=x.Zy))
  ·rw [cond_false];cases g2:((!c.root && decide (c.from_ >=0)) && (c.from_==x.via))
   ·rw [cond_false];unfold Xp;have h1:=hmp (d:= ⟨c.name,c.root,c.from_,c.has,c.out,true⟩) L.nam;simp only [Jb] at h1;cases (x.via != (m':Int))
    ·rw [cond_false,Uh hm hsrt (by exact L.nam),Zzj,Qq hm,ZpM hsrt (by rfl)];have h6:=hmp (d:= ⟨c.name,c.root,c.from_,c.has,ZJ (c.out - x.w),true⟩) L.nam;simp only [Jb] at h6;dsimp only at h6 ⊢;omega
    ·rw [cond_true,ZpY];have:wt ⟨2,x.via,n,0,x.w⟩=1:=rfl;omega
   ·rw [cond_true];have h1:=hmp (d:= ⟨c.name,c.root,c.from_,ZJ (c.has + x.w),c.out,true⟩) L.nam;simp only [Jb] at h1;omega
  ·rw [cond_true];have h1:=hmp (d:= ⟨c.name,c.root,x.via,x.w,c.out,true⟩) L.nam;simp at g1;simp only [Jb,g1.1.2,if_neg (by omega:¬ (-1:Int) >=0)] at h1;have:(if x.via >=0 then 1 else 0) <=1:=by split <;> omega
   omega
theorem Zz3 {k:Nat} {x:Zd} (hk:w.notes[k]? =some x):mu (Ur w k) + wt x=mu w:=by
 obtain⟨hkl,hkx⟩:=List.getElem?_eq_some_iff.1 hk
 have K7:w.notes=w.notes.take k ++ x::w.notes.drop (k + 1):=by
  rw [← hkx,← List.drop_eq_getElem_cons hkl,List.take_append_drop]
 unfold mu Ur;show _ + wts (w.notes.take k ++ w.notes.drop (k + 1)) + wt x=_ + wts w.notes
 conv=>rhs;rw [K7]
 rw [ZgO,ZgO];simp only [wts];have:Zba (fun m=>Ko (rowOf {cells:=w.cells,notes:=w.notes.take k ++ w.notes.drop (k + 1),names:=w.names,freed:=w.freed} m)) w.cells.length=Zba (fun m=>Ko (rowOf w m)) w.cells.length:=rfl;show Zba (fun m=>Ko (rowOf w m)) w.cells.length + _ + _=Zba (fun m=>Ko (rowOf w m)) w.cells.length + _;omega
theorem ZiA (R:Rt w) {k:Nat} {x:Zd} (hk:w.notes[k]? =some x):mu (Qe (Ur w k) x) + 1 <=mu w:=by
 have h1:=Zvc (Zky R hk).1;have h2:=Zz3 hk;omega
theorem Ztv (R:Rt w):mu w <=232:=by
 have h1:wts w.notes <=2 * w.notes.length:=by
  induction w.notes with
  | nil=>simp [wts]
  | cons x l ih=>simp only [wts,List.length_cons];unfold wt;split <;> omega
 have h2:∀ k,k <=w.cells.length ->Zba (fun m=>Ko (rowOf w m)) k <=12 * k:=by
  intro k
  induction k with
  | zero=>intro _;simp [Zba]
  | succ k ih=>
    intro hk;have:=ih (by omega);have h3:=Szd.Zbf R.n12 (R.Yu k (by omega)) (R.names k (by omega));have h4:Ko (rowOf w k) <= (rowOf w k).length:=List.countP_le_length;simp only [Zba];omega
 have:=h2 _ (Nat.le_refl _);have:=R.c6;have:=R.KJ;unfold mu;omega
end
end Go.Proofs.Ytekpjgmhkkjhgaa
end
section
namespace Go.Proofs.Ytekpjgmhkkjhgaa
open Go.Lf
section
variable {w:Zb} {n:Int} {st:Store} {F:Nat}
end
end Go.Proofs.Ytekpjgmhkkjhgaa
end
section
namespace Go.Proofs.Ytekpjgmhkkjhgaa
open Go.Lf
structure U8 (a:ZaF):Prop where
 ud:0 <=a.Z4∧a.Z4 <=255
 ua:0 <=a.at_∧a.at_ <=255
 un:0 <=a.name∧a.name <=255
 ut:0 <=a.Zy∧a.Zy <=255
theorem UR {a b:Int} (h0:0 <=a) (hb:0 < b):ZbV a b=some (a % b)∧0 <=a % b∧a % b < b:=by
 refine⟨?_,Int.emod_nonneg _ (by omega),Int.emod_lt_of_pos _ hb⟩;unfold ZbV;have:(b==0)=false:=by simp;omega
 rw [this,cond_false,Int.tmod_eq_emod_of_nonneg h0]
structure Zf5 (d:Zn) (M nm nt:Int):Prop where
 form:Qb d M=true
 make:d.Z4=1 ->nm < 12
 name:d.Z4=2∨d.Z4=3∨d.Z4=4 ->0 <=d.name∧d.name < nm
 note:d.Z4=5 ->0 <=d.at_∧d.at_ < nt
 kind:d.Z4=1∨d.Z4=2∨d.Z4=3∨d.Z4=4∨d.Z4=5
theorem ZxW {a:ZaF} (u:U8 a) {M nm nt:Int} (hM:1 <=M∧M <=6) (hn:0 <=nm∧nm <=12) (ht:0 <=nt∧nt <=1000):∃ d b,ZuP a M nm nt=some (d,b)∧(b=true ->Zf5 d M nm nt):=by
 obtain⟨⟨d0,d1⟩,⟨a0,a1⟩,⟨n0,n1⟩,⟨t0,t1⟩⟩:=u;unfold ZuP;rw [YL (n:=a.at_) (by omega) (by omega),YL (n:=a.name) (by omega) (by omega)];obtain⟨e1,at0,at1⟩:=UR (a:=a.at_) (b:=M) a0 (by omega);rw [e1,Option.bind_some];obtain⟨at_,hat⟩:∃ x,a.at_ % M=x:= ⟨_,rfl⟩
 rw [hat] at at0 at1 ⊢
 have ZFT:∀ (name Zy k:Int) (c:Bool),(0 < nm ->0 <=name∧name < nm) ->(1 < M ->(0 <=Zy∧Zy < M)∧Zy ≠ at_) ->(c=true∨c=false) ->∃ d b,ZfB a M nm nt at_ name Zy k c=some (d,b)∧(b=true ->Zf5 d M nm nt):=by
  intro name Zy k c hnm hto _;unfold ZfB;cases c
  ·simp only [cond_false];cases h3:(k==3)
   ·simp only [cond_false];cases h4:(k==4)
    ·simp only [cond_false];cases h0:(nt==0)
     ·simp only [cond_false];rw [YL (n:=a.at_) (by omega) (by omega)]
      have hnt:0 < nt:=by have:nt ≠ 0:=by simpa using h0
                          omega
      obtain⟨e2,b0,b1⟩:=UR (a:=a.at_) (b:=nt) a0 hnt;rw [e2,Option.bind_some];refine⟨_,_,rfl,fun _=>⟨?_,fun z=>(by cases z),fun z=>(by rcases z with z | z | z <;> cases z),fun _=>⟨b0,b1⟩,.inr (.inr (.inr (.inr rfl)))⟩⟩;unfold Qb;simp [b0]
     ·simp only [cond_true];exact⟨_,_,rfl,fun z=>by cases z⟩
    ·simp only [cond_true];refine⟨_,_,rfl,fun z=>?_⟩;simp at z;have h1:=hnm (by omega);have h2:=hto (by omega);refine⟨?_,fun z=>(by cases z),fun _=>h1,fun z=>(by cases z),.inr (.inr (.inr (.inl rfl)))⟩;unfold Qb;simp;refine⟨⟨⟨at0,at1⟩,h2.1⟩,fun e=>h2.2 e.symm,h1.1⟩
   ·simp only [cond_true];refine⟨_,_,rfl,fun z=>?_⟩;simp at z;have h1:=hnm (by omega);refine⟨?_,fun z=>(by cases z),fun _=>h1,fun z=>(by cases z),.inr (.inr (.inl rfl))⟩;unfold Qb;simp;exact⟨⟨at0,at1⟩,h1.1⟩
  ·simp only [cond_true];refine⟨_,_,rfl,fun z=>?_⟩;simp at z;have h1:=hnm (by omega);have h2:=hto (by omega);refine⟨?_,fun z=>(by cases z),fun _=>h1,fun z=>(by cases z),.inr (.inl rfl)⟩;unfold Qb;simp;refine⟨⟨⟨at0,at1⟩,h2.1⟩,fun e=>h2.2 e.symm,h1.1⟩
 have ZFU:∀ (name Zy:Int),(0 < nm ->0 <=name∧name < nm) ->(1 < M ->(0 <=Zy∧Zy < M)∧Zy ≠ at_) ->∃ d b,ZfC a M nm nt at_ name Zy=some (d,b)∧(b=true ->Zf5 d M nm nt):=by
  intro name Zy hnm hto;unfold ZfC;obtain⟨e2,b0,b1⟩:=UR (a:=a.Z4) (b:=9) d0 (by omega);rw [e2,Option.bind_some];cases h0:(a.Z4 % 9==0)
  ·simp only [cond_false];cases h1:(a.Z4 % 9==1)
   ·simp only [cond_false];exact ZFT name Zy _ _ hnm hto (by cases (a.Z4 % 9==2) <;> simp)
   ·simp only [cond_true];exact ZFT name Zy _ _ hnm hto (.inl rfl)
  ·simp only [cond_true];refine⟨_,_,rfl,fun z=>?_⟩;simp at z;refine⟨?_,fun _=>z,fun z=>(by rcases z with z | z | z <;> cases z),fun z=>(by cases z),.inl rfl⟩;unfold Qb;simp;exact⟨at0,at1⟩
 have ZFV:∀ (name:Int),(0 < nm ->0 <=name∧name < nm) ->∃ d b,ZfD a M nm nt at_ name=some (d,b)∧(b=true ->Zf5 d M nm nt):=by
  intro name hnm;unfold ZfD;cases h1:decide (M > 1)
  ·rw [cond_false];exact ZFU name 0 hnm (fun z=>by simp at h1;omega)
  ·rw [cond_true,YL (n:=a.Zy) (by omega) (by omega),YL (n:=M - 1) (by omega) (by omega)];have hM1:1 < M:=by simpa using h1
   obtain⟨e2,b0,b1⟩:=UR (a:=a.Zy) (b:=M - 1) t0 (by omega);rw [e2,Option.bind_some,YL (n:=at_ + 1) (by omega) (by omega),YL (n:=at_ + 1 + a.Zy % (M - 1)) (by omega) (by omega)];obtain⟨e3,c0,c1⟩:=UR (a:=at_ + 1 + a.Zy % (M - 1)) (b:=M) (by omega) (by omega);rw [e3,Option.bind_some];refine ZFU name _ hnm fun _=>⟨⟨c0,c1⟩,?_⟩
   by_cases hlt:at_ + 1 + a.Zy % (M - 1) < M
   ·rw [Int.emod_eq_of_lt (by omega) hlt];omega
   ·have:(at_ + 1 + a.Zy % (M - 1)) % M=at_ + 1 + a.Zy % (M - 1) - M:=by
     rw [← Int.sub_emod_right,Int.emod_eq_of_lt (by omega) (by omega)]
    rw [this];omega
 cases h0:decide (nm > 0)
 ·rw [cond_false];exact ZFV 0 (fun z=>by simp at h0;omega)
 ·rw [cond_true];obtain⟨e2,b0,b1⟩:=UR (a:=a.name) (b:=nm) n0 (by simpa using h0);rw [e2,Option.bind_some];exact ZFV _ (fun _=>⟨b0,b1⟩)
section
variable {w:Zb} {F:Nat}
theorem ZbA {α:Type} {F:Nat} {l:List α} (hl:l.length < 1000) (hF:1000 <=F) (body:Int ->(Int ->Option Bool) ->Option Bool) (h1:∀ (k:Nat) y next,l[k]? =some y ->body (k:Int) next=next (ZJ ((k:Int) + 1))) (h2:∀ next,body (l.length:Int) next=some true):loop F body 0=some true:=by
 refine(YU l (fun v (_:Unit)=>v) body (fun _ _ _ next=>next ()) (fun _=>some true) (by omega) (fun k y q next hy hk=>h1 k y _ hy) (fun q next=>h2 next) (by omega) ()).trans ?_;rw [(Jf (fun _ _ s=>s) (fun _ _=>True) trivial (fun _ _ _ _ _ _=>⟨rfl,trivial⟩)).1]
def JJ (p:Int):Zb:= ⟨List.replicate (1 + p % 6).toNat [],[],0,[]⟩
theorem Zm2 {p:Int} (h:0 <=p):Rt (JJ p)∧(JJ p).cells.length= (1 + p % 6).toNat:=by
 have:=Int.emod_nonneg p (b:=6) (by decide);have:=Int.emod_lt_of_pos p (b:=6) (by decide);exact⟨Zp0 ⟨by omega,by omega⟩,by unfold JJ;simp⟩
theorem ZmF (hF:1000 <=F) {p:Int} (h0:0 <=p) (h1:p <=255) (l:List ZaF):ZrM F p l= (slL l 0 (if 120 < (l.length:Int) then 120 else(l.length:Int))).bind fun z=>loop F (ZdR F z) (0,[],[],(JJ p).cells,(JJ p).notes,(JJ p).names,(JJ p).freed):=by
 unfold ZrM;rw [YL (n:=p) (by omega) (by omega)];obtain⟨e1,b0,b1⟩:=UR (a:=p) (b:=6) h0 (by omega);rw [e1,Option.bind_some,YL (n:=1 + p % 6) (by omega) (by omega),Zrb hF]
 have hm:Zp1 (1 + p % 6)= (JJ p,0):=by
  unfold Zp1;have:(decide (1 <=1 + p % 6) && decide (1 + p % 6 <=6))=true:=by simp;omega
  rw [this];rfl
 rw [hm];have hlen:((JJ p).cells.length:Int)=1 + p % 6:=by rw [(Zm2 h0).2];omega
 simp only [Option.bind_some,bne_self_eq_false,Bool.not_false,ZcS,hlen,Bool.or_self,cond_false];rw [YL (n:=1 + p % 6) (by omega) (by omega)];simp only [bne_self_eq_false,Bool.or_self,cond_false]
theorem Zv6 {α:Type} (l:List α) (N:Nat):slL l 0 (if(N:Int) < (l.length:Int) then(N:Int) else(l.length:Int))=some (l.take N):=by
 by_cases h:N < l.length
 ·rw [if_pos (by omega)];have:=KG (xs:=l) (a:=0) (b:=N) (by omega) (by omega);rw [List.drop_zero] at this;exact this
 ·rw [if_neg (by omega)];have:=KG (xs:=l) (a:=0) (b:=l.length) (by omega) (Nat.le_refl _);rw [List.drop_zero,List.take_length] at this;rw [List.take_of_length_le (by omega)];exact this
theorem Zlx {d:Zn} (R:Rt w) (hf:Qb d w.cells.length=true):doW w d=stepW w d:=by
 unfold doW;rw [R.right,hf];rfl
end
end Go.Proofs.Ytekpjgmhkkjhgaa
end
section
namespace Go.Proofs.Ytekpjgmhkkjhgaa
open Go.Lf
def gives (l:List Zd):List Yy:= (l.filter fun x=>x.kind==1).map fun x=>⟨x.Zy,x.name⟩
def Uses (w:Zb) (s:Yy):Prop:=∃ c,YO w s.name s.at_=some c∧c.use=true
structure Fits (w:Zb) (m:Model):Prop where
 mem:∀ s,s ∈ m.uses↔Uses w s
 nd:m.uses.Nodup
 ways:m.ways=gives w.notes
theorem QK (x y:Yy):KW x y=decide (x=y):=by
 obtain⟨a,b⟩:=x;obtain⟨c,d⟩:=y;unfold KW;by_cases h:a=c
 ·by_cases k:b=d
  ·simp [h,k]
  ·simp [h,k]
 ·simp [h]
theorem Zat {F:Nat} (hF:1000 <=F) {l:List Yy} (hl:l.length < 1000) (x:Yy):Zlc F l x=some (decide (x ∈ l)):=by
 unfold Zlc ZxA
 have e:=YU l (fun v (_:Unit)=>v) (Zfw l x) (fun k y s next=>bif KW x y then some (k:Int) else next ()) (fun _=>some (-1)) (by omega) (fun k y s next hy hk=>by
  simp only [Zfw,ZU,hy,hk,decide_true,Option.bind_some,cond_true]) (fun s next=>by simp [Zfw]) (by omega:l.length < F) ()
 rw [show loop F (Zfw l x) 0=_ from e];rcases ZcP (l:=l) (i:=0) (s:= ()) (d:=fun _=>some (-1)) (g:=fun k (y:Yy) (_:Unit) next=>bif KW x y then some (k:Int) else next ()) (fun k=>some (k:Int)) (fun c=>KW x c) (fun _ _ _ _=>rfl) with⟨j,y,h1,h2,h3⟩ | ⟨h1,h2⟩
 ·rw [h3,Option.bind_some];have hy:=List.find?_some h1;rw [QK,decide_eq_true_eq] at hy;have:x ∈ l:=by rw [hy];exact List.mem_of_find?_eq_some h1
  rw [decide_eq_true this,decide_eq_true (by omega)]
 ·rw [h2,Option.bind_some]
  have:¬ x ∈ l:=by
   intro hx;rw [List.find?_eq_none] at h1;have:=h1 x hx;rw [QK] at this;simp at this
  rw [decide_eq_false this];rfl
theorem Zq1 {F:Nat} (hF:1000 <=F) {l:List Yy} (hl:l.length < 1000):ZrG F l l=some true:=by
 unfold ZrG;rw [show((l.length:Int) != (l.length:Int))=false by simp,cond_false];refine ZbA hl hF _ (fun k y next hy=>?_) (fun next=>?_)
 ·have hk:= (List.getElem?_eq_some_iff.1 hy).1;simp only [Zk6,ZU,hy,Option.bind_some];rw [decide_eq_true (by omega),cond_true,QK];simp
 ·simp only [Zk6];rw [decide_eq_false (by omega),cond_false]
section
variable {w:Zb} {m:Model} {F:Nat}
theorem Zbp {n:Int} (h:Z6 w n=true):(w.freed.any fun y=>y==n)=false:=by
 unfold Z6 at h;rw [Bool.and_eq_true,Bool.not_eq_true'] at h;exact h.2
def ZeW (w:Zb) (k:Nat):List Yy:= ((rowOf w k).filter fun c=>c.use).map fun c=>⟨(k:Int),c.name⟩
def Zbd (w:Zb):Nat ->List Yy | 0=>[] | k + 1=>Zbd w k ++ ZeW w k
theorem Zhr (R:Rt w) {k:Nat} (hk:k < w.cells.length) (s:Yy):s ∈ ZeW w k↔s.at_= (k:Int)∧Uses w s:=by
 unfold ZeW;rw [List.mem_map]
 constructor
 ·rintro⟨c,hc,rfl⟩;rw [List.mem_filter] at hc;exact⟨rfl,c,R.ZfV hk hc.1,hc.2⟩
 ·rintro⟨h1,c,h2,h3⟩;obtain⟨a,b⟩:=s;dsimp only at h1 h2;subst h1;rw [Q5 hk] at h2;have hn:=Qu h2;exact⟨c,List.mem_filter.2 ⟨Zbv (show Ul (rowOf w k) b=some c from h2),h3⟩,by rw [hn]⟩
theorem Zq2 (R:Rt w) {k:Nat} (hk:k < w.cells.length):(ZeW w k).Nodup:=by
 unfold ZeW;rw [List.nodup_iff_pairwise_ne,List.pairwise_map];refine List.Pairwise.imp ?_ (List.Pairwise.filter _ (R.Yu k hk));intro a b h e;have:a.name=b.name:=congrArg Yy.name e;omega
theorem Zds (R:Rt w):∀ k,k <=w.cells.length ->∀ s:Yy,s ∈ Zbd w k↔(0 <=s.at_∧s.at_ < (k:Int))∧Uses w s
 | 0,_,s=>by simp [Zbd];omega
 | k + 1,hk,s=>by
   unfold Zbd;rw [List.mem_append,Zds R k (by omega),Zhr R (by omega)]
   constructor
   ·rintro(⟨h1,h2⟩ | ⟨h1,h2⟩)
    ·exact⟨by omega,h2⟩
    ·exact⟨by omega,h2⟩
   ·rintro⟨h1,h2⟩;by_cases e:s.at_= (k:Int)
    ·exact .inr ⟨e,h2⟩
    ·exact .inl ⟨by omega,h2⟩
theorem ZjA (R:Rt w):∀ k,k <=w.cells.length ->(Zbd w k).Nodup
 | 0,_=>List.nodup_nil
 | k + 1,hk=>by
   unfold Zbd;rw [List.nodup_append];refine⟨ZjA R k (by omega),Zq2 R (by omega),fun a ha b hb e=>?_⟩;subst e;have h1:= ((Zds R k (by omega) a).1 ha).1;have h2:= ((Zhr R (by omega) a).1 hb).1;omega
theorem Uses.range {s:Yy} (h:Uses w s):0 <=s.at_∧s.at_ < (w.cells.length:Int):=by
 obtain⟨c,h1,_⟩:=h;exact(Qd h1).1
theorem Fits.len (R:Rt w) (f:Fits w m):m.uses.length= (Zbd w w.cells.length).length:=by
 refine List.Perm.length_eq ((List.perm_ext_iff_of_nodup f.nd (ZjA R _ (Nat.le_refl _))).2 fun s=>?_);rw [f.mem,Zds R _ (Nat.le_refl _)];exact⟨fun h=>⟨h.range,h⟩,fun h=>h.2⟩
def Zdo (w:Zb):Nat ->Nat | 0=>0 | k + 1=>Zdo w k + (rowOf w k).countP fun c=>c.use
theorem Zdt (w:Zb):∀ k,(Zbd w k).length=Zdo w k
 | 0=>rfl
 | k + 1=>by
   unfold Zbd Zdo;rw [List.length_append,Zdt w k];unfold ZeW;rw [List.length_map,List.countP_eq_length_filter]
theorem ZeT (R:Rt w):∀ k,k <=w.cells.length ->Zdo w k <=12 * k
 | 0,_=>by simp [Zdo]
 | k + 1,hk=>by
   have h1:=ZeT R k (by omega);have h2:=Szd.Zbf R.n12 (R.Yu k (by omega)) (R.names k (by omega));have h3:(rowOf w k).countP (fun c=>c.use) <= (rowOf w k).length:=List.countP_le_length;unfold Zdo;omega
theorem Fits.small (R:Rt w) (f:Fits w m):m.uses.length <=72∧m.ways.length <=80:=by
 have h1:=ZeT R w.cells.length (Nat.le_refl _);have:=R.c6;refine⟨by rw [f.len R,Zdt];omega,?_⟩;rw [f.ways];unfold gives;rw [List.length_map];exact Nat.le_trans (List.length_filter_le _ _) R.KJ
theorem Uses.name {s:Yy} (R:Rt w) (h:Uses w s):Z6 w s.name=true:=by
 obtain⟨c,h1,_⟩:=h;exact(R.rx.1.cn _ _ _ h1).1
theorem Zqj (hF:1000 <=F) (R:Rt w) (f:Fits w m):ZrK F m w=some true:=by
 have sm:=R.small;have hc:=sm.cells;have hno:=sm.notes;obtain⟨hu,hw⟩:=f.small R;have hn0:=R.n0;have ZH6:=R.n12;have hnt:=R.KJ;unfold ZrK;have hb:(decide (w.names < 0) || decide (w.names > 12))=false:=by simp;omega
 rw [hb,cond_false]
 have l4:∀ z:List Yy,z=m.uses ++ m.ways ->loop F (Zii F m w (gives w.notes) (m.uses.length:Int) z) 0=some true:=by
  intro z hz;have hzl:z.length < 1000:=by rw [hz,List.length_append];omega
  have hzf:∀ s ∈ z,(w.freed.any fun y=>y==s.name)=false:=by
   intro s hs;rw [hz] at hs;rcases List.mem_append.1 hs with h | h
   ·exact Zbp (((f.mem s).1 h).name R)
   ·rw [f.ways] at h;unfold gives at h;rw [List.mem_map] at h;obtain⟨x,hx,rfl⟩:=h;exact Zbp (R.nn x (List.mem_filter.1 hx).1)
  refine ZbA hzl hF _ (fun k y next hy=>?_) (fun next=>?_)
  ·have hk:= (List.getElem?_eq_some_iff.1 hy).1;simp only [Zii,ZU,hy,Option.bind_some];rw [decide_eq_true (by omega),cond_true,contains_eq hF sm.freed,hzf y (List.mem_of_getElem? hy)];rfl
  ·simp only [Zii];rw [decide_eq_false (by omega),cond_false,f.ways,Zq1 hF (by rw [← f.ways];omega)];simp [gd]
 have l3:loop F (Zij F m w (gives w.notes) (m.uses.length:Int)) 0=some true:=by
  refine ZbA hno hF _ (fun k y next hy=>?_) (fun next=>?_)
  ·have hk:= (List.getElem?_eq_some_iff.1 hy).1;simp only [Zij,ZU,hy,Option.bind_some];rw [decide_eq_true (by omega),cond_true,contains_eq hF sm.freed,Zbp (R.nn y (List.mem_of_getElem? hy))];rfl
  ·simp only [Zij];unfold ZxB;rw [decide_eq_false (by omega),cond_false,XT (by simp only [List.length_nil];omega) (by decide)];simp only [Option.bind_some,List.nil_append];rw [XT (by omega) (by decide),Option.bind_some,l4 _ rfl]
 have l2:∀ (k:Nat) (cnt:Nat) (next:Int×Int ->Option Bool),k < w.cells.length ->cnt <=100 ->loop F (ZfE F m w (k:Int) next (rowOf w k)) ((cnt:Int),0)=next (((cnt + (rowOf w k).countP (fun c=>c.use):Nat):Int),ZJ ((k:Int) + 1)):=by
  intro k cnt next hk hcnt;have hr:=Szd.Zbf R.n12 (R.Yu k hk) (R.names k hk);refine(YU (rowOf w k) (fun v (s:Int)=>(s,v)) (ZfE F m w (k:Int) next (rowOf w k)) (fun _ c s nx=>nx (bif c.use then ZJ (s + 1) else s)) (fun s=>next (s,ZJ ((k:Int) + 1))) (by omega) (fun j c s nx hj hjk=>?_) (fun s nx=>?_) (by omega) (cnt:Int)).trans ?_
  ·have hcm:=List.mem_of_getElem? hj;have hcv:=R.ZfV hk hcm;simp only [ZfE,ZU,hj,hjk,decide_true,cond_true,Option.bind_some];rw [contains_eq hF sm.freed,Zbp (R.cn k hk c hcm).1,Option.bind_some,cond_false];cases hcu:c.use
   ·simp only [cond_false];rfl
   ·simp only [cond_true];have hmem:(⟨(k:Int),c.name⟩:Yy) ∈ m.uses:= (f.mem _).2 ⟨c,hcv,hcu⟩;rw [Zat hF (by omega),decide_eq_true hmem];rfl
  ·simp only [ZfE];rw [decide_eq_false (by omega),cond_false]
  ·rw [(Jf (fun _ (c:Za) (s:Int)=>bif c.use then ZJ (s + 1) else s) (fun _ _=>True) trivial (fun _ _ _ _ _ _=>⟨rfl,trivial⟩)).1];rw [JI];have:=ZdS (fun c:Za=>c.use) (rowOf w k) cnt (by omega);rw [this]
 have l1:∀ (d k F':Nat),k + d=w.cells.length ->d < F' ->loop F' (ZdO F m w (gives w.notes)) ((Zdo w k:Int),(k:Int))=some true:=by
  intro d
  induction d with
  | zero=>
    intro k F' hk hF';obtain⟨F',rfl⟩:=Nat.exists_eq_succ_of_ne_zero (n:=F') (by omega);have:k=w.cells.length:=by omega
    subst this;rw [Ya];simp only [ZdO];rw [decide_eq_false (by omega),cond_false,← Zdt,← f.len R,l3]
  | succ d ih=>
    intro k F' hk hF';obtain⟨F',rfl⟩:=Nat.exists_eq_succ_of_ne_zero (n:=F') (by omega);have hlt:k < w.cells.length:=by omega
    have hcn:=ZeT R k (by omega);have:=R.c6;rw [Ya];simp only [ZdO];rw [decide_eq_true (by omega),cond_true,ZU,Qx hlt,Option.bind_some,l2 k _ _ hlt (by omega),YV (by omega)];exact ih (k + 1) F' (by omega) (by omega)
 have l0:=YU w.notes (fun v (s:List Yy)=>(s,v)) (Zik F m w) (fun _ x s next=>(bif x.kind==1 then app 16 s [⟨x.Zy,x.name⟩] else some s).bind next) (fun s=>loop F (ZdO F m w s) (0,0)) (by omega) (fun k y s next hy hk=>by
  simp only [Zik,ZU,hy,hk,decide_true,cond_true,Option.bind_some];cases (y.kind==1)
  ·rfl
  ·simp only [cond_true]
   rfl) (fun s next=>by
  simp only [Zik];rw [decide_eq_false (by omega),cond_false]) (by omega:w.notes.length < F) []
 rw [l0]
 obtain⟨e1,e2⟩:=Jf (d:=fun s=>loop F (ZdO F m w s) (0,0)) (g:=fun(_:Nat) (x:Zd) (s:List Yy) next=>(bif x.kind==1 then app 16 s [⟨x.Zy,x.name⟩] else some s).bind next) (fun _ x s=>bif x.kind==1 then s ++ [⟨x.Zy,x.name⟩] else s) (fun i s=>s.length <=i) (l:=w.notes) (i:=0) (s:= []) (Nat.le_refl _) (fun k x s next hx hI=>by
  have hk:= (List.getElem?_eq_some_iff.1 hx).1;cases (x.kind==1)
  ·exact⟨rfl,Nat.le_succ_of_le hI⟩
  ·simp only [cond_true];rw [XT (by simp;omega) (by decide)];exact⟨rfl,by simp;omega⟩)
 rw [e1,JI]
 have hg:∀ (l:List Zd) (s:List Yy),l.foldl (fun s x=>bif x.kind==1 then s ++ [⟨x.Zy,x.name⟩] else s) s=s ++ gives l:=by
  intro l
  induction l with
  | nil=>intro s;simp [gives]
  | cons x l ih=>
    intro s;rw [List.foldl_cons,ih];unfold gives;cases hk:(x.kind==1)
    ·rw [List.filter_cons_of_neg (by simp [hk])];rfl
    ·rw [List.filter_cons_of_pos (by simp [hk])];simp
 rw [hg,List.nil_append];exact l1 w.cells.length 0 F (by omega) (by omega)
end
end Go.Proofs.Ytekpjgmhkkjhgaa
end
section
namespace Go.Proofs.Ytekpjgmhkkjhgaa
open Go.Lf
section
variable {w w':Zb} {m:Nat} {n:Int} {s:Yy}
theorem Ky (hm:m < w.cells.length):(look (rowOf w m) n).use=true↔Uses w ⟨(m:Int),n⟩:=by
 unfold Uses look;rw [Q5 hm,Y5];cases h:Ul (rowOf w m) n with
 | none=>simp [blank]
 | some c=>simp
theorem Zl9 (U:Upd w w' n) {a:Int} {o:Option Za} (V:YO w' n=Yx (YO w n) a o) (s:Yy):Uses w' s↔if s.name=n∧s.at_=a then(∃ c,o=some c∧c.use=true) else Uses w s:=by
 unfold Uses;by_cases h:s.name=n
 ·rw [h,V];by_cases e:s.at_=a
  ·rw [if_pos ⟨rfl,e⟩,e,Wj]
  ·rw [if_neg (fun z=>e z.2),Zad e]
 ·rw [if_neg (fun z=>h z.1),U.oc _ h]
theorem Zd6 (hm:m < w.cells.length) (Yu:∀ m,m < w.cells.length ->J9 (rowOf w m)) {d:Za} (hd:d.name=n) (s:Yy):Uses (cw w m (put d (rowOf w m))) s↔if s.name=n∧s.at_= (m:Int) then d.use=true else Uses w s:=by
 obtain⟨U,V,_⟩:=Qg hm Yu hd;rw [Zl9 U V s];simp
theorem ZsA (hm:m < w.cells.length) (Yu:∀ m,m < w.cells.length ->J9 (rowOf w m)) (s:Yy):Uses (cw w m (rmv n (rowOf w m))) s↔if s.name=n∧s.at_= (m:Int) then False else Uses w s:=by
 obtain⟨U,V,_⟩:=Zkt (n:=n) hm Yu;rw [Zl9 U V s];simp
theorem Zhq {a b:Int} (h:s.name=b∧s.at_=a):s= ⟨a,b⟩:=by
 obtain⟨x,y⟩:=s;obtain⟨h1,h2⟩:=h;dsimp only at h1 h2;rw [h1,h2]
theorem Kw (hm:m < w.cells.length) (Yu:∀ m,m < w.cells.length ->J9 (rowOf w m)) {d:Za} (hd:d.name=n) (hu:d.use= (look (rowOf w m) n).use) (s:Yy):Uses (cw w m (put d (rowOf w m))) s↔Uses w s:=by
 rw [Zd6 hm Yu hd];by_cases h:s.name=n∧s.at_= (m:Int)
 ·rw [if_pos h,Zhq h,hu,Ky hm]
 ·rw [if_neg h]
theorem ZcG (x:Zd) (s:Yy):Uses (sent w x) s↔Uses w s:=Iff.rfl
theorem ZcR (l:List Zd) (x:Zd):gives (l ++ [x])=gives l ++ (if x.kind=1 then [⟨x.Zy,x.name⟩] else []):=by
 unfold gives;rw [List.filter_append,List.map_append];by_cases h:x.kind=1
 ·rw [if_pos h,List.filter_cons_of_pos (by simp [h])];rfl
 ·rw [if_neg h,List.filter_cons_of_neg (by simp [h])];rfl
theorem ZdK (l:List Zd) {x:Zd} (h:x.kind ≠ 1):gives (l ++ [x])=gives l:=by
 rw [ZcR,if_neg h,List.append_nil]
theorem Zab (hm:m < w.cells.length) (Yu:∀ m,m < w.cells.length ->J9 (rowOf w m)) {c:Za} (hc:(look (rowOf w m) n).use=c.use):(∀ s,Uses (Xd w m n c) s↔Uses w s)∧gives (Xd w m n c).notes=gives w.notes:=by
 unfold Xd;cases hu:(c.use || (c.out !=0))
 ·simp only [cond_false];have hcu:c.use=false:=by cases h:c.use;rfl;rw [h] at hu;cases hu
  refine⟨fun s=>?_,?_⟩
  ·refine(show Uses _ s↔Uses (cw w m (rmv n (rowOf w m))) s from Iff.rfl).trans ?_;rw [ZsA hm Yu];by_cases h:s.name=n∧s.at_= (m:Int)
   ·rw [if_pos h,Zhq h,← Ky hm,hc,hcu];simp
   ·rw [if_neg h]
  ·cases c.root
   ·simp only [cond_false];cases decide (c.from_ >=0)
    ·rfl
    ·rw [cond_true];exact ZdK _ (show(2:Int) ≠ 1 by decide)
   ·rfl
 ·exact⟨fun s=>Iff.rfl,rfl⟩
theorem Zj9 (hm:m < w.cells.length) (Yu:∀ m,m < w.cells.length ->J9 (rowOf w m)) (Zy x:Int):(∀ s,Uses (Xp w m n Zy x) s↔Uses w s)∧gives (Xp w m n Zy x).notes=gives w.notes:=by
 unfold Xp;cases (Zy != (m:Int))
 ·rw [cond_false];exact⟨fun s=>Kw hm Yu (n:=n) (d:= {look (rowOf w m) n with out:=ZJ ((look (rowOf w m) n).out - x)}) (JR _ _) rfl s,rfl⟩
 ·rw [cond_true];exact⟨fun s=>ZcG _ s,ZdK _ (show(2:Int) ≠ 1 by decide)⟩
theorem ZqF (hm:m < w.cells.length) (Yu:∀ m,m < w.cells.length ->J9 (rowOf w m)) (Zy x:Int):(Xp w m n Zy x).cells.length=w.cells.length∧∀ k,k < w.cells.length ->J9 (rowOf (Xp w m n Zy x) k):=by
 unfold Xp;cases (Zy != (m:Int))
 ·rw [cond_false];obtain⟨U,_,_⟩:=Qg (n:=n) hm Yu (c:= {look (rowOf w m) n with out:=ZJ ((look (rowOf w m) n).out - x)}) (JR _ _);exact⟨U.len,U.Yu⟩
 ·rw [cond_true];exact⟨rfl,Yu⟩
theorem Zph (Yu:∀ m,m < w.cells.length ->J9 (rowOf w m)) {x:Zd} (hx:0 <=x.Zy∧x.Zy < (w.cells.length:Int)):(∀ s,Uses (Qe w x) s↔Uses w s∨(x.kind=1∧s= ⟨x.Zy,x.name⟩))∧gives (Qe w x).notes=gives w.notes:=by
 obtain⟨m,hmm⟩:∃ m,x.Zy.toNat=m:= ⟨_,rfl⟩
 have hm:m < w.cells.length:=by omega
 have hat:x.Zy= (m:Int):=by omega
 have hln:=JR (rowOf w m) x.name;unfold Qe;rw [hmm];dsimp only
 have give:∀ d:Za,d.name=x.name ->d.use=true ->x.kind=1 ->∀ s,Uses (cw w m (put d (rowOf w m))) s↔Uses w s∨(x.kind=1∧s= ⟨x.Zy,x.name⟩):=by
  intro d hd hu hk s;rw [Zd6 hm Yu hd];by_cases h:s.name=x.name∧s.at_= (m:Int)
  ·rw [if_pos h,hat];exact⟨fun _=>.inr ⟨hk,Zhq h⟩,fun _=>hu⟩
  ·rw [if_neg h];refine⟨.inl,?_⟩;rintro(z | ⟨_,z⟩)
   ·exact z
   ·exact absurd ⟨by rw [z],by rw [z];exact hat⟩ h
 have Zth:x.kind ≠ 1 ->∀ s,(Uses w s∨(x.kind=1∧s= ⟨x.Zy,x.name⟩))↔Uses w s:=fun hk s=>⟨fun z=>z.elim id fun y=>absurd y.1 hk,.inl⟩
 cases k1:(x.kind==1)
 ·have hk:x.kind ≠ 1:=by simpa using k1
  rw [cond_false]
  have stl:∀ d:Za,d.name=x.name ->d.use= (look (rowOf w m) x.name).use ->(∀ s,Uses (Xd (cw w m (put d (rowOf w m))) m x.name d) s↔Uses w s)∧gives (Xd (cw w m (put d (rowOf w m))) m x.name d).notes=gives w.notes:=by
   intro d hd hu;obtain⟨U,_,_⟩:=Qg hm Yu hd;have hm2:m < (cw w m (put d (rowOf w m))).cells.length:=by rw [U.len];exact hm
   obtain⟨a,b⟩:=Zab (n:=x.name) hm2 (fun k hk=>U.Yu k (by rw [← U.len];exact hk)) (c:=d) (by rw [Uh hm (Yu m hm) hd]);exact⟨fun s=>(a s).trans (Kw hm Yu hd hu s),b⟩
  cases k2:(x.kind==2)
  ·rw [cond_false];have hd:(⟨(look (rowOf w m) x.name).name,true,-1,0,ZJ ((look (rowOf w m) x.name).out + 16),(look (rowOf w m) x.name).use⟩:Za).name=x.name:=hln;obtain⟨b,hb⟩:∃ b,cw w m (put ⟨(look (rowOf w m) x.name).name,true,-1,0,ZJ ((look (rowOf w m) x.name).out + 16),(look (rowOf w m) x.name).use⟩ (rowOf w m))=b:= ⟨_,rfl⟩
   obtain⟨U,_,_⟩:=Qg hm Yu hd;have ub:=fun s=>Kw hm Yu hd rfl s
   have gb:gives (cw w m (put ⟨(look (rowOf w m) x.name).name,true,-1,0,ZJ ((look (rowOf w m) x.name).out + 16),(look (rowOf w m) x.name).use⟩ (rowOf w m))).notes=gives w.notes:=rfl;rw [hb] at U ub gb ⊢;have hm2:m < b.cells.length:=by rw [U.len];exact hm
   have Zn5:∀ k,k < b.cells.length ->J9 (rowOf b k):=fun k hk=>U.Yu k (by rw [← U.len];exact hk)
   cases decide ((look (rowOf w m) x.name).from_ >=0)
   ·simp only [cond_false];obtain⟨a1,a2⟩:=Zab (n:=x.name) hm2 Zn5 (c:=look (rowOf b m) x.name) rfl;exact⟨fun s=>((a1 s).trans (ub s)).trans (Zth hk s).symm,a2.trans gb⟩
   ·simp only [cond_true];obtain⟨l3,s3⟩:=ZqF hm2 Zn5 (n:=x.name) (look (rowOf w m) x.name).from_ (look (rowOf w m) x.name).has;obtain⟨b1,b2⟩:=Zj9 hm2 Zn5 (n:=x.name) (look (rowOf w m) x.name).from_ (look (rowOf w m) x.name).has;obtain⟨a1,a2⟩:=Zab (n:=x.name) (by rw [l3];exact hm2) (fun k hk=>s3 k (by rw [← l3];exact hk)) (c:=look (rowOf (Xp b m x.name (look (rowOf w m) x.name).from_ (look (rowOf w m) x.name).has) m) x.name) rfl;exact⟨fun s=>(((a1 s).trans (b1 s)).trans (ub s)).trans (Zth hk s).symm,(a2.trans b2).trans gb⟩
  ·rw [cond_true];obtain⟨a,b⟩:=stl ⟨(look (rowOf w m) x.name).name,(look (rowOf w m) x.name).root,(look (rowOf w m) x.name).from_,(look (rowOf w m) x.name).has,ZJ ((look (rowOf w m) x.name).out - x.w),(look (rowOf w m) x.name).use⟩ hln rfl;exact⟨fun s=>(a s).trans (Zth hk s).symm,b⟩
 ·have hk:x.kind=1:=by simpa using k1
  rw [cond_true];generalize ((!(look (rowOf w m) x.name).root && ((look (rowOf w m) x.name).from_==-1)) && (x.via !=x.Zy))=b1;generalize ((!(look (rowOf w m) x.name).root && decide ((look (rowOf w m) x.name).from_ >=0)) && ((look (rowOf w m) x.name).from_==x.via))=b2;cases b1
  ·simp only [cond_false];cases b2
   ·simp only [cond_false];have hd:(⟨(look (rowOf w m) x.name).name,(look (rowOf w m) x.name).root,(look (rowOf w m) x.name).from_,(look (rowOf w m) x.name).has,(look (rowOf w m) x.name).out,true⟩:Za).name=x.name:=hln;obtain⟨U,_,_⟩:=Qg hm Yu hd;have hm2:m < (cw w m (put ⟨(look (rowOf w m) x.name).name,(look (rowOf w m) x.name).root,(look (rowOf w m) x.name).from_,(look (rowOf w m) x.name).has,(look (rowOf w m) x.name).out,true⟩ (rowOf w m))).cells.length:=by rw [U.len];exact hm
    obtain⟨a,b⟩:=Zj9 (n:=x.name) hm2 (fun k hk=>U.Yu k (by rw [← U.len];exact hk)) x.via x.w;exact⟨fun s=>(a s).trans (give _ hd rfl hk s),b⟩
   ·simp only [cond_true];exact⟨fun s=>give ⟨(look (rowOf w m) x.name).name,(look (rowOf w m) x.name).root,(look (rowOf w m) x.name).from_,ZJ ((look (rowOf w m) x.name).has + x.w),(look (rowOf w m) x.name).out,true⟩ hln rfl hk s,rfl⟩
  ·simp only [cond_true];exact⟨fun s=>give ⟨(look (rowOf w m) x.name).name,(look (rowOf w m) x.name).root,x.via,x.w,(look (rowOf w m) x.name).out,true⟩ hln rfl hk s,rfl⟩
theorem Zfi {l:List Zd} {k:Nat} {x:Zd} (hx:l[k]? =some x):gives (l.take k ++ l.drop (k + 1))= (if x.kind=1 then(gives l).take (gives (l.take k)).length ++ (gives l).drop ((gives (l.take k)).length + 1) else gives l)∧(x.kind=1 ->(gives l)[(gives (l.take k)).length]? =some ⟨x.Zy,x.name⟩):=by
 obtain⟨hk,hkx⟩:=List.getElem?_eq_some_iff.1 hx
 have K7:l=l.take k ++ x::l.drop (k + 1):=by
  rw [← hkx,← List.drop_eq_getElem_cons hk,List.take_append_drop]
 have happ:∀ a b:List Zd,gives (a ++ b)=gives a ++ gives b:=by
  intro a b;unfold gives;rw [List.filter_append,List.map_append]
 have ZD9:∀ b:List Zd,gives (x::b)= (if x.kind=1 then [⟨x.Zy,x.name⟩] else []) ++ gives b:=by
  intro b;have:=happ [x] b;rw [List.singleton_append] at this;rw [this];congr 1;have:=ZcR [] x;rw [List.nil_append] at this;rw [this];rfl
 have hl:gives l=gives (l.take k) ++ ((if x.kind=1 then [⟨x.Zy,x.name⟩] else []) ++ gives (l.drop (k + 1))):=by
  conv=>lhs;rw [K7]
  rw [happ,ZD9]
 rw [happ];by_cases h:x.kind=1
 ·rw [if_pos h] at hl ⊢;rw [hl];refine⟨?_,fun _=>?_⟩
  ·have key:∀ (A B:List Yy) (y:Yy),A ++ B= (A ++ ([y] ++ B)).take A.length ++ (A ++ ([y] ++ B)).drop (A.length + 1):=by
    intro A B y;rw [List.take_left,List.drop_append,List.drop_eq_nil_of_le (Nat.le_succ A.length),List.nil_append,Nat.add_sub_cancel_left]
    rfl
   exact key _ _ _
  ·rw [List.getElem?_append_right (Nat.le_refl _),Nat.sub_self];rfl
 ·rw [if_neg h] at hl ⊢;rw [hl];exact⟨rfl,fun z=>absurd z h⟩
theorem ZsB (k:Nat) (s:Yy):Uses (Ur w k) s↔Uses w s:=Iff.rfl
theorem ZaY (R:Rt w) {d:Zn} (hf:Qb d w.cells.length=true) (he:YJ w d d.at_.toNat=0):
 (d.Z4=1 ->(∀ s,Uses (Z0 w d) s↔Uses w s∨s= ⟨d.at_,w.names⟩)∧gives (Z0 w d).notes=gives w.notes)∧
 (d.Z4=2 ->(∀ s,Uses (Z0 w d) s↔Uses w s)∧gives (Z0 w d).notes=gives w.notes ++ [⟨d.Zy,d.name⟩]∧Uses w ⟨d.at_,d.name⟩)∧
 (d.Z4=3 ->(∀ s,Uses (Z0 w d) s↔Uses w s∧s ≠ ⟨d.at_,d.name⟩)∧gives (Z0 w d).notes=gives w.notes∧Uses w ⟨d.at_,d.name⟩)∧
 (d.Z4=4 ->(∀ s,Uses (Z0 w d) s↔Uses w s)∧gives (Z0 w d).notes=gives w.notes)∧
 (d.Z4=5 ->∃ x,w.notes[d.at_.toNat]? =some x∧(∀ s,Uses (Z0 w d) s↔Uses w s∨(x.kind=1∧s= ⟨x.Zy,x.name⟩))∧gives (Z0 w d).notes= (if x.kind=1 then(gives w.notes).take (gives (w.notes.take d.at_.toNat)).length ++ (gives w.notes).drop ((gives (w.notes.take d.at_.toNat)).length + 1) else gives w.notes)):=by
 have Yu:=R.Yu;unfold Z0;refine⟨fun k=>?_,fun k=>?_,fun k=>?_,fun k=>?_,fun k=>?_⟩
 ·rw [show(d.Z4==1)=true by simp [k],cond_true];rcases YT hf with⟨_,a⟩ | ⟨z,_⟩ | ⟨z,_⟩ | ⟨z,_⟩
  ·obtain⟨m,hm'⟩:∃ m,d.at_.toNat=m:= ⟨_,rfl⟩
   have hm:m < w.cells.length:=by omega
   have hat:d.at_= (m:Int):=by omega
   rw [hm'];refine⟨fun s=>?_,rfl⟩;refine(show Uses (Zei w m) s↔Uses (cw w m (put (Zfa w) (rowOf w m))) s from Iff.rfl).trans ?_;rw [Zd6 hm Yu (n:=w.names) (d:=Zfa w) rfl];by_cases h:s.name=w.names∧s.at_= (m:Int)
   ·rw [if_pos h,hat];exact⟨fun _=>.inr (Zhq h),fun _=>rfl⟩
   ·rw [if_neg h];refine⟨.inl,?_⟩;rintro(z | z)
    ·exact z
    ·exact absurd ⟨by rw [z],by rw [z];exact hat⟩ h
  all_goals omega
 ·have b1:(d.Z4==1)=false:=by simp [k]
  have b2:(d.Z4==2)=true:=by simp [k]
  rw [b1,b2,cond_false,cond_true];rcases YT hf with⟨z,_⟩ | ⟨_,a,t,ne,nm⟩ | ⟨z,_⟩ | ⟨z,_⟩
  ·omega
  ·obtain⟨m,hm'⟩:∃ m,d.at_.toNat=m:= ⟨_,rfl⟩
   have hm:m < w.cells.length:=by omega
   have hat:d.at_= (m:Int):=by omega
   rw [hm'] at he ⊢;obtain⟨c,hc,_,hu⟩:=Qz (by omega) (by omega) he;have hu:=hu (by omega);have hcn:=Qc hc;have hl:=Qs hc;rw [hl];have hus:Uses w ⟨d.at_,d.name⟩:=by rw [hat,← Ky hm,hl];exact hu
   unfold Zeb;cases (decide (c.from_ >=0) && decide (c.has >=2))
   ·rw [cond_false];exact⟨fun s=>(ZcG _ s).trans (Kw hm Yu (n:=d.name) (by exact hcn) (by rw [hl]) s),(ZcR _ _).trans (by rw [if_pos rfl];rfl),hus⟩
   ·rw [cond_true];exact⟨fun s=>(ZcG _ s).trans (Kw hm Yu (n:=d.name) (by exact hcn) (by rw [hl]) s),(ZcR _ _).trans (by rw [if_pos rfl];rfl),hus⟩
  all_goals omega
 ·have b1:(d.Z4==1)=false:=by simp [k]
  have b2:(d.Z4==2)=false:=by simp [k]
  have b5:(d.Z4==5)=false:=by simp [k]
  have b3:(d.Z4==3)=true:=by simp [k]
  rw [b1,b2,b5,b3,cond_false,cond_false,cond_false,cond_true];rcases YT hf with⟨z,_⟩ | ⟨z,_⟩ | ⟨_,a,nm⟩ | ⟨z,_⟩
  ·omega
  ·omega
  ·obtain⟨m,hm'⟩:∃ m,d.at_.toNat=m:= ⟨_,rfl⟩
   have hm:m < w.cells.length:=by omega
   have hat:d.at_= (m:Int):=by omega
   rw [hm'] at he ⊢;obtain⟨c,hc,_,hu⟩:=Qz (by omega) (by omega) he;have hu:=hu (by omega);have hcn:=Qc hc;have hl:=Qs hc;rw [hl];have hus:Uses w ⟨d.at_,d.name⟩:=by rw [hat,← Ky hm,hl];exact hu
   have hdn:(Zan c).name=d.name:=hcn;obtain⟨U,_,_⟩:=Qg hm Yu hdn;have hm2:m < (cw w m (put (Zan c) (rowOf w m))).cells.length:=by rw [U.len];exact hm
   unfold Zgv;obtain⟨a1,a2⟩:=Zab (n:=d.name) hm2 (fun k hk=>U.Yu k (by rw [← U.len];exact hk)) (c:=Zan c) (by rw [Uh hm (Yu m hm) hdn]);refine⟨fun s=>(a1 s).trans ?_,a2,hus⟩;rw [Zd6 hm Yu hdn];by_cases h:s.name=d.name∧s.at_= (m:Int)
   ·rw [if_pos h,hat];refine⟨fun z=>(by cases z),fun z=>absurd (Zhq h) z.2⟩
   ·rw [if_neg h];refine⟨fun z=>⟨z,fun y=>h ⟨by rw [y],by rw [y];exact hat⟩⟩,fun z=>z.1⟩
  ·omega
 ·have b1:(d.Z4==1)=false:=by simp [k]
  have b2:(d.Z4==2)=false:=by simp [k]
  have b5:(d.Z4==5)=false:=by simp [k]
  have b3:(d.Z4==3)=false:=by simp [k]
  rw [b1,b2,b5,b3,cond_false,cond_false,cond_false,cond_false];rcases YT hf with⟨z,_⟩ | ⟨_,a,t,ne,nm⟩ | ⟨z,_⟩ | ⟨z,_⟩
  ·omega
  ·obtain⟨m,hm'⟩:∃ m,d.at_.toNat=m:= ⟨_,rfl⟩
   have hm:m < w.cells.length:=by omega
   rw [hm'] at he ⊢;obtain⟨c,hc,_,_⟩:=Qz (by omega) (by omega) he;have hcn:=Qc hc;have hl:=Qs hc;rw [hl];unfold goW;exact⟨fun s=>(ZcG _ s).trans (Kw hm Yu (n:=d.name) (by exact hcn) (by rw [hl];rfl) s),ZdK _ (show(3:Int) ≠ 1 by decide)⟩
  all_goals omega
 ·have b1:(d.Z4==1)=false:=by simp [k]
  have b2:(d.Z4==2)=false:=by simp [k]
  have b5:(d.Z4==5)=true:=by simp [k]
  rw [b1,b2,b5,cond_false,cond_false,cond_true]
  have hlt:d.at_.toNat < w.notes.length:=by
   unfold YJ at he;rw [b1,b5,cond_false,cond_true] at he;rcases YT hf with⟨z,_⟩ | ⟨z,_⟩ | ⟨z,_⟩ | ⟨_,z⟩
   ·omega
   ·omega
   ·omega
   ·by_cases h:d.at_ >= (w.notes.length:Int)
    ·rw [decide_eq_true h] at he;cases he
    ·omega
  obtain⟨x,hx⟩:∃ x,w.notes[d.at_.toNat]? =some x:= ⟨_,List.getElem?_eq_getElem hlt⟩
  refine⟨x,hx,?_⟩;rw [hx,Option.getD_some];have hxm:x ∈ w.notes:=List.mem_of_getElem? hx;obtain⟨h,H⟩:=R.rx.1.nm _ (R.nn x hxm);have hto:= (H.KJ x (List.mem_append_right _ (List.mem_filter.2 ⟨hxm,by simp⟩))).1;obtain⟨a,b⟩:=Zph (w:=Ur w d.at_.toNat) Yu hto;exact⟨fun s=>(a s).trans (by rw [ZsB]),b.trans (Zfi hx).1⟩
end
end Go.Proofs.Ytekpjgmhkkjhgaa
end
section
namespace Go.Proofs.Ytekpjgmhkkjhgaa
open Go.Lf
def less (l:List Yy) (t:Yy):List Yy:=l.filter fun x=>!(KW x t)
theorem ZtE (l:List Yy) (t s:Yy):s ∈ less l t↔s ∈ l∧s ≠ t:=by
 unfold less;rw [List.mem_filter,QK];simp
theorem Zu2 {t:Yy} {m:Model} {d:Zn} (ht:Yy.mk d.at_ d.name=t) (l0:List Yy) (hl:l0.length < 1000):∀ (k j i F':Nat) (v:List Yy),j + k=l0.length ->k < F' ->i <=j ->v.length=l0.length ->v.take i=less (l0.take j) t ->v.drop j=l0.drop j ->
 loop F' (Zil m d) ((i:Int),(j:Int),v)=some ⟨less l0 t,m.ways⟩:=by
 intro k
 induction k with
 | zero=>
   intro j i F' v hj hF' hij hvl h1 h2;obtain⟨F',rfl⟩:=Nat.exists_eq_succ_of_ne_zero (n:=F') (by omega);have hjl:j=l0.length:=by omega
   rw [Ya];simp only [Zil];rw [decide_eq_false (by omega),cond_false,KG (by omega) (Nat.le_refl _),Option.bind_some,Int.toNat_natCast];have hl2:((v.take v.length).drop i).length=v.length - i:=by simp
   have e:=KG (xs:=v.take i ++ List.replicate ((v.take v.length).drop i).length (Yy.mk 0 0)) (a:=0) (b:=i) (Nat.zero_le _) (by simp;omega);rw [show((0:Nat):Int)=0 from rfl] at e;rw [e,Option.bind_some,List.drop_zero,List.take_append_of_le_length (by simp;omega),List.take_take,Nat.min_self,h1,hjl,List.take_length]
   rfl
 | succ k ih=>
   intro j i F' v hj hF' hij hvl h1 h2;obtain⟨F',rfl⟩:=Nat.exists_eq_succ_of_ne_zero (n:=F') (by omega);have hlt:j < v.length:=by omega
   have ZD2:j < l0.length:=by omega
   have hx:v[j]? =l0[j]?:=by
    have:=congrArg (fun q=>q[0]?) h2
    simpa using this
   rw [Ya];simp only [Zil];rw [decide_eq_true (by omega),cond_true,ZU,hx,List.getElem?_eq_getElem ZD2,Option.bind_some,ht]
   have htk:less (l0.take (j + 1)) t=less (l0.take j) t ++ (if l0[j]=t then [] else [l0[j]]):=by
    unfold less;rw [List.take_succ,List.getElem?_eq_getElem ZD2,List.filter_append];congr 1;simp only [Option.toList_some,QK];by_cases h:l0[j]=t
    ·rw [if_pos h,List.filter_cons_of_neg (by simp [h])];rfl
    ·rw [if_neg h,List.filter_cons_of_pos (by simp [h])];rfl
   have hd2:v.drop (j + 1)=l0.drop (j + 1):=by
    have:=congrArg (List.drop 1) h2
    simpa [List.drop_drop,Nat.add_comm] using this
   by_cases h:l0[j]=t
   ·rw [QK,decide_eq_true h];simp only [Bool.not_true,cond_false];unfold ZfF;rw [YV (by omega)];exact ih (j + 1) i F' v (by omega) (by omega) (by omega) hvl (by rw [htk,if_pos h,List.append_nil,h1]) hd2
   ·rw [QK,decide_eq_false h];simp only [Bool.not_false,cond_true];rw [ZU,List.getElem?_eq_getElem (by omega:i < v.length),Option.bind_some];unfold ZfF;rw [YV (by omega),YV (by omega)];simp only [Ju,Int.toNat_natCast];refine ih (j + 1) (i + 1) F' _ (by omega) (by omega) (by omega) (by rw [List.length_set];exact hvl) ?_ ?_
    ·rw [htk,if_neg h,← h1,List.take_succ,List.getElem?_set_self (by omega),List.take_set_of_le (Nat.le_refl _)]
     rfl
    ·rw [List.drop_set_of_lt (by omega)];exact hd2
section
variable {w:Zb} {m:Model} {F:Nat}
theorem ZxV {l:List Yy} {k:Nat} (hk:k < l.length) (hl:l.length < 1000):ZuK l (k:Int) (ZJ ((k:Int) + 1))=some (l.take k ++ l.drop (k + 1)):=by
 unfold ZuK;have e0:slL l 0 (k:Int)=some ((l.take k).drop 0):=KG (a:=0) (Nat.zero_le k) (by omega);rw [YV (by omega),KG (by omega) (by omega),Option.bind_some,e0,KG (by omega) (Nat.le_refl _)];have:((k:Int)== ((k + 1:Nat):Int))=false:=by simp;omega
 rw [this,cond_false];simp only [Option.bind_some,List.drop_zero,List.take_length];rw [XT (by simp;omega) (by decide)]
 rfl
theorem Zpt (hF:1000 <=F) (R:Rt w) (f:Fits w m) {d:Zn} (hf:Qb d w.cells.length=true) (he:YJ w d d.at_.toNat=0):∃ m',Zim F m w d=some m'∧Fits (Z0 w d) m':=by
 obtain⟨hu,hw⟩:=f.small R;obtain⟨D1,D2,D3,D4,D5⟩:=ZaY R hf he;have hnt:=R.KJ;unfold Zim
 have kinds:d.Z4=1∨d.Z4=2∨d.Z4=3∨d.Z4=4∨d.Z4=5:=by
  rcases YT hf with⟨k,_⟩ | ⟨k,_⟩ | ⟨k,_⟩ | ⟨k,_⟩ <;> omega
 rcases kinds with k | k | k | k | k
 ·obtain⟨a,b⟩:=D1 k;rw [show(d.Z4==1)=true by simp [k],cond_true,XT (by simp;omega) (by decide),Option.bind_some];refine⟨_,rfl,⟨fun s=>?_,?_,?_⟩⟩
  ·rw [a,List.mem_append,f.mem,List.mem_singleton]
  ·show(m.uses ++ [_]).Nodup;rw [List.nodup_append];refine⟨f.nd,by simp,fun x hx y hy e=>?_⟩;rw [List.mem_singleton] at hy;subst e;rw [hy] at hx;have:= ((f.mem _).1 hx).name R;unfold Z6 at this;simp at this
  ·show m.ways=_;rw [b];exact f.ways
 ·obtain⟨a,b,_⟩:=D2 k;rw [show(d.Z4==1)=false by simp [k],show(d.Z4==2)=true by simp [k],cond_false,cond_true,XT (by simp;omega) (by decide),Option.bind_some];refine⟨_,rfl,⟨fun s=>?_,f.nd,?_⟩⟩
  ·rw [a];exact f.mem s
  ·show m.ways ++ _=_;rw [b,f.ways]
 ·obtain⟨a,b,c⟩:=D3 k;rw [show(d.Z4==1)=false by simp [k],show(d.Z4==2)=false by simp [k],show(d.Z4==3)=true by simp [k],cond_false,cond_false,cond_true];have hmem:(⟨d.at_,d.name⟩:Yy) ∈ m.uses:= (f.mem _).2 c
  have e:=YU m.uses (fun v (_:Unit)=>v) (ZfH F m d) (fun k y s next=>bif KW y ⟨d.at_,d.name⟩ then ZaD F m d (k:Int) else next ()) (fun _=>ZaD F m d (-1)) (by omega) (fun k y s next hy hk=>by
   simp only [ZfH,ZU,hy,hk,decide_true,Option.bind_some,cond_true]) (fun s next=>by simp [ZfH]) (by omega:m.uses.length < F) ()
  rw [show loop F (ZfH F m d) 0=_ from e];rcases ZcP (l:=m.uses) (i:=0) (s:= ()) (d:=fun _=>ZaD F m d (-1)) (g:=fun k (y:Yy) (_:Unit) next=>bif KW y ⟨d.at_,d.name⟩ then ZaD F m d (k:Int) else next ()) (fun k=>ZaD F m d (k:Int)) (fun y=>KW y ⟨d.at_,d.name⟩) (fun _ _ _ _=>rfl) with⟨j,y,h1,h2,h3⟩ | ⟨h1,h2⟩
  ·rw [h3,Nat.zero_add];have hy:=List.find?_some h1;rw [QK,decide_eq_true_eq] at hy;obtain⟨hj,hjy⟩:=List.getElem?_eq_some_iff.1 h2
   have K7:m.uses=m.uses.take j ++ y::m.uses.drop (j + 1):=by
    rw [← hjy,← List.drop_eq_getElem_cons hj,List.take_append_drop]
   have ZAw:y ∉ m.uses.take j:=by
    intro z;have:=f.nd;rw [K7,List.nodup_append] at this;exact this.2.2 y z y (by simp) rfl
   unfold ZaD;rw [show((j:Int)==-1)=false by simp,cond_false,YV (by omega)];refine⟨_,Zu2 rfl m.uses (by omega) (m.uses.length - (j + 1)) (j + 1) j F m.uses (by omega) (by omega) (by omega) rfl ?_ rfl,⟨fun s=>?_,?_,?_⟩⟩
   ·unfold less;rw [List.take_succ,h2,List.filter_append]
    have q1:(m.uses.take j).filter (fun x=>!(KW x ⟨d.at_,d.name⟩))=m.uses.take j:=by
     rw [List.filter_eq_self];intro x hx;rw [QK,← hy];have:x ≠ y:=fun z=>ZAw (z ▸ hx)
     simp [this]
    rw [q1];simp only [Option.toList_some];rw [List.filter_cons_of_neg (by rw [QK,hy];simp)];simp
   ·rw [a,ZtE,f.mem]
   ·exact List.Pairwise.filter _ f.nd
   ·show m.ways=_;rw [b];exact f.ways
  ·exfalso;rw [List.find?_eq_none] at h1;have:=h1 _ hmem;rw [QK] at this;simp at this
 ·obtain⟨a,b⟩:=D4 k;rw [show(d.Z4==1)=false by simp [k],show(d.Z4==2)=false by simp [k],show(d.Z4==3)=false by simp [k],show(d.Z4==5)=false by simp [k],cond_false,cond_false,cond_false,cond_false];exact⟨_,rfl,⟨fun s=>by rw [a];exact f.mem s,f.nd,by rw [b];exact f.ways⟩⟩
 ·obtain⟨x,hx,a,b⟩:=D5 k;rw [show(d.Z4==1)=false by simp [k],show(d.Z4==2)=false by simp [k],show(d.Z4==3)=false by simp [k],show(d.Z4==5)=true by simp [k],cond_false,cond_false,cond_false,cond_true];obtain⟨hk,_⟩:=List.getElem?_eq_some_iff.1 hx;obtain⟨j,hj⟩:∃ j,d.at_.toNat=j:= ⟨_,rfl⟩
  rw [hj] at hx b hk;have h0:0 <=d.at_:=by rcases YT hf with⟨z,_⟩ | ⟨z,_⟩ | ⟨z,_⟩ | ⟨_,z⟩ <;> omega
  have hat:d.at_= (j:Int):=by omega
  rw [hat,ZU,hx,Option.bind_some];obtain⟨g1,g2⟩:=Zfi hx;by_cases h:x.kind=1
  ·rw [show(x.kind !=1)=false by simp [h],cond_false];have e0:=KG (xs:=w.notes) (a:=0) (b:=j) (Nat.zero_le j) (by omega);rw [List.drop_zero] at e0;rw [show slL w.notes 0 (j:Int)=some (w.notes.take j) from e0,Option.bind_some];have g2:=g2 h;rw [← f.ways] at g2;obtain⟨q,hq⟩:∃ q,(gives (w.notes.take j)).length=q:= ⟨_,rfl⟩
   rw [hq] at g2 b;obtain⟨hql,_⟩:=List.getElem?_eq_some_iff.1 g2
   have e:=YU (w.notes.take j) (fun v (s:Int)=>(s,v)) (ZfG F m (w.notes.take j)) (fun _ c s nx=>nx (bif c.kind==1 then ZJ (s + 1) else s)) (fun s=>(bif decide (s < (m.ways.length:Int)) then(Yh m.ways s).bind fun ZqT=>(Zlc F m.uses ZqT).bind fun x159=>(bif(!x159) then(Yh m.ways s).bind fun x160=>(app 16 m.uses [x160]).bind fun ZnT=>(Zcj m s) ZnT else(Zcj m s) m.uses) else(Zby) (m.uses,m.ways))) (by rw [List.length_take];omega) (fun k y s nx hy hk=>by
    simp only [ZfG,ZU,hy,hk,decide_true,cond_true,Option.bind_some];cases (y.kind==1) <;> rfl) (fun s nx=>by
    simp only [ZfG];rw [decide_eq_false (by omega),cond_false]) (by rw [List.length_take];omega:(w.notes.take j).length < F) 0
   rw [show loop F (ZfG F m (w.notes.take j)) (0,0)=_ from e];rw [(Jf (fun _ (c:Zd) (s:Int)=>bif c.kind==1 then ZJ (s + 1) else s) (fun _ _=>True) trivial (fun _ _ _ _ _ _=>⟨rfl,trivial⟩)).1,JI];have hc:=ZdS (fun c:Zd=>c.kind==1) (w.notes.take j) 0 (by rw [List.length_take];omega)
   have hcq:(w.notes.take j).countP (fun c:Zd=>c.kind==1)=q:=by
    rw [← hq];unfold gives;rw [List.length_map,List.countP_eq_length_filter]
   rw [hcq,Nat.zero_add] at hc;rw [show((0:Nat):Int)=0 from rfl] at hc;rw [hc,decide_eq_true (by omega),cond_true,ZU,g2,Option.bind_some,Zat hF (by omega),Option.bind_some]
   have fin:∀ u:List Yy,Zcj m (q:Int) u=some ⟨u,m.ways.take q ++ m.ways.drop (q + 1)⟩:=by
    intro u;unfold Zcj;rw [ZxV hql (by omega),Option.bind_some];rfl
   have ZyO:m.ways.take q ++ m.ways.drop (q + 1)=gives (Z0 w d).notes:=by
    rw [b,if_pos h,f.ways]
   by_cases hin:(⟨x.Zy,x.name⟩:Yy) ∈ m.uses
   ·rw [decide_eq_true hin];simp only [Bool.not_true,cond_false];refine⟨_,fin _,⟨fun s=>?_,f.nd,ZyO⟩⟩;rw [a,← f.mem];refine⟨.inl,?_⟩;rintro(z | ⟨_,z⟩)
    ·exact z
    ·rw [z];exact hin
   ·rw [decide_eq_false hin];simp only [Bool.not_false,cond_true,Option.bind_some];rw [XT (by simp;omega) (by decide),Option.bind_some];refine⟨_,fin _,⟨fun s=>?_,?_,ZyO⟩⟩
    ·show s ∈ m.uses ++ [_]↔_;rw [a,List.mem_append,f.mem,List.mem_singleton];exact⟨fun z=>z.imp id fun y=>⟨h,y⟩,fun z=>z.imp id fun y=>y.2⟩
    ·show(m.uses ++ [_]).Nodup;rw [List.nodup_append];refine⟨f.nd,by simp,fun u hu y hy e=>?_⟩;rw [List.mem_singleton] at hy;subst e;rw [hy] at hu;exact hin hu
  ·rw [show(x.kind !=1)=true by simp [h],cond_true];refine⟨_,rfl,⟨fun s=>?_,f.nd,?_⟩⟩
   ·rw [a,← f.mem];exact⟨.inl,fun z=>z.elim id fun y=>absurd y.1 h⟩
   ·rw [b,if_neg h];exact f.ways
end
end Go.Proofs.Ytekpjgmhkkjhgaa
end
section
namespace Go.Proofs.Ytekpjgmhkkjhgaa
open Go.Lf
def G (w:Zb) (n a:Int):Int:=J7 (YO w n) (QS w n) a
section
variable {w w':Zb} {m:Nat} {n:Int}
theorem ZGE (hm:m < w.cells.length) (Yu:∀ m,m < w.cells.length ->J9 (rowOf w m)) {d:Za} (hd:d.name=n) (k a:Int):G (cw w m (put d (rowOf w m))) k a=if k=n∧a= (m:Int) then d.out + YM (YP a) (QS w n) else G w k a:=by
 obtain⟨U,V1,V2⟩:=Qg hm Yu hd;unfold G J7;by_cases h:k=n
 ·subst h;rw [V1,V2];by_cases e:a= (m:Int)
  ·rw [if_pos ⟨rfl,e⟩,e,Wj];rfl
  ·rw [if_neg (fun z=>e z.2),Zad e]
 ·rw [if_neg (fun z=>h z.1),U.oc _ h,U.on _ h]
theorem ZjC (hm:m < w.cells.length) (n:Int):X0 (YO w n (m:Int))= (look (rowOf w m) n).out:=by
 rw [Q5 hm,Y5];unfold look;cases Ul (rowOf w m) n <;> rfl
theorem ZlY (hm:m < w.cells.length) (Yu:∀ m,m < w.cells.length ->J9 (rowOf w m)) {d:Za} (hd:d.name=n) {x:Int} (hx:0 <=x) (hu:d.out <= (look (rowOf w m) n).out + x) (k a:Int):G (cw w m (put d (rowOf w m))) k a <=G w k a + if k=n∧a= (m:Int) then x else 0:=by
 rw [ZGE hm Yu hd];by_cases h:k=n∧a= (m:Int)
 ·rw [if_pos h,if_pos h,h.1,h.2];unfold G J7;rw [ZjC hm];omega
 ·rw [if_neg h,if_neg h];omega
theorem ZvI (x:Zd) (k a:Int):G (sent w x) k a=G w k a + if x.name=k then YP a x else 0:=by
 unfold G J7;have h1:YO (sent w x) k=YO w k:=rfl
 have h2:QS (sent w x) k=QS w k ++ (if x.name=k then [x] else []):=by
  unfold QS sent;rw [List.filter_append];congr 1;by_cases h:x.name=k
  ·rw [if_pos h,List.filter_cons_of_pos (by simp [h])];rfl
  ·rw [if_neg h,List.filter_cons_of_neg (by simp [h])];rfl
 rw [h1,h2,Xn];by_cases h:x.name=k
 ·rw [if_pos h,if_pos h,Qo];omega
 ·rw [if_neg h,if_neg h];simp [YM]
theorem Zhf {x:Zd} (h:x.kind ≠ 3) (k a:Int):G (sent w x) k a=G w k a:=by
 rw [ZvI];have:YP a x=0:=by unfold YP;rw [if_neg (fun z=>h z.1)]
 rw [this];split <;> omega
theorem ZGD (hm:m < w.cells.length) (Yu:∀ m,m < w.cells.length ->J9 (rowOf w m)) (ho:(look (rowOf w m) n).out=0) (k a:Int):G (cw w m (rmv n (rowOf w m))) k a=G w k a:=by
 obtain⟨U,V1,V2⟩:=Zkt (n:=n) hm Yu;unfold G J7;by_cases h:k=n
 ·subst h;rw [V1,V2];by_cases e:a= (m:Int)
  ·rw [e,Wj,ZjC hm,ho];rfl
  ·rw [Zad e]
 ·rw [U.oc _ h,U.on _ h]
theorem Zd8 (hm:m < w.cells.length) (Yu:∀ m,m < w.cells.length ->J9 (rowOf w m)) {c:Za} (hc:(look (rowOf w m) n).out=c.out) (k a:Int):G (Xd w m n c) k a=G w k a:=by
 unfold Xd;cases hu:(c.use || (c.out !=0))
 ·simp only [cond_false]
  have hco:c.out=0:=by
   rw [Bool.or_eq_false_iff] at hu
   simpa using hu.2
  rw [← ZGD hm Yu (hc.trans hco) k a];cases c.root
  ·simp only [cond_false];cases decide (c.from_ >=0)
   ·rfl
   ·rw [cond_true];exact Zhf (w:=cw w m (rmv n (rowOf w m))) (x:= ⟨2,c.from_,n,0,c.has⟩) (show(2:Int) ≠ 3 by decide) k a
  ·rfl
 ·rfl
theorem Zvi (hm:m < w.cells.length) (Yu:∀ m,m < w.cells.length ->J9 (rowOf w m)) {Zy x:Int} (hx:0 <=x∧x <=1000000) (ho:-16 <= (look (rowOf w m) n).out∧(look (rowOf w m) n).out <=2000000) (k a:Int):G (Xp w m n Zy x) k a <=G w k a:=by
 unfold Xp;cases (Zy != (m:Int))
 ·rw [cond_false]
  have:=ZlY hm Yu (n:=n) (d:= {look (rowOf w m) n with out:=ZJ ((look (rowOf w m) n).out - x)}) (JR _ _) (x:=0) (by omega) (by
   show ZJ ((look (rowOf w m) n).out - x) <=_;rw [YL (by omega) (by omega)];omega) k a
  split at this <;> omega
 ·rw [cond_true,Zhf (show(2:Int) ≠ 3 by decide)];omega
theorem Ztf (a:Int) (x:Zd):YP a x <=16:=by unfold YP;split <;> omega
theorem ZGF {k:Nat} {x:Zd} (hk:w.notes[k]? =some x) (n a:Int):G w n a=G (Ur w k) n a + if x.name=n then YP a x else 0:=by
 obtain⟨hkl,hkx⟩:=List.getElem?_eq_some_iff.1 hk
 have K7:w.notes=w.notes.take k ++ x::w.notes.drop (k + 1):=by
  rw [← hkx,← List.drop_eq_getElem_cons hkl,List.take_append_drop]
 unfold G J7;have h1:YO (Ur w k) n=YO w n:=rfl
 have h2:YM (YP a) (QS w n)=YM (YP a) (QS (Ur w k) n) + if x.name=n then YP a x else 0:=by
  unfold QS Ur;dsimp only;rw [List.filter_append,Xn]
  conv=>lhs;rw [K7]
  rw [List.filter_append,Xn];by_cases h:x.name=n
  ·rw [if_pos h,List.filter_cons_of_pos (by simp [h])];simp only [YM];omega
  ·rw [if_neg h,List.filter_cons_of_neg (by simp [h])];omega
 rw [h1,h2];omega
theorem ZqC (R:Rt w) {k:Nat} {x:Zd} (hk:w.notes[k]? =some x) (n a:Int):G (Qe (Ur w k) x) n a <=G w n a:=by
 obtain⟨R0,M0⟩:=Zky R hk;rw [ZGF hk n a];obtain⟨v,hv⟩:∃ v,Ur w k=v:= ⟨_,rfl⟩
 rw [hv] at R0 M0 ⊢;have hn:=R0.nn x (by simp);have hfl:∀ y ∈ [x],y.name=x.name:=by simp
 obtain⟨h,H⟩:=R0.nm x.name hn;rw [Kr hfl] at H;have hMx:=M0 x.name hn;rw [Kr hfl] at hMx;have H:Nm v.cells.length x.name (YO v x.name) (x::QS v x.name) h:=H;have hx:=H.KJ x (by simp);have hxw:= (H.most hMx).2 x (by simp);obtain⟨m,hm'⟩:∃ m,x.Zy.toNat=m:= ⟨_,rfl⟩
 have hat:x.Zy= (m:Int):=by omega
 have hm:m < v.cells.length:=by omega
 have S:=Zgj H hMx x.Zy;have KQ:look (rowOf v m) x.name=Zai x.name (YO v x.name) x.Zy:=by rw [Zfg hm,hat]
 rw [← KQ] at S;have Yu:=R0.Yu;have hln:=JR (rowOf v m) x.name;unfold Qe;rw [hm'];dsimp only;obtain⟨c,hc⟩:∃ c,look (rowOf v m) x.name=c:= ⟨_,rfl⟩
 rw [hc] at S hln ⊢;cases k1:(x.kind==1)
 ·rw [cond_false];cases k2:(x.kind==2)
  ·rw [cond_false]
   have k3:x.kind=3:=by
    rcases hx.2.2.2 with z | z | z
    ·rw [z.1] at k1;cases k1
    ·rw [z.1] at k2;cases k2
    ·exact z.1
   have hd:(⟨c.name,true,-1,0,ZJ (c.out + 16),c.use⟩:Za).name=x.name:=hln;have ho:ZJ (c.out + 16)=c.out + 16:=YL (by omega) (by omega);have g1:=ZlY hm Yu hd (x:=16) (by omega) (by show ZJ (c.out + 16) <=_;rw [ho,hc];omega) n a;have hlk:=Uh hm (Yu m hm) hd;obtain⟨U,_,_⟩:=Qg hm Yu hd;obtain⟨b,hb⟩:∃ b,cw v m (put ⟨c.name,true,-1,0,ZJ (c.out + 16),c.use⟩ (rowOf v m))=b:= ⟨_,rfl⟩
   rw [hb] at U g1 hlk ⊢;have hm2:m < b.cells.length:=by rw [U.len];exact hm
   have Zn5:∀ k,k < b.cells.length ->J9 (rowOf b k):=fun k hk=>U.Yu k (by rw [← U.len];exact hk)
   have ZKd:(if n=x.name∧a= (m:Int) then(16:Int) else 0) <=if x.name=n then YP a x else 0:=by
    by_cases e:n=x.name∧a= (m:Int)
    ·rw [if_pos e,if_pos e.1.symm,ZgS k3,if_pos (by rw [hat];exact e.2.symm)];omega
    ·rw [if_neg e];split
     ·exact Km a x
     ·omega
   cases decide (c.from_ >=0)
   ·simp only [cond_false];rw [Zd8 hm2 Zn5 (n:=x.name) (c:=look (rowOf b m) x.name) rfl];omega
   ·simp only [cond_true];obtain⟨l3,s3⟩:=ZqF hm2 Zn5 (n:=x.name) c.from_ c.has;have g2:=Zvi hm2 Zn5 (n:=x.name) (Zy:=c.from_) (x:=c.has) (by omega) (by rw [hlk];show -16 <=ZJ (c.out + 16)∧ZJ (c.out + 16) <=2000000;rw [ho];omega) n a;rw [Zd8 (by rw [l3];exact hm2) (fun k hk=>s3 k (by rw [← l3];exact hk)) (n:=x.name) (c:=look (rowOf (Xp b m x.name c.from_ c.has) m) x.name) rfl];omega
  ·rw [cond_true];have hd:(⟨c.name,c.root,c.from_,c.has,ZJ (c.out - x.w),c.use⟩:Za).name=x.name:=hln;have g1:=ZlY hm Yu hd (x:=0) (by omega) (by show ZJ (c.out - x.w) <=_;rw [YL (by omega) (by omega),hc];omega) n a;have hlk:=Uh hm (Yu m hm) hd;obtain⟨U,_,_⟩:=Qg hm Yu hd;rw [Zd8 (by rw [U.len];exact hm) (fun k hk=>U.Yu k (by rw [← U.len];exact hk)) (n:=x.name) (by rw [hlk])];have:=Km a x;split at g1 <;> split <;> omega
 ·rw [cond_true]
  have hng:0 <= (if x.name=n then YP a x else 0):=by
   have:=Km a x;split <;> omega
  have ZzW:∀ d:Za,d.name=x.name ->d.out=c.out ->G (cw v m (put d (rowOf v m))) n a <=G v n a:=fun d hd ho=>by
   have:=ZlY hm Yu hd (x:=0) (by omega) (by rw [ho,hc];omega) n a;split at this <;> omega
  generalize ((!c.root && (c.from_==-1)) && (x.via !=x.Zy))=b1;generalize ((!c.root && decide (c.from_ >=0)) && (c.from_==x.via))=b2;cases b1
  ·simp only [cond_false];cases b2
   ·simp only [cond_false];have hd:(⟨c.name,c.root,c.from_,c.has,c.out,true⟩:Za).name=x.name:=hln;have hlk:=Uh hm (Yu m hm) hd;obtain⟨U,_,_⟩:=Qg hm Yu hd;have g1:=ZzW _ hd rfl;have g2:=Zvi (by rw [U.len];exact hm) (fun k hk=>U.Yu k (by rw [← U.len];exact hk)) (n:=x.name) (Zy:=x.via) (x:=x.w) (by omega) (by rw [hlk];show -16 <=c.out∧c.out <=2000000;omega) n a;omega
   ·simp only [cond_true];have:=ZzW ⟨c.name,c.root,c.from_,ZJ (c.has + x.w),c.out,true⟩ hln rfl;omega
  ·simp only [cond_true];have:=ZzW ⟨c.name,c.root,x.via,x.w,c.out,true⟩ hln rfl;omega
theorem Zu9 (R:Rt w) {d:Zn} (h1:d.Z4 ≠ 1) (h5:d.Z4 ≠ 5) (hm:m < w.cells.length) (he:YJ w d m=0):∃ c,look (rowOf w m) d.name=c∧c.name=d.name∧-16 <=c.out∧c.out <=1000000:=by
 obtain⟨c,hc,_,_⟩:=Qz h1 h5 he;obtain⟨_,e,hn⟩:=R.X6 hm hc;obtain⟨h,H,Mx⟩:=R.nm _ hn;have S:= (H.most Mx).1 _ c e;exact⟨c,Qs hc,Qc hc,S.1,S.2.1⟩
theorem Zu1 (R:Rt w) {d:Zn} (hf:Qb d w.cells.length=true) (he:YJ w d d.at_.toNat=0) (n a:Int):G (Z0 w d) n a <=G w n a + 16:=by
 have Yu:=R.Yu;obtain⟨m,hm'⟩:∃ m,d.at_.toNat=m:= ⟨_,rfl⟩
 have he0:=he;unfold Z0;rw [hm'] at he ⊢;rcases YT hf with⟨k,a0⟩ | ⟨k,a0,t0,ne,nm⟩ | ⟨k,a0,nm⟩ | ⟨k,a0⟩
 ·rw [show(d.Z4==1)=true by simp [k],cond_true];have hm:m < w.cells.length:=by omega
  have e:G (Zei w m) n a=G (cw w m (put (Zfa w) (rowOf w m))) n a:=rfl;rw [e]
  have hnone:(look (rowOf w m) w.names).out=0:=by
   unfold look;cases h:Ul (rowOf w m) w.names with
   | none=>rfl
   | some c=>
     exfalso;have:=R.rx.1.range m hm c (Zbv h);have:=Qc h;omega
  have:=ZlY hm Yu (n:=w.names) (d:=Zfa w) rfl (x:=0) (by omega) (by rw [hnone];exact Int.le_refl _) n a;split at this <;> omega
 ·have hm:m < w.cells.length:=by omega
  have q1:d.Z4 ≠ 1:=by omega
  have q5:d.Z4 ≠ 5:=by omega
  obtain⟨c,hl,hcn,o1,o2⟩:=Zu9 R q1 q5 hm he;rw [hl];by_cases k2:d.Z4=2
  ·rw [show(d.Z4==1)=false by simp [k2],show(d.Z4==2)=true by simp [k2],cond_false,cond_true];unfold Zeb;cases (decide (c.from_ >=0) && decide (c.has >=2))
   ·rw [cond_false,Zhf (show(1:Int) ≠ 3 by decide)];have:=ZlY hm Yu (n:=d.name) (d:= ⟨c.name,c.root,c.from_,c.has,ZJ (c.out + 16),c.use⟩) hcn (x:=16) (by omega) (by show ZJ (c.out + 16) <=_;rw [YL (by omega) (by omega),hl];omega) n a;split at this <;> omega
   ·rw [cond_true,Zhf (show(1:Int) ≠ 3 by decide)];have:=ZlY hm Yu (n:=d.name) (d:= ⟨c.name,c.root,c.from_,ZJ (c.has - ZJ (c.has.tdiv 2)),c.out,c.use⟩) hcn (x:=0) (by omega) (by rw [hl];show c.out <=_;omega) n a;split at this <;> omega
  ·have k4:d.Z4=4:=k.resolve_left k2;rw [show(d.Z4==1)=false by simp [k4],show(d.Z4==2)=false by simp [k4],show(d.Z4==5)=false by simp [k4],show(d.Z4==3)=false by simp [k4],cond_false,cond_false,cond_false,cond_false];unfold goW;rw [ZvI];have:=ZlY hm Yu (n:=d.name) (d:=goC c d.Zy) hcn (x:=0) (by omega) (by rw [hl];show c.out <=_;omega) n a;have:=Ztf a ⟨3,d.Zy,d.name,0,16⟩;split at * <;> split <;> omega
 ·have hm:m < w.cells.length:=by omega
  have q1:d.Z4 ≠ 1:=by omega
  have q5:d.Z4 ≠ 5:=by omega
  obtain⟨c,hl,hcn,o1,o2⟩:=Zu9 R q1 q5 hm he;rw [hl];rw [show(d.Z4==1)=false by simp [k],show(d.Z4==2)=false by simp [k],show(d.Z4==5)=false by simp [k],show(d.Z4==3)=true by simp [k],cond_false,cond_false,cond_false,cond_true];unfold Zgv;have hd:(Zan c).name=d.name:=hcn;have hlk:=Uh hm (Yu m hm) hd;obtain⟨U,_,_⟩:=Qg hm Yu hd;rw [Zd8 (by rw [U.len];exact hm) (fun k hk=>U.Yu k (by rw [← U.len];exact hk)) (n:=d.name) (by rw [hlk])];have:=ZlY hm Yu hd (x:=0) (by omega) (by rw [hl];show c.out <=_;omega) n a;split at this <;> omega
 ·rw [show(d.Z4==1)=false by simp [k],show(d.Z4==2)=false by simp [k],show(d.Z4==5)=true by simp [k],cond_false,cond_false,cond_true];obtain⟨x,hx,_⟩:= (ZaY R hf he0).2.2.2.2 k;rw [hm'] at hx;rw [hx,Option.getD_some];have:=ZqC R hx n a;omega
end
end Go.Proofs.Ytekpjgmhkkjhgaa
end
section
namespace Go.Proofs.Ytekpjgmhkkjhgaa
open Go.Lf
section
variable {w:Zb} {m:Model} {F:Nat}
theorem ZJV (X:Rx w Ka []) (n a:Int):-16 <=G w n a:=by
 have h2:0 <=YM (YP a) (QS w n):=K9 fun x _=>Km a x
 unfold G J7;cases e:YO w n a with
 | none=>simp only [X0];omega
 | some c=>
   obtain⟨h,H⟩:=X.nm n (X.cn n a c e).1;have H:Nm w.cells.length n (YO w n) (QS w n) h:=H;have:= (H.ZhD e).1;simp only [X0];omega
theorem ZpV (R:Rt w) {d:Zn} (hf:Qb d w.cells.length=true) (he:YJ w d d.at_.toNat=0) {K:Int} (hG:∀ n a,G w n a <=K) (hK:K <=900000) (hn:(Z0 w d).notes.length <=80):WK (Z0 w d)=false:=by
 obtain⟨X1,X2,X3,X4,X5⟩:=Zg6 R hf he;unfold WK;rw [decide_eq_false (by omega),Bool.false_or,List.any_eq_false];intro a ha;rw [List.mem_range] at ha;rw [Bool.not_eq_true,List.any_eq_false];intro n hn2;have h1:=Zu1 R hf he (n:Int) (a:Int);have h2:=hG n a;have h3:=ZJV X1 (n:Int) (a:Int);rw [ZdL _ ha];rw [show ZJ (J7 (YO (Z0 w d) (n:Int)) (QS (Z0 w d) (n:Int)) (a:Int))=G (Z0 w d) n a from YL (by show _ <=G _ _ _;omega) (by show G _ _ _ <=_;omega)];simp;omega
theorem Ziw (R:Rt w) {d:Zn} (hf:Qb d w.cells.length=true) (he:YJ w d d.at_.toNat=0):(Z0 w d).notes.length <=w.notes.length + 1∧(d.Z4=1∨d.Z4=5 ->(Z0 w d).notes.length <=w.notes.length):=by
 obtain⟨_,_,_,_,D5⟩:=ZaY R hf he;unfold Z0;rcases YT hf with⟨k,a0⟩ | ⟨k,a0,t0,ne,nm⟩ | ⟨k,a0,nm⟩ | ⟨k,a0⟩
 ·rw [show(d.Z4==1)=true by simp [k],cond_true];exact⟨Nat.le_succ _,fun _=>Nat.le_refl _⟩
 ·by_cases k2:d.Z4=2
  ·rw [show(d.Z4==1)=false by simp [k2],show(d.Z4==2)=true by simp [k2],cond_false,cond_true];exact⟨Nat.le_of_eq (Zmj _ _ _).1,fun z=>by omega⟩
  ·have k4:d.Z4=4:=by omega
   rw [show(d.Z4==1)=false by simp [k4],show(d.Z4==2)=false by simp [k4],show(d.Z4==5)=false by simp [k4],show(d.Z4==3)=false by simp [k4],cond_false,cond_false,cond_false,cond_false];exact⟨Nat.le_of_eq (Zea _),fun z=>by omega⟩
 ·rw [show(d.Z4==1)=false by simp [k],show(d.Z4==2)=false by simp [k],show(d.Z4==5)=false by simp [k],show(d.Z4==3)=true by simp [k],cond_false,cond_false,cond_false,cond_true];exact⟨(WH _ _ _).1,fun z=>by omega⟩
 ·rw [show(d.Z4==1)=false by simp [k],show(d.Z4==2)=false by simp [k],show(d.Z4==5)=true by simp [k],cond_false,cond_false,cond_true];obtain⟨x,hx,_⟩:=D5 k;rw [hx,Option.getD_some];obtain⟨hkl,_⟩:=List.getElem?_eq_some_iff.1 hx;obtain⟨R0,M0⟩:=Zky R hx;have q:= (Zny R0 M0).2.2.1;have:(Ur w d.at_.toNat).notes.length + 1=w.notes.length:=by unfold Ur;simp;omega
  exact⟨by omega,fun _=>by omega⟩
theorem Zjy (R:Rt w) {d:Zn} {M nm nt:Int} (hM:M=w.cells.length) (hnm:nm=w.names) (hnt:nt=w.notes.length) (D:Zf5 d M nm nt) {K:Int} (hG:∀ n a,G w n a <=K) (hK:K <=900000):
 ((stepW w d).2=7∧YJ w d d.at_.toNat=7∧(d.Z4=2∨d.Z4=3 ->¬ Uses w ⟨d.at_,d.name⟩)∧(d.Z4=2∨d.Z4=3∨d.Z4=4))∨((stepW w d).2=3∧d.Z4 ≠ 5∧w.notes.length=80)∨((stepW w d).2=0∧(stepW w d).1=Z0 w d∧YJ w d d.at_.toNat=0∧WK (Z0 w d)=false):=by
 have hf:Qb d w.cells.length=true:=by rw [← hM];exact D.form
 have ZAu:=R.KJ
 have e07:YJ w d d.at_.toNat=0∨(YJ w d d.at_.toNat=7∧(d.Z4=2∨d.Z4=3 ->¬ Uses w ⟨d.at_,d.name⟩)∧(d.Z4=2∨d.Z4=3∨d.Z4=4)):=by
  rcases D.kind with k | k | k | k | k
  ·left;have:=D.make k;unfold YJ;rw [show(d.Z4==1)=true by simp [k],cond_true,decide_eq_false (by omega),cond_false]
  ·have hat:0 <=d.at_∧d.at_ < (w.cells.length:Int):=by rcases YT hf with⟨z,_⟩ | ⟨_,z,_⟩ | ⟨z,_⟩ | ⟨z,_⟩ <;> omega
   have hl:=Ky (w:=w) (m:=d.at_.toNat) (n:=d.name) (by omega);rw [show((d.at_.toNat:Nat):Int)=d.at_ by omega] at hl;unfold YJ;rw [show(d.Z4==1)=false by simp [k],show(d.Z4==5)=false by simp [k],cond_false,cond_false,show(d.Z4==4)=false by simp [k]];unfold look at hl;cases h:Ul (rowOf w d.at_.toNat) d.name with
   | none=>rw [h] at hl;exact .inr ⟨rfl,fun _ z=>(by have:=hl.2 z;cases this),.inl k⟩
   | some c=>
     rw [h] at hl;simp only [cond_false];cases hu:c.use
     ·exact .inr ⟨rfl,fun _ z=>(by have:=hl.2 z;simp [hu] at this),.inl k⟩
     ·exact .inl rfl
  ·have hat:0 <=d.at_∧d.at_ < (w.cells.length:Int):=by rcases YT hf with⟨z,_⟩ | ⟨z,_⟩ | ⟨_,z,_⟩ | ⟨z,_⟩ <;> omega
   have hl:=Ky (w:=w) (m:=d.at_.toNat) (n:=d.name) (by omega);rw [show((d.at_.toNat:Nat):Int)=d.at_ by omega] at hl;unfold YJ;rw [show(d.Z4==1)=false by simp [k],show(d.Z4==5)=false by simp [k],cond_false,cond_false,show(d.Z4==4)=false by simp [k]];unfold look at hl;cases h:Ul (rowOf w d.at_.toNat) d.name with
   | none=>rw [h] at hl;exact .inr ⟨rfl,fun _ z=>(by have:=hl.2 z;cases this),.inr (.inl k)⟩
   | some c=>
     rw [h] at hl;simp only [cond_false];cases hu:c.use
     ·exact .inr ⟨rfl,fun _ z=>(by have:=hl.2 z;simp [hu] at this),.inr (.inl k)⟩
     ·exact .inl rfl
  ·unfold YJ;rw [show(d.Z4==1)=false by simp [k],show(d.Z4==5)=false by simp [k],cond_false,cond_false,show(d.Z4==4)=true by simp [k]];cases h:Ul (rowOf w d.at_.toNat) d.name with
   | none=>exact .inr ⟨rfl,fun z=>(by omega),.inr (.inr k)⟩
   | some c=>
     simp only [cond_true];cases hu:c.root
     ·exact .inr ⟨rfl,fun z=>(by omega),.inr (.inr k)⟩
     ·exact .inl rfl
  ·left;have:=D.note k;unfold YJ;rw [show(d.Z4==1)=false by simp [k],show(d.Z4==5)=true by simp [k],cond_false,cond_true,decide_eq_false (by omega),cond_false]
 rcases e07 with e | ⟨e,e2,e3⟩
 ·right;obtain⟨n1,n2⟩:=Ziw R hf e;cases ho:WK (Z0 w d)
  ·right;unfold stepW;rw [e,ho];exact⟨rfl,rfl,rfl,rfl⟩
  ·left;have h3:(stepW w d).2=3:=by unfold stepW;rw [e,ho];rfl
   by_cases hn:(Z0 w d).notes.length <=80
   ·rw [ZpV R hf e hG hK hn] at ho;cases ho
   ·refine⟨h3,fun k=>?_,by omega⟩;have:=n2 (.inr k);omega
 ·left;refine⟨?_,e,e2,e3⟩;unfold stepW;rw [e];rfl
structure LV (M:Nat) (K:Nat) (w:Zb) (m:Model):Prop where
 rt:Rt w
 fit:Fits w m
 len:w.cells.length=M
 g:∀ n a,G w n a <=16 * (K:Int)
theorem LV.mono {M K K':Nat} (h:LV M K w m) (hk:K <=K'):LV M K' w m:= ⟨h.rt,h.fit,h.len,fun n a=>by have:=h.g n a;omega⟩
theorem LV.step (hF:1000 <=F) {M K:Nat} (L:LV M K w m) {d:Zn} (hf:Qb d w.cells.length=true) (he:YJ w d d.at_.toNat=0) (hv:WK (Z0 w d)=false):∃ m',Zim F m w d=some m'∧LV M (K + 1) (Z0 w d) m':=by
 obtain⟨m',e,f⟩:=Zpt hF L.rt L.fit hf he;obtain⟨r,l⟩:=ZqB L.rt hf he hv;exact⟨m',e,⟨r,f,l.trans L.len,fun n a=>by have:=Zu1 L.rt hf he n a;have:=L.g n a;omega⟩⟩
theorem Zoi (hF:1000 <=F) {M:Nat} (z:List ZaF) (hz:z.length <=120) (hu:∀ a ∈ z,U8 a):∀ (k i F':Nat) (w:Zb) (m:Model),LV M i w m ->i + k=z.length ->k < F' ->
 ∃ w' m',loop F' (ZdR F z) ((i:Int),m.uses,m.ways,w.cells,w.notes,w.names,w.freed)=some (w',m',true)∧LV M z.length w' m':=by
 intro k
 induction k with
 | zero=>
   intro i F' w m L hi hF';obtain⟨F',rfl⟩:=Nat.exists_eq_succ_of_ne_zero (n:=F') (by omega);rw [Ya];simp only [ZdR];rw [decide_eq_false (by omega),cond_false];exact⟨w,m,rfl,L.mono (by omega)⟩
 | succ k ih=>
   intro i F' w m L hi hF';obtain⟨F',rfl⟩:=Nat.exists_eq_succ_of_ne_zero (n:=F') (by omega);have hlt:i < z.length:=by omega
   have hua:=hu z[i] (List.getElem_mem hlt);have R:=L.rt;have:=R.c1;have:=R.c6;have:=R.n0;have:=R.n12;have ZAu:=R.KJ;obtain⟨hus,hws⟩:=L.fit.small R;rw [Ya];simp only [ZdR];rw [decide_eq_true (by omega),cond_true,ZU,List.getElem?_eq_getElem hlt,Option.bind_some];obtain⟨d,b,e1,e2⟩:=ZxW hua (M:=w.cells.length) (nm:=w.names) (nt:=w.notes.length) ⟨by omega,by omega⟩ ⟨by omega,by omega⟩ ⟨by omega,by omega⟩;rw [e1,Option.bind_some]
   have skip:∃ w' m',Zbz (i:Int) (loop F' (ZdR F z)) (m.uses,m.ways,w.cells,w.notes,w.names,w.freed)=some (w',m',true)∧LV M z.length w' m':=by
    unfold Zbz;rw [YV (by omega)];exact ih (i + 1) F' w m (L.mono (by omega)) (by omega) (by omega)
   cases b
   ·simp only [Bool.not_false,cond_true];exact skip
   ·have D:=e2 rfl;have hfd:=D.form;simp only [Bool.not_true,cond_false];have ew:(⟨w.cells,w.notes,w.names,w.freed⟩:Zb)=w:=rfl;have em:(⟨m.uses,m.ways⟩:Model)=m:=rfl;rw [ew,Zly hF R.small,Option.bind_some,Zlx R hfd];rcases Zjy R rfl rfl rfl D L.g (by omega) with⟨s1,s2,s3,s4⟩ | ⟨s1,s2,s3⟩ | ⟨s1,s2,s3,s4⟩
    ·rw [s1];rw [show((7:Int)==7)=true from rfl,cond_true];by_cases k4:d.Z4=4
     ·rw [show(d.Z4 !=4)=false by simp [k4]];simp only [Bool.false_and,ZmW,Option.bind_some,cond_false];exact skip
     ·have hk:d.Z4=2∨d.Z4=3:=by omega
      have hni:¬ (⟨d.at_,d.name⟩:Yy) ∈ m.uses:=fun z=>s3 hk ((L.fit.mem _).1 z)
      have hb:((d.Z4 !=2) && (d.Z4 !=3))=false:=by rcases hk with h | h <;> simp [h]
      rw [show(d.Z4 !=4)=true by simp [k4],hb];simp only [Bool.not_false,Bool.and_true,ZcS];rw [Zat hF (by omega),decide_eq_false hni];simp only [Option.bind_some,Bool.or_self,Bool.and_false,cond_false];exact skip
    ·rw [s1];rw [show((3:Int)==7)=false from rfl,cond_false,show((3:Int)==3)=true from rfl,show(d.Z4 !=5)=true by simp [s2],show((w.notes.length:Int)==80)=true by simp;omega];simp only [Bool.and_self,cond_true];exact skip
    ·rw [s1,s2];rw [show((0:Int)==7)=false from rfl,cond_false,show((0:Int)==3)=false from rfl];simp only [Bool.false_and,cond_false];obtain⟨m',q1,q2⟩:=L.step hF (by exact hfd) s3 s4;rw [show((0:Int) !=0)=false from rfl,show(((Z0 w d).cells.length:Int) != (w.cells.length:Int))=false by rw [q2.len,L.len];simp];simp only [Bool.or_self,cond_false];rw [em,q1,Option.bind_some,Zqj hF q2.rt q2.fit,Option.bind_some];simp only [Bool.not_true,cond_false];unfold Zbz;rw [YV (by omega)];exact ih (i + 1) F' _ m' q2 (by omega) (by omega)
theorem Zxx (p:Int) (n a:Int):G (JJ p) n a=0:=by
 unfold G J7
 have h1:YO (JJ p) n a=none:=by
  unfold YO;split
  ·rw [Y5]
   have:rowOf (JJ p) a.toNat= []:=by
    unfold rowOf JJ;rw [List.getElem?_replicate];split <;> rfl
   rw [this];rfl
  ·rfl
 rw [h1];rfl
theorem ZoR (p:Int):Fits (JJ p) ⟨[],[]⟩:=by
 refine⟨fun s=>⟨fun z=>(by cases z),fun z=>?_⟩,List.nodup_nil,rfl⟩;exfalso;obtain⟨c,h,_⟩:=z;obtain⟨h1,h2⟩:=Qd h;rw [Y5] at h2
 have:rowOf (JJ p) s.at_.toNat= []:=by
  unfold rowOf JJ;rw [List.getElem?_replicate];split <;> rfl
 rw [this] at h2;cases h2
theorem ZtD (hF:1000 <=F) {p:Int} (h0:0 <=p) (h1:p <=255) {l:List ZaF} (hl:∀ a ∈ l,U8 a):∃ w m,ZrM F p l=some (w,m,true)∧LV (1 + p % 6).toNat 120 w m:=by
 rw [ZmF hF h0 h1,show slL l 0 (if 120 < (l.length:Int) then 120 else(l.length:Int))=some (l.take 120) from Zv6 l 120,Option.bind_some];obtain⟨R0,hlen⟩:=Zm2 h0;have hl2:(l.take 120).length <=120:=by rw [List.length_take];omega
 obtain⟨w,m,e,L⟩:=Zoi hF (l.take 120) hl2 (fun a h=>hl a (List.mem_of_mem_take h)) (l.take 120).length 0 F (JJ p) ⟨[],[]⟩ ⟨R0,ZoR p,hlen,fun n a=>by rw [Zxx];omega⟩ (by omega) (by omega);exact⟨w,m,e,L.mono hl2⟩
end
end Go.Proofs.Ytekpjgmhkkjhgaa
end
section
namespace Go.Proofs.Ytekpjgmhkkjhgaa
open Go.Lf
def SS (w:Zb) (s:Yy):Prop:=Uses w s∨s ∈ gives w.notes
def Zcs (j:Nat):Zn:= ⟨5,(j:Int),0,0⟩
section
variable {w:Zb} {m:Model} {F:Nat}
theorem ZrV (j:Nat) (M:Int):Qb (Zcs j) M=true:=by
 unfold Qb Zcs;simp
theorem Zvd {j:Nat} (hj:j < w.notes.length) (k:Nat):YJ w (Zcs j) k=0:=by
 unfold YJ Zcs;rw [show((5:Int)==1)=false from rfl,show((5:Int)==5)=true from rfl,cond_false,cond_true,decide_eq_false (by show ¬ (j:Int) >=_;omega),cond_false]
theorem ZrW {j:Nat} {x:Zd} (hx:w.notes[j]? =some x):Z0 w (Zcs j)=Qe (Ur w j) x:=by
 unfold Z0 Zcs;rw [show((5:Int)==1)=false from rfl,show((5:Int)==2)=false from rfl,show((5:Int)==5)=true from rfl,cond_false,cond_false,cond_true];dsimp only;rw [Int.toNat_natCast,hx,Option.getD_some]
theorem Zpi (hF:1000 <=F) {M K:Nat} (L:LV M K w m) (hK:K <=50000) {j:Nat} (hj:j < w.notes.length):∃ m',Zlg F w (Zcs j)=some (Z0 w (Zcs j),0)∧Zim F m w (Zcs j)=some m'∧LV M K (Z0 w (Zcs j)) m'∧mu (Z0 w (Zcs j)) + 1 <=mu w∧(∀ s,SS (Z0 w (Zcs j)) s↔SS w s)∧(Z0 w (Zcs j)).names=w.names∧(Z0 w (Zcs j)).notes.length <=w.notes.length:=by
 have R:=L.rt;have hf:=ZrV j (w.cells.length:Int);have he:=Zvd hj (Zcs j).at_.toNat;have ZAu:=R.KJ;obtain⟨n1,n2⟩:=Ziw R hf he;have n2:=n2 (.inr rfl);have hv:=ZpV R hf he L.g (by omega) (by omega);obtain⟨m',e1,L'⟩:=L.step hF hf he hv;obtain⟨x,hx⟩:∃ x,w.notes[j]? =some x:= ⟨_,List.getElem?_eq_getElem hj⟩
 have hd:=ZrW hx;have X4:= (Zg6 R hf he).2.2.2.1 (show(5:Int) ≠ 1 by decide);refine⟨m',?_,e1,⟨L'.rt,L'.fit,L'.len,fun n a=>?_⟩,?_,fun s=>?_,X4,n2⟩
 ·rw [Zly hF R.small,Zlx R hf];unfold stepW;rw [he,hv];rfl
 ·rw [hd];have:=ZqC R hx n a;have:=L.g n a;omega
 ·rw [hd];exact ZiA R hx
 ·obtain⟨y,hy,a,b⟩:= (ZaY R hf he).2.2.2.2 rfl;have hj2:(Zcs j).at_.toNat=j:=rfl;rw [hj2] at hy b;rw [hx] at hy;cases hy;unfold SS;rw [a,b];obtain⟨g1,g2⟩:=Zfi hx;by_cases h:x.kind=1
  ·rw [if_pos h];obtain⟨q,hq⟩:∃ q,(gives (w.notes.take j)).length=q:= ⟨_,rfl⟩
   have g2:=g2 h;rw [hq] at g2 ⊢;obtain⟨hql,hqx⟩:=List.getElem?_eq_some_iff.1 g2
   have K7:gives w.notes= (gives w.notes).take q ++ ⟨x.Zy,x.name⟩::(gives w.notes).drop (q + 1):=by
    rw [← hqx,← List.drop_eq_getElem_cons,List.take_append_drop]
   constructor
   ·rintro((z | ⟨_,z⟩) | z)
    ·exact .inl z
    ·right;rw [K7,z];simp
    ·right;rw [K7];rcases List.mem_append.1 z with z | z
     ·exact List.mem_append_left _ z
     ·exact List.mem_append_right _ (List.mem_cons_of_mem _ z)
   ·rintro(z | z)
    ·exact .inl (.inl z)
    ·rw [K7] at z;rcases List.mem_append.1 z with z | z
     ·exact .inr (List.mem_append_left _ z)
     ·rcases List.mem_cons.1 z with z | z
      ·exact .inl (.inr ⟨h,z⟩)
      ·exact .inr (List.mem_append_right _ z)
  ·rw [if_neg h];exact⟨fun z=>z.imp (fun y=>y.elim id fun u=>absurd u.1 h) id,fun z=>z.imp .inl id⟩
structure Calm (M K:Nat) (w w':Zb) (m':Model):Prop where
 lv:LV M K w' m'
 notes:w'.notes= []
 ss:∀ s,SS w' s↔SS w s
 names:w'.names=w.names
theorem ZrX (hF:1000 <=F) {M K:Nat} (hK:K <=50000) {q:List Int} (hq:∀ x ∈ q,0 <=x∧x <=255):∀ (b k F':Nat) (w:Zb) (m:Model),LV M K w m ->mu w <=b ->k + b <=1000 ->b < F' ->
 ∃ w' m',loop F' (ZdQ F q) ((k:Int),w.cells,w.notes,w.names,w.freed,m.uses,m.ways)=some (w',m',true)∧Calm M K w w' m':=by
 intro b
 have fin:∀ (k F':Nat) (w:Zb) (m:Model),LV M K w m ->w.notes= [] ->0 < F' ->∃ w' m',loop F' (ZdQ F q) ((k:Int),w.cells,w.notes,w.names,w.freed,m.uses,m.ways)=some (w',m',true)∧Calm M K w w' m':=by
  intro k F' w m L h0 hF';obtain⟨F',rfl⟩:=Nat.exists_eq_succ_of_ne_zero (n:=F') (by omega);rw [Ya];simp only [ZdQ];rw [decide_eq_false (by rw [h0];simp),cond_false];have ew:(⟨w.cells,w.notes,w.names,w.freed⟩:Zb)=w:=rfl;have em:(⟨m.uses,m.ways⟩:Model)=m:=rfl;rw [ew,em,Zqj hF L.rt L.fit];exact⟨w,m,rfl,L,h0,fun s=>Iff.rfl,rfl⟩
 induction b with
 | zero=>
   intro k F' w m L hm hk hF';refine fin k F' w m L ?_ (by omega);cases hx:w.notes with
   | nil=>rfl
   | cons x l=>
     exfalso;have:=ZiA L.rt (k:=0) (x:=x) (by rw [hx];rfl);omega
 | succ b ih=>
   intro k F' w m L hm hk hF';by_cases h0:w.notes= []
   ·exact fin k F' w m L h0 (by omega)
   obtain⟨F',rfl⟩:=Nat.exists_eq_succ_of_ne_zero (n:=F') (by omega);have hpos:0 < w.notes.length:=List.length_pos_iff.2 h0;have ZAu:=L.rt.KJ;rw [Ya];simp only [ZdQ];rw [decide_eq_true (by omega),cond_true];have ew:(⟨w.cells,w.notes,w.names,w.freed⟩:Zb)=w:=rfl;have em:(⟨m.uses,m.ways⟩:Model)=m:=rfl
   have go:∀ j:Nat,j < w.notes.length ->∃ w' m',ZfJ F (k:Int) w.cells w.notes w.names w.freed m.uses m.ways (loop F' (ZdQ F q)) (j:Int)=some (w',m',true)∧Calm M K w w' m':=by
    intro j hj;obtain⟨m1,e1,e2,L1,l1,s1,n1,_⟩:=Zpi hF L hK hj;unfold ZfJ;rw [ew,em];rw [show Zlg F w ⟨5,(j:Int),0,0⟩=_ from e1,Option.bind_some];dsimp only;rw [show((0:Int) !=0)=false from rfl,decide_eq_false (by omega),show(((Z0 w (Zcs j)).cells.length:Int) != (w.cells.length:Int))=false by rw [L1.len,L.len];simp];simp only [Bool.or_self,cond_false];rw [show Zim F m w ⟨5,(j:Int),0,0⟩=_ from e2,Option.bind_some,YV (by omega)];obtain⟨w',m',e3,C⟩:=ih (k + 1) F' _ m1 L1 (by omega) (by omega) (by omega);exact⟨w',m',e3,C.lv,C.notes,fun s=>(C.ss s).trans (s1 s),C.names.trans n1⟩
   cases hq0:decide ((q.length:Int) > 0)
   ·rw [cond_false];exact go 0 hpos
   ·rw [cond_true];have hqp:(0:Int) < q.length:=by simpa using hq0
    obtain⟨e1,a0,a1⟩:=UR (a:= (k:Int)) (b:= (q.length:Int)) (by omega) hqp;rw [e1,Option.bind_some];obtain⟨i,hi⟩:∃ i:Nat,(k:Int) % (q.length:Int)= (i:Int):= ⟨((k:Int) % (q.length:Int)).toNat,by omega⟩
    rw [hi] at a0 a1 ⊢;have hiq:i < q.length:=by omega
    rw [ZU,List.getElem?_eq_getElem hiq,Option.bind_some];have hr:=hq q[i] (List.getElem_mem hiq);rw [YL (n:=q[i]) (by omega) (by omega)];obtain⟨e2,b0,b1⟩:=UR (a:=q[i]) (b:= (w.notes.length:Int)) hr.1 (by omega);rw [e2,Option.bind_some];obtain⟨j,hj⟩:∃ j:Nat,q[i] % (w.notes.length:Int)= (j:Int):= ⟨(q[i] % (w.notes.length:Int)).toNat,by omega⟩
    rw [hj] at b0 b1 ⊢;exact go j (by omega)
theorem ZlE (hF:1000 <=F) {M K:Nat} (hK:K <=50000) {q:List Int} (hq:∀ x ∈ q,0 <=x∧x <=255) (L:LV M K w m):∃ w' m',ZrL F w m q=some (w',m',true)∧Calm M K w w' m':=by
 have:=Ztv L.rt;exact ZrX hF hK hq 232 0 F w m L (by omega) (by omega) (by omega)
end
end Go.Proofs.Ytekpjgmhkkjhgaa
end
section
namespace Go.Proofs.Ytekpjgmhkkjhgaa
open Go.Lf
section
variable {w:Zb} {m:Model} {F:Nat} {n:Int}
theorem Zme {f:Nat ->Int}:∀ {M:Nat},1 <=WZ f M ->∃ k,k < M∧1 <=f k
 | 0,h=>by simp [WZ] at h
 | M + 1,h=>by
   unfold WZ at h;by_cases e:1 <=f M
   ·exact⟨M,by omega,e⟩
   ·obtain⟨k,h1,h2⟩:=Zme (M:=M) (f:=f) (by omega);exact⟨k,by omega,h2⟩
theorem Zj2 (dep:Int ->Nat):∀ M:Nat,∃ B,∀ k:Nat,k < M ->dep (k:Int) <=B
 | 0=>⟨0,fun k h=>by omega⟩
 | M + 1=>by
   obtain⟨B,h⟩:=Zj2 dep M;refine⟨B + dep (M:Int),fun k hk=>?_⟩;by_cases e:k=M
   ·subst e;omega
   ·have:=h k (by omega);omega
theorem Zhj (R:Rt w) (h0:w.notes= []) (hn:Z6 w n=true):∃ a,Uses w ⟨a,n⟩:=by
 by_cases hex:∃ a,Uses w ⟨a,n⟩
 ·exact hex
 exfalso;obtain⟨h,H,_⟩:=R.nm n hn;have hns:QS w n= []:=by unfold QS;rw [h0];rfl
 rw [hns] at H;have hone:=H.one;have hc0:JL ([]:List Zd)=0:=rfl;rw [hc0] at hone
 have child:∀ a c,YO w n a=some c ->∃ b d,YO w n b=some d∧d.from_=a∧b ≠ h:=by
  intro a c hc;have hr:=H.rng a c hc;have hout:= (H.ZhD hc).2.2 hc0
  have hnu:c.use=false:=by
   cases hu:c.use
   ·rfl
   ·exact absurd ⟨a,c,hc,hu⟩ hex
  have hnz:= (R.rx.1.cn n a c hc).2
  have hne:c.out ≠ 0:=by
   rcases hnz with z | z | z
   ·rw [hnu] at z;cases z
   ·exact z
   ·exact z.elim
  have hacc:=H.acc a hr.1 hr.2;unfold J7 Jc at hacc;rw [hc] at hacc;simp only [X0,YM] at hacc;obtain⟨k,k1,k2⟩:=Zme (f:=fun m=>U5 a (YO w n m)) (M:=w.cells.length) (by omega);cases hd:YO w n (k:Int) with
  | none=>rw [hd] at k2;simp [U5] at k2
  | some d=>
    rw [hd,X7] at k2
    have ZD6:d.from_=a:=by
     by_cases e:d.from_=a
     ·exact e
     ·rw [if_neg e] at k2;omega
    refine⟨k,d,hd,ZD6,fun e=>?_⟩;have hroot:Qr (YO w n h)=1:=by omega
    rw [← e,hd] at hroot
    have hdr:d.root=true:=by
     by_cases z:d.root=true
     ·exact z
     ·have hz:Qr (some d)=0:=if_neg z;omega
    rcases H.cel _ d hd with z | z
    ·rw [hdr] at z;cases z.1
    ·omega
 obtain⟨dep,L⟩:=H.lead;obtain⟨B,hB⟩:=Zj2 dep w.cells.length
 have deep:∀ k:Nat,∃ a c,YO w n a=some c∧k <=dep a:=by
  intro k
  induction k with
  | zero=>
    cases hc:YO w n h with
    | none=>rw [hc] at hone;simp [Qr] at hone
    | some c=>exact⟨h,c,hc,Nat.zero_le _⟩
  | succ k ih=>
    obtain⟨a,c,hc,hk⟩:=ih;obtain⟨b,d,hd,hf,hb⟩:=child a c hc;have:= (L b d hd hb).2.2;rw [hf] at this;exact⟨b,d,hd,by omega⟩
 obtain⟨a,c,hc,hk⟩:=deep (B + 1);have hr:=H.rng a c hc;have:=hB a.toNat (by omega);rw [show((a.toNat:Nat):Int)=a by omega] at this;omega
theorem ZcZ (n:Int):∀ {r:Row},J9 r ->(r.countP fun c=>(c.name==n) && c.root)=Qr (Ul r n)
 | [],_=>by rw [Zg0];rfl
 | d::r,s=>by
   rw [YF,List.countP_cons];by_cases e:d.name=n
   ·rw [if_pos e]
    have h0:(r.countP fun c=>(c.name==n) && c.root)=0:=by
     rw [List.countP_eq_zero];intro c hc;have:d.name < c.name:= (List.pairwise_cons.1 s).1 c hc;have:(c.name==n)=false:=by simp;omega
     rw [this];simp
    rw [h0];have:(d.name==n)=true:=by simp [e]
    rw [this];simp [Qr]
   ·rw [if_neg e];have:(d.name==n)=false:=by simp [e]
    rw [this]
    simpa using ZcZ n s.tail
def Kk (w:Zb) (n:Int):Nat ->Nat | 0=>0 | k + 1=>Kk w n k + (rowOf w k).countP fun c=>(c.name==n) && c.root
theorem Zee (R:Rt w) (hn:Z6 w n=false):∀ k,k <=w.cells.length ->Kk w n k=0
 | 0,_=>rfl
 | k + 1,hk=>by
   unfold Kk;rw [Zee R hn k (by omega),ZcZ n (R.Yu k (by omega))];cases h:Ul (rowOf w k) n with
   | none=>rfl
   | some c=>
     have:= (R.X6 (by omega) h).2.2;rw [hn] at this;cases this
theorem Zmm (R:Rt w) (h0:w.notes= []) (hn:Z6 w n=true):Kk w n w.cells.length=1:=by
 obtain⟨h,H,_⟩:=R.nm n hn;have hns:QS w n= []:=by unfold QS;rw [h0];rfl
 rw [hns] at H;have hone:=H.one;have hc0:JL ([]:List Zd)=0:=rfl;rw [hc0] at hone;have hM:=H.hM
 have key:∀ k,k <=w.cells.length ->Kk w n k=if h < (k:Int) then 1 else 0:=by
  intro k
  induction k with
  | zero=>intro _;rw [if_neg (by omega)];rfl
  | succ k ih=>
    intro hk;unfold Kk;rw [ih (by omega),ZcZ n (R.Yu k (by omega))];have hv:Ul (rowOf w k) n=YO w n (k:Int):=by rw [Q5 (by omega)];rfl
    rw [hv];by_cases e:(k:Int)=h
    ·rw [e,if_neg (by omega),if_pos (by omega)];omega
    ·have:Qr (YO w n (k:Int))=0:=by
      cases hc:YO w n (k:Int) with
      | none=>rfl
      | some c=>
        by_cases z:c.root=true
        ·exact absurd (H.rt _ c hc z) e
        ·exact if_neg z
     rw [this];by_cases z:h < (k:Int)
     ·rw [if_pos z,if_pos (by omega)]
     ·rw [if_neg z,if_neg (by omega)]
 rw [key _ (Nat.le_refl _),if_pos hM.2]
theorem Zmq (hF:1000 <=F) (R:Rt w) (f:Fits w m) (h0:w.notes= []):Zo3 F w m=some true:=by
 have sm:=R.small;have hc:=sm.cells;obtain⟨hu,hw⟩:=f.small R;have hn0:=R.n0;have ZH6:=R.n12;have hc6:=R.c6;unfold Zo3
 have l2:∀ (n:Int) (k cnt:Nat) (next:Int×Int ->Option Bool),k < w.cells.length ->cnt <=100 ->loop F (ZfI n (k:Int) next (rowOf w k)) ((cnt:Int),0)=next (((cnt + (rowOf w k).countP (fun c=>(c.name==n) && c.root):Nat):Int),ZJ ((k:Int) + 1)):=by
  intro n k cnt next hk hcnt;have hr:=Szd.Zbf R.n12 (R.Yu k hk) (fun c hc=>R.rx.1.range k hk c hc);refine(YU (rowOf w k) (fun v (s:Int)=>(s,v)) (ZfI n (k:Int) next (rowOf w k)) (fun _ c s nx=>nx (bif(c.name==n) && c.root then ZJ (s + 1) else s)) (fun s=>next (s,ZJ ((k:Int) + 1))) (by omega) (fun j c s nx hj hjk=>?_) (fun s nx=>?_) (by omega) (cnt:Int)).trans ?_
  ·simp only [ZfI,ZU,hj,hjk,decide_true,cond_true,Option.bind_some];cases ((c.name==n) && c.root) <;> rfl
  ·simp only [ZfI];rw [decide_eq_false (by omega),cond_false]
  ·rw [(Jf (fun _ (c:Za) (s:Int)=>bif(c.name==n) && c.root then ZJ (s + 1) else s) (fun _ _=>True) trivial (fun _ _ _ _ _ _=>⟨rfl,trivial⟩)).1];rw [JI];have:=ZdS (fun c:Za=>(c.name==n) && c.root) (rowOf w k) cnt (by omega);rw [this]
 have Zpf:∀ (n:Int) (k:Nat),k <=w.cells.length ->Kk w n k <=k:=by
  intro n k
  induction k with
  | zero=>intro _;exact Nat.le_refl _
  | succ k ih=>
    intro hk;have:=ih (by omega);unfold Kk;rw [ZcZ n (R.Yu k (by omega))];have:Qr (Ul (rowOf w k) n) <=1:=by unfold Qr;split <;> (try split) <;> omega
    omega
 have l1:∀ (n:Int) (v18:Int) (next:Int ->Option Bool),(decide (v18 >=0))=Z6 w n ->((w.freed.any fun y=>y==n)= !Z6 w n) ->∀ (d k F':Nat),k + d=w.cells.length ->d < F' ->loop F' (Zin F w n next v18) ((Kk w n k:Int),(k:Int))=next (ZJ (n + 1)):=by
  intro n v18 next hb hfr d
  induction d with
  | zero=>
    intro k F' hk hF';obtain⟨F',rfl⟩:=Nat.exists_eq_succ_of_ne_zero (n:=F') (by omega);have:k=w.cells.length:=by omega
    subst this;rw [Ya];simp only [Zin];rw [decide_eq_false (by omega),cond_false,contains_eq hF sm.freed,Option.bind_some,hb,hfr];cases hn:Z6 w n
    ·rw [Zee R hn _ (Nat.le_refl _)];rfl
    ·rw [Zmm R h0 hn];rfl
  | succ d ih=>
    intro k F' hk hF';obtain⟨F',rfl⟩:=Nat.exists_eq_succ_of_ne_zero (n:=F') (by omega);have hlt:k < w.cells.length:=by omega
    have:=Zpf n k (by omega);rw [Ya];simp only [Zin];rw [decide_eq_true (by omega),cond_true,ZU,Qx hlt,Option.bind_some,l2 n k _ _ hlt (by omega),YV (by omega)];exact ih (k + 1) F' (by omega) (by omega)
 have l3:∀ (n:Int) (next:Int ->Option Bool),0 <=n ->n < w.names ->loop F (ZdP F w m n next) 0=next (ZJ (n + 1)):=by
  intro n next a0 a1
  have hfr:(w.freed.any fun y=>y==n)= !Z6 w n:=by
   unfold Z6;rw [decide_eq_true a0,decide_eq_true a1];simp
  have e:=YU m.uses (fun v (_:Unit)=>v) (ZdP F w m n next) (fun k y s nx=>bif y.name==n then KT F w n next (k:Int) else nx ()) (fun _=>KT F w n next (-1)) (by omega) (fun k y s nx hy hk=>by
   simp only [ZdP,ZU,hy,hk,decide_true,Option.bind_some,cond_true]) (fun s nx=>by simp [ZdP]) (by omega:m.uses.length < F) ()
  rw [show loop F (ZdP F w m n next) 0=_ from e];rcases ZcP (l:=m.uses) (i:=0) (s:= ()) (d:=fun _=>KT F w n next (-1)) (g:=fun k (y:Yy) (_:Unit) nx=>bif y.name==n then KT F w n next (k:Int) else nx ()) (fun k=>KT F w n next (k:Int)) (fun y=>y.name==n) (fun _ _ _ _=>rfl) with⟨j,y,h1,h2,h3⟩ | ⟨h1,h2⟩
  ·rw [h3];have hy:=List.find?_some h1;have hyn:y.name=n:=by simpa using hy
   have hb:Z6 w n=true:=by
    rw [← hyn];exact((f.mem y).1 (List.mem_of_find?_eq_some h1)).name R
   unfold KT;exact l1 n _ next (by rw [hb];exact decide_eq_true (by omega)) hfr w.cells.length 0 F (by omega) (by omega)
  ·rw [h2]
   have hb:Z6 w n=false:=by
    cases hb:Z6 w n
    ·rfl
    ·exfalso;obtain⟨a,ha⟩:=Zhj R h0 hb;rw [List.find?_eq_none] at h1;have:=h1 _ ((f.mem _).2 ha);simp at this
   unfold KT;exact l1 n _ next (by rw [hb];rfl) hfr w.cells.length 0 F (by omega) (by omega)
 have l4:∀ (d k F':Nat),(k:Int) + d=w.names ->d < F' ->loop F' (Zio F w m) (k:Int)=some true:=by
  intro d
  induction d with
  | zero=>
    intro k F' hk hF';obtain⟨F',rfl⟩:=Nat.exists_eq_succ_of_ne_zero (n:=F') (by omega);rw [Ya];simp only [Zio];rw [decide_eq_false (by omega),cond_false]
  | succ d ih=>
    intro k F' hk hF';obtain⟨F',rfl⟩:=Nat.exists_eq_succ_of_ne_zero (n:=F') (by omega);rw [Ya];simp only [Zio];rw [decide_eq_true (by omega),cond_true,l3 k _ (by omega) (by omega),YV (by omega)];exact ih (k + 1) F' (by omega) (by omega)
 exact l4 w.names.toNat 0 F (by omega) (by omega)
end
end Go.Proofs.Ytekpjgmhkkjhgaa
end
section
namespace Go.Proofs.Ytekpjgmhkkjhgaa
open Go.Lf
section
variable {w:Zb} {m:Model} {F:Nat}
theorem ZqO (h:gives w.notes= []) (s:Yy):SS w s↔Uses w s:=by
 unfold SS;rw [h];simp
theorem Zfj (h:w.notes= []):gives w.notes= []:=by rw [h];rfl
theorem Calm.uses {M K:Nat} {w':Zb} {m':Model} (C:Calm M K w w' m') (L:LV M K w m) (hg:gives w.notes= []):m'.uses.length=m.uses.length:=by
 refine List.Perm.length_eq ((List.perm_ext_iff_of_nodup C.lv.fit.nd L.fit.nd).2 fun s=>?_);rw [C.lv.fit.mem,L.fit.mem,← ZqO (Zfj C.notes),C.ss,ZqO hg]
theorem Zsd (R:Rt w) (h:∀ n,Z6 w n=false):(w.freed.length:Int)=w.names:=by
 have hn0:=R.n0
 have hp:w.freed.Perm ((List.range w.names.toNat).map fun k:Nat=>(k:Int)):=by
  refine(List.perm_ext_iff_of_nodup ?_ ?_).2 fun x=>?_
  ·exact R.fr.imp fun h=>by omega
  ·rw [List.nodup_iff_pairwise_ne,List.pairwise_map];exact List.Pairwise.imp (fun h=>by omega) List.pairwise_lt_range
  ·rw [List.mem_map]
   constructor
   ·intro hx;have:=R.frr x hx;exact⟨x.toNat,List.mem_range.2 (by omega),by omega⟩
   ·rintro⟨k,hk,rfl⟩;have hk:=List.mem_range.1 hk;have:=h (k:Int);unfold Z6 at this;rw [decide_eq_true (by omega),decide_eq_true (by omega)] at this
    simpa using this
 have:=hp.length_eq;rw [List.length_map,List.length_range] at this;omega
theorem ZrQ (hF:1000 <=F) {M K:Nat} (L:LV M K w m) (hK:K <=50000) {t:Yy} (ht:t ∈ m.uses):((stepW w ⟨3,t.at_,t.name,0⟩).2=3∧w.notes.length=80)∨∃ m',stepW w ⟨3,t.at_,t.name,0⟩= (Z0 w ⟨3,t.at_,t.name,0⟩,0)∧Zim F m w ⟨3,t.at_,t.name,0⟩=some m'∧LV M (K + 1) (Z0 w ⟨3,t.at_,t.name,0⟩) m'∧m'.uses.length + 1=m.uses.length∧gives (Z0 w ⟨3,t.at_,t.name,0⟩).notes=gives w.notes:=by
 have R:=L.rt;have hu:= (L.fit.mem t).1 ht;have hr:=hu.range;have hn:=hu.name R;have hn2:0 <=t.name∧t.name < w.names:=by unfold Z6 at hn;simp at hn;exact hn.1
 have hf:Qb ⟨3,t.at_,t.name,0⟩ (w.cells.length:Int)=true:=by
  unfold Qb;simp;omega
 have D:Zf5 ⟨3,t.at_,t.name,0⟩ (w.cells.length:Int) w.names w.notes.length:= ⟨hf,fun z=>(by cases z),fun _=>hn2,fun z=>(by cases z),.inr (.inr (.inl rfl))⟩
 rcases Zjy R rfl rfl rfl D L.g (by omega) with⟨_,_,s3,_⟩ | ⟨s1,s2,s3⟩ | ⟨s1,s2,s3,s4⟩
 ·exact absurd hu (s3 (.inr rfl))
 ·exact .inl ⟨s1,s3⟩
 ·right;obtain⟨m',e,L'⟩:=L.step hF hf s3 s4;obtain⟨a,b,_⟩:= (ZaY R hf s3).2.2.1 rfl;refine⟨m',Prod.ext s2 s1,e,L',?_,b⟩;have ZAw:t ∉ m'.uses:=fun z=>((a t).1 ((L'.fit.mem t).1 z)).2 rfl
  have hp:(t::m'.uses).Perm m.uses:= (List.perm_ext_iff_of_nodup (List.nodup_cons.2 ⟨ZAw,L'.fit.nd⟩) L.fit.nd).2 fun s=>by
   rw [List.mem_cons,L'.fit.mem,a,L.fit.mem]
   constructor
   ·rintro(z | z)
    ·rw [z];exact hu
    ·exact z.1
   ·intro z;by_cases e:s=t
    ·exact .inl e
    ·exact .inr ⟨z,e⟩
  have:=hp.length_eq;rw [List.length_cons] at this;exact this
theorem Zrh (hF:1000 <=F) {M:Nat} {q:List Int} (hq:∀ x ∈ q,0 <=x∧x <=255):∀ (b k F' K:Nat) (w:Zb) (m:Model),LV M K w m ->gives w.notes= [] ->2 * m.uses.length + (if w.notes.length=80 then 1 else 0) <=b ->K + b <=50000 ->k + b <=100000 ->b < F' ->
 loop F' (Zh9 F q) ((k:Int),w.cells,w.notes,w.names,w.freed,m.uses,m.ways)=some true:=by
 intro b
 have fin:∀ (k F' K:Nat) (w:Zb) (m:Model),LV M K w m ->gives w.notes= [] ->m.uses= [] ->K <=50000 ->0 < F' ->loop F' (Zh9 F q) ((k:Int),w.cells,w.notes,w.names,w.freed,m.uses,m.ways)=some true:=by
  intro k F' K w m L hg h0 hK hF';obtain⟨F',rfl⟩:=Nat.exists_eq_succ_of_ne_zero (n:=F') (by omega);rw [Ya];simp only [Zh9];rw [decide_eq_false (by rw [h0];simp),cond_false];have ew:(⟨w.cells,w.notes,w.names,w.freed⟩:Zb)=w:=rfl;have em:(⟨m.uses,m.ways⟩:Model)=m:=rfl;obtain⟨w',m',e,C⟩:=ZlE hF hK hq L;rw [ew,em,e,Option.bind_some];dsimp only;rw [ZcS,Zmq hF C.lv.rt C.lv.fit C.notes,Option.bind_some];have hlen:=C.uses L hg
  have hall:∀ n,Z6 w' n=false:=by
   intro n;cases hn:Z6 w' n
   ·rfl
   ·exfalso;obtain⟨a,ha⟩:=Zhj C.lv.rt C.notes hn;have:= (C.lv.fit.mem _).2 ha;have:=List.length_pos_of_mem this;rw [hlen,h0] at this;simp at this
  have hfr:=Zsd C.lv.rt hall;rw [show((w'.freed.length:Int)==w'.names)=true by simp;omega];simp [gd,ZBK]
 induction b with
 | zero=>
   intro k F' K w m L hg hm hK hk hF';refine fin k F' K w m L hg ?_ (by omega) (by omega);exact List.eq_nil_of_length_eq_zero (by omega)
 | succ b ih=>
   intro k F' K w m L hg hm hK hk hF';by_cases h0:m.uses= []
   ·exact fin k F' K w m L hg h0 (by omega) (by omega)
   obtain⟨F',rfl⟩:=Nat.exists_eq_succ_of_ne_zero (n:=F') (by omega);have hpos:0 < m.uses.length:=List.length_pos_iff.2 h0;obtain⟨hus,_⟩:=L.fit.small L.rt;rw [Ya];simp only [Zh9];rw [decide_eq_true (by omega),cond_true];have ew:(⟨w.cells,w.notes,w.names,w.freed⟩:Zb)=w:=rfl;have em:(⟨m.uses,m.ways⟩:Model)=m:=rfl
   have go:∀ j:Nat,j < m.uses.length ->ZjV F q (k:Int) w.cells w.notes w.names w.freed m.uses m.ways (loop F' (Zh9 F q)) (j:Int)=some true:=by
    intro j hj;unfold ZjV;rw [ZU,List.getElem?_eq_getElem hj,Option.bind_some,Option.bind_some,ew,em]
    have hf:Qb ⟨3,m.uses[j].at_,m.uses[j].name,0⟩ (w.cells.length:Int)=true:=by
     have hu:= (L.fit.mem _).1 (List.getElem_mem hj);have hr:=hu.range;have hn:=hu.name L.rt;have hn2:0 <=m.uses[j].name∧m.uses[j].name < w.names:=by unfold Z6 at hn;simp at hn;exact hn.1
     unfold Qb;simp;omega
    rw [Zly hF L.rt.small,Zlx L.rt hf,Option.bind_some];rcases ZrQ hF L (by omega) (List.getElem_mem hj) with⟨s1,s2⟩ | ⟨m',s1,s2,L',s3,s4⟩
    ·rw [s1,show((3:Int)==3)=true from rfl,show((w.notes.length:Int)==80)=true by simp;omega];simp only [Bool.and_self,cond_true];obtain⟨w',m',e,C⟩:=ZlE hF (by omega) hq L;rw [e,Option.bind_some];simp only [Bool.not_true,cond_false];unfold ZjW;rw [YV (by omega)];have hlen:=C.uses L hg;rw [if_pos s2] at hm;exact ih (k + 1) F' K w' m' C.lv (Zfj C.notes) (by rw [hlen,if_neg (by rw [C.notes];simp)];omega) (by omega) (by omega) (by omega)
    ·rw [s1];dsimp only;rw [show((0:Int)==3)=false from rfl,show((0:Int) !=0)=false from rfl];simp only [Bool.false_and,cond_false];rw [s2,Option.bind_some];unfold ZjW;rw [YV (by omega)];exact ih (k + 1) F' (K + 1) _ m' L' (s4.trans hg) (by split <;> omega) (by omega) (by omega) (by omega)
   cases hq0:decide ((q.length:Int) > 0)
   ·rw [cond_false];exact go 0 hpos
   ·rw [cond_true];have hqp:(0:Int) < q.length:=by simpa using hq0
    obtain⟨e1,a0,a1⟩:=UR (a:= (k:Int)) (b:= (q.length:Int)) (by omega) hqp;rw [e1,Option.bind_some];obtain⟨i,hi⟩:∃ i:Nat,(k:Int) % (q.length:Int)= (i:Int):= ⟨((k:Int) % (q.length:Int)).toNat,by omega⟩
    rw [hi] at a0 a1 ⊢;have hiq:i < q.length:=by omega
    rw [ZU,List.getElem?_eq_getElem hiq,Option.bind_some];have hr:=hq q[i] (List.getElem_mem hiq);rw [YL (n:=q[i]) (by omega) (by omega)];obtain⟨e2,b0,b1⟩:=UR (a:=q[i]) (b:= (m.uses.length:Int)) hr.1 (by omega);rw [e2,Option.bind_some];obtain⟨j,hj⟩:∃ j:Nat,q[i] % (m.uses.length:Int)= (j:Int):= ⟨(q[i] % (m.uses.length:Int)).toNat,by omega⟩
    rw [hj] at b0 b1 ⊢;exact go j (by omega)
theorem Zjp (p:Int) (l:List ZaF) (q:List Int) (hp:0 <=p∧p <=255) (hl:∀ a ∈ l,U8 a) (hq:∀ x ∈ q,0 <=x∧x <=255):f8L 1000 p l q=some true:=by
 have hF:1000 <=1000:=Nat.le_refl _;obtain⟨w,m,e,L⟩:=ZtD hF hp.1 hp.2 hl;unfold f8L;rw [e,Option.bind_some];simp only [Bool.not_true,cond_false];obtain⟨w',m',e2,C⟩:=ZlE hF (by omega) hq L;rw [e2,Option.bind_some];simp only [Bool.not_true,Bool.not_false];rw [ZcS,Zmq hF C.lv.rt C.lv.fit C.notes,Option.bind_some];simp only [Bool.not_true,Bool.or_self,cond_false];obtain⟨hus,_⟩:=C.lv.fit.small C.lv.rt;exact Zrh hF hq 150 0 1000 120 w' m' C.lv (Zfj C.notes) (by split <;> omega) (by omega) (by omega) (by omega)
end
end Go.Proofs.Ytekpjgmhkkjhgaa
end
