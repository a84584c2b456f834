/- Order Part 13 of the proof. -/
import Derived.Test.YtekpjgmhkkjhgaaOa12
set_option linter.all false
set_option maxHeartbeats 2000000
section
namespace Go.Proofs.Ytekpjgmhkkjhgaa
open Go.Lf
def Zap (c:Zb):Zb:= ⟨c.name,c.root,c.from_,c.has,c.out,false⟩
def Zgl (w:Za) (m:Nat) (n:Int) (c:Zb):Za:=YW (cw w m (put (Zap c) (rowOf w m))) m n (Zap c)
theorem Zr0 {F:Nat} (hF:100 <=F) {w:Za} {st:Store} (s:Qg w st) (u:UK st.cells) {m:Nat} (hm:m < w.cells.length) (Yr:Uk (rowOf w m)) (hnl:w.notes.length < 1000) {n:Int} {c:Zb} (hc:UL (rowOf w m) n=some c) (hi:CI c) (ha:Asc w.freed) (hf:w.freed.length <=11):
 ∃ st',Zgg F ⟨st.machines,st.names,Y1 st.cells ⟨m,n⟩ (Zap c),st.notes,st.freed⟩ m n=some st'∧Qg (Zgl w m n c) st'∧UK st'.cells:=by
 have hn:=Qd hc;have h1:=s.put hm Yr (c:=Zap c) (n:=n) hn;exact Zae hF h1 (u.Y1 _ _) (by rw [Ya];exact hm) hnl (Zff hm Yr (show(Zap c).name=n from hn)) hi ha hf
def goC (c:Zb) (Zw:Int):Zb:= ⟨c.name,false,Zw,16,c.out,c.use⟩
def goW (w:Za) (d:Zn) (m:Nat) (c:Zb):Za:=sent (cw w m (put (goC c d.Zw) (rowOf w m))) ⟨3,d.Zw,d.name,0,16⟩
theorem Zw1 {w:Za} {st:Store} (s:Qg w st) (u:UK st.cells) {m:Nat} (hm:m < w.cells.length) (Yr:Uk (rowOf w m)) (hnl:w.notes.length < 1000) (d:Zn) {c:Zb} (hc:UL (rowOf w m) d.name=some c):
 ∃ st',Zan ⟨st.machines,st.names,Y1 st.cells ⟨m,d.name⟩ (goC c d.Zw),st.notes,st.freed⟩ ⟨3,d.Zw,d.name,0,16⟩=some st'∧Qg (goW w d m c) st'∧UK st'.cells:=by
 have hn:=Qd hc;have h1:=s.put hm Yr (c:=goC c d.Zw) (n:=d.name) hn;obtain⟨st',q1,q2⟩:=h1.sent (by show w.notes.length < 1000;exact hnl) ⟨3,d.Zw,d.name,0,16⟩;refine⟨st',q1,q2,?_⟩;unfold Zan at q1;dsimp only at q1;rw [s.notes,XD (by simp;omega) (by decide)] at q1;cases q1;exact u.Y1 _ _
def YG (w:Za) (d:Zn) (m:Nat):Int:=
 bif d.ZX==1 then(bif decide (w.names >=12) then 3 else 0) else bif d.ZX==5 then(bif decide (d.at_ >= (w.notes.length:Int)) then 5 else 0) else
  match UL (rowOf w m) d.name with
  | none=>7
  | some c=>bif d.ZX==4 then(bif !c.root then 7 else 0) else(bif !c.use then 7 else 0)
theorem Zpd {w:Za} {st:Store} (s:Qg w st) {m:Nat} (hm:m < w.cells.length) (d:Zn) (hat:d.ZX=1∨d.ZX=5∨d.at_= (m:Int)):Znc st d=some (bif YG w d m==0 then .ok () else .Jk (YG w d m)):=by
 unfold Znc YG Zag;rw [Option.bind_some,s.n,s.notes];cases h1:(d.ZX==1)
 ·cases h5:(d.ZX==5)
  ·have ha:d.at_= (m:Int):=by
    rcases hat with h | h | h
    ·rw [h] at h1;cases h1
    ·rw [h] at h5;cases h5
    ·exact h
   rw [ha,s.get hm];simp only [cond_false];cases hf:UL (rowOf w m) d.name with
   | none=>
     cases (d.ZX==4) <;> rfl
   | some c=>
     cases (d.ZX==4)
     ·cases hu:c.use <;> simp [hu]
     ·cases hr:c.root <;> simp [hr]
  ·simp only [cond_false,cond_true];cases decide (d.at_ >= (w.notes.length:Int)) <;> rfl
 ·simp only [cond_true];cases decide (w.names >=12) <;> rfl
theorem Zwn {F:Nat} (hF:1000 <=F) {w:Za} (sm:Small w):∃ cs,Zh5 F w=some ⟨(w.cells.length:Int),w.names,cs,w.notes,w.freed⟩∧UK cs:=by
 have hc:=sm.cells;have hn:=sm.notes;have hf:=sm.freed;unfold Zh5 ZoW ZoV;rw [XD (by simp only [List.length_nil];omega) (by decide),XD (by simp only [List.length_nil];omega) (by decide)];simp only [Option.bind_some,List.nil_append]
 have inner:∀ (m:Nat) (row:List Zb) (next:Int×(List (Ze×Zb)) ->Option Store) (l:List (Ze×Zb)),w.cells[m]? =some row ->UK l ->∃ l',UK l'∧loop F (ZaA m next row) (0,l)=next (ZK ((m:Int) + 1),l'):=by
  intro m row next l hm hI;have hr:=sm.rows row (List.mem_of_getElem? hm)
  have e:=Xg row (fun v s=>(v,s)) (ZaA m next row) (fun _ c s nx=>nx (Y1 s (Ze.mk m c.name) c)) (fun s=>next (ZK ((m:Int) + 1),s)) (by omega) (fun k y s nx hy hk=>by
   simp only [ZaA,Z0,hy,hk,decide_true,cond_true,Option.bind_some]) (fun s nx=>by simp only [ZaA];rw [decide_eq_false (by omega),cond_false]) (by omega:row.length < F) l
  obtain⟨e2,hJ⟩:=JQ (d:=fun s=>next (ZK ((m:Int) + 1),s)) (g:=fun(_:Nat) (c:Zb) s nx=>nx (Y1 s (Ze.mk m c.name) c)) (fun _ c s=>Y1 s (Ze.mk m c.name) c) (fun _ s=>UK s) (l:=row) (i:=0) (s:=l) hI (fun k c s nx hk hJ=>⟨rfl,hJ.Y1 _ _⟩);exact⟨_,hJ,e.trans e2⟩
 have key:∀ (d m:Nat) (F':Nat) (l:List (Ze×Zb)),m + d=w.cells.length ->d < F' ->UK l ->∃ cs,loop F' (ZaB F w w.notes w.freed) ((m:Int),l)=some ⟨(w.cells.length:Int),w.names,cs,w.notes,w.freed⟩∧UK cs:=by
  intro d
  induction d with
  | zero=>
    intro m F' l hm hF' hI;obtain⟨F',rfl⟩:=Nat.exists_eq_succ_of_ne_zero (n:=F') (by omega);refine⟨l,?_,hI⟩;rw [Yh];simp only [ZaB];rw [decide_eq_false (by omega),cond_false]
  | succ d ih=>
    intro m F' l hm hF' hI;obtain⟨F',rfl⟩:=Nat.exists_eq_succ_of_ne_zero (n:=F') (by omega);have hr:=QY (w:=w) (m:=m) (by omega);obtain⟨l',q1,q2⟩:=inner m _ (loop F' (ZaB F w w.notes w.freed)) l hr hI;obtain⟨cs,q3,q4⟩:=ih (m + 1) F' l' (by omega) (by omega) q1;refine⟨cs,?_,q4⟩;rw [Yh];simp only [ZaB];rw [decide_eq_true (by omega),cond_true,Z0,hr,Option.bind_some,q2,Xp (by omega),q3]
 exact key w.cells.length 0 F [] (by omega) (by omega) UK.nil
def YO (w:Za) (n:Int):CV:=fun a=>if 0 <=a∧a < (w.cells.length:Int) then cellOf w a.toNat n else none
def Q8 (w:Za) (n:Int):List Zd:=w.notes.filter fun x=>x.name==n
def Mst (M:Nat) (cv:CV) (ns:List Zd):Prop:=∀ a:Int,0 <=a ->a < M ->J6 cv ns a <=1000000
structure Rt (w:Za):Prop where
 c1:1 <=w.cells.length
 c6:w.cells.length <=6
 n0:0 <=w.names
 n12:w.names <=12
 KC:w.notes.length <=80
 fr:w.freed.Pairwise (· < ·)
 frr:∀ x ∈ w.freed,0 <=x∧x < w.names
 Yr:∀ m,m < w.cells.length ->Uk (rowOf w m)
 cn:∀ m,m < w.cells.length ->∀ c ∈ rowOf w m,Yj w c.name=true∧(c.use=true∨c.out ≠ 0)
 nn:∀ x ∈ w.notes,Yj w x.name=true
 nm:∀ n,Yj w n=true ->∃ h,Nm w.cells.length n (YO w n) (Q8 w n) h∧Mst w.cells.length (YO w n) (Q8 w n)
section
variable {w:Za} {n:Int}
theorem Jp {m:Nat} (hm:m < w.cells.length) (n:Int):YO w n (m:Int)=cellOf w m n:=by
 unfold YO;rw [if_pos (by omega)]
 rfl
theorem Qe {a:Int} {c:Zb} (h:YO w n a=some c):(0 <=a∧a < (w.cells.length:Int))∧cellOf w a.toNat n=some c:=by
 unfold YO at h;split at h
 ·rename_i z;exact⟨z,h⟩
 ·cases h
theorem Zdj (w:Za) (m n:Int):YJ (YL m) (Q8 w n)=16 * (Zb6 w m n:Int):=by
 unfold Q8 Zb6
 induction w.notes with
 | nil=>rfl
 | cons x l ih=>
   rw [List.countP_cons,List.filter_cons];by_cases hn:x.name=n
   ·have:(x.name==n)=true:=by simp [hn]
    rw [this,if_pos rfl];simp only [YJ,ih,Bool.and_true];unfold YL;by_cases z:x.kind=3∧x.Zw=m
    ·rw [if_pos z,if_pos (by simp [z.1,z.2])];omega
    ·rw [if_neg z,if_neg (by simpa using z)];omega
   ·have:(x.name==n)=false:=by simp [hn]
    rw [this,if_neg (by simp),ih];simp
theorem ZdH (w:Za) {m:Nat} (hm:m < w.cells.length) (n:Int):JR w m n=ZK (J6 (YO w n) (Q8 w n) m):=by
 unfold JR J6;rw [Zdj,Jp hm];unfold ZpP X0;congr 1;cases cellOf w m n <;> dsimp only <;> omega
theorem ZoD (m n:Int) (l:List Zd) (t:Int):l.foldl (fun s x=>Zga m n x s) (ZK t)=ZK (t + YJ (UU m) (l.filter fun x=>x.name==n)):=by
 induction l generalizing t with
 | nil=>simp [YJ]
 | cons x l ih=>
   rw [List.foldl_cons,List.filter_cons];by_cases hn:x.name=n
   ·have hb:(x.name==n)=true:=by simp [hn]
    rw [hb,if_pos rfl];unfold Zga;rw [hb,Bool.true_and];simp only [YJ];rw [show UU m x=if(x.kind=1∧x.via=m)∨(x.kind=2∧x.Zw=m) then x.w else 0 from rfl];by_cases z:(x.kind=1∧x.via=m)∨(x.kind=2∧x.Zw=m)
    ·have:((x.kind==1) && (x.via==m) || (x.kind==2) && (x.Zw==m))=true:=by simpa using z
     rw [this,cond_true,Zkd,if_pos z];refine(ih _).trans ?_;congr 1;omega
    ·have:((x.kind==1) && (x.via==m) || (x.kind==2) && (x.Zw==m))=false:=by
      rw [← Bool.not_eq_true];simpa using z
     rw [this,cond_false,if_neg z];refine(ih _).trans ?_;congr 1;omega
   ·have hb:(x.name==n)=false:=by simp [hn]
    rw [hb,if_neg (by simp)];have:Zga m n x (ZK t)=ZK t:=by unfold Zga;rw [hb];rfl
    rw [this];exact ih t
theorem ZoE (w:Za) (m n:Int) {M:Nat} (hM:M <=w.cells.length):(List.range M).foldl (fun s k=>ZmN w m n k s) 0=ZK (W9 (fun k=>U4 m (YO w n k)) M):=by
 induction M with
 | zero=>rfl
 | succ M ih=>
   rw [List.range_succ,List.foldl_append,ih (by omega)];simp only [List.foldl_cons,List.foldl_nil,W9];rw [Jp (by omega)];unfold ZmN U4;cases cellOf w M n with
   | none=>simp
   | some c=>
     dsimp only;by_cases z:c.from_=m
     ·rw [if_pos z,show(c.from_==m)=true by simp [z],cond_true,Zkd]
     ·rw [if_neg z,show(c.from_==m)=false by simp [z],cond_false];simp
theorem Zry (w:Za) (m n:Int):ZdF w m n=ZK (Jd w.cells.length (YO w n) (Q8 w n) m):=by
 unfold ZdF Jd Q8;rw [ZoE w m n (Nat.le_refl _),ZoD]
theorem Zhd {f:Zd ->Int} {l:List Zd} {B:Int} (h:∀ x ∈ l,0 <=f x∧f x <=B):0 <=YJ f l∧YJ f l <=B * (l.length:Int):=by
 induction l with
 | nil=>simp [YJ]
 | cons x l ih=>
   have h1:=h x (by simp);have h2:=ih fun y hy=>h y (by simp [hy])
   simp only [YJ,List.length_cons]
   have:B * ((l.length + 1:Nat):Int)=B * (l.length:Int) + B:=by
    rw [Int.natCast_add,Int.mul_add];simp
   omega
theorem Zn5 {f:Nat ->Int} {B:Int} {M:Nat} (h:∀ m,m < M ->0 <=f m∧f m <=B):0 <=W9 f M∧W9 f M <=B * (M:Int):=by
 induction M with
 | zero=>simp [W9]
 | succ M ih=>
   have h1:=h M (by omega);have h2:=ih fun m hm=>h m (by omega)
   simp only [W9]
   have:B * ((M + 1:Nat):Int)=B * (M:Int) + B:=by
    rw [Int.natCast_add,Int.mul_add];simp
   omega
theorem ZaX {m:Int} {c:Zb} (h:WV w m c=true):Yj w c.name=true∧(-16 <=c.out∧c.out <=1000000)∧(c.use=true∨c.out ≠ 0)∧
 ((c.root=false∧0 <=c.from_∧c.from_ < (w.cells.length:Int)∧c.from_ ≠ m∧1 <=c.has∧c.has <=1000000)∨(c.from_=-1∧c.has=0)):=by
 unfold WV Zaj at h;rw [Bool.and_eq_true,Bool.and_eq_true,Bool.and_eq_true] at h;obtain⟨⟨⟨h1,h2⟩,h3⟩,h4⟩:=h;refine⟨h1,by simpa using h2,?_,?_⟩
 ·simpa using h3
 ·cases hr:(c.root || c.from_==-1)
  ·rw [hr,cond_false] at h4;simp at h4 hr;exact .inl ⟨hr.1,by omega,by omega,h4.1.2,by omega,by omega⟩
  ·rw [hr,cond_true] at h4;simp at h4;exact .inr h4
theorem Zve {m:Int} {c:Zb} (h1:Yj w c.name=true) (h2:-16 <=c.out∧c.out <=1000000) (h3:c.use=true∨c.out ≠ 0)
 (h4:(c.root=false∧0 <=c.from_∧c.from_ < (w.cells.length:Int)∧c.from_ ≠ m∧1 <=c.has∧c.has <=1000000)∨(c.from_=-1∧c.has=0)):WV w m c=true:=by
 unfold WV Zaj;rw [Bool.and_eq_true,Bool.and_eq_true,Bool.and_eq_true];refine⟨⟨⟨h1,by simpa using h2⟩,by simpa using h3⟩,?_⟩;rcases h4 with⟨q1,q2,q3,q4,q5,q6⟩ | ⟨q1,q2⟩
 ·have:(c.root || c.from_==-1)=false:=by simp [q1];omega
  rw [this,cond_false];simp;exact⟨⟨⟨q2,q3⟩,q4⟩,q5,q6⟩
 ·have:(c.root || c.from_==-1)=true:=by simp [q1]
  rw [this,cond_true];simp [q1,q2]
theorem KD {x:Zd} (h:U9 w x=true):(0 <=x.Zw∧x.Zw < (w.cells.length:Int))∧Yj w x.name=true∧(1 <=x.w∧x.w <=1000000)∧
 ((x.kind=1∧0 <=x.via∧x.via < (w.cells.length:Int))∨(x.kind=2∧x.via=0)∨(x.kind=3∧x.via=0∧x.w=16)):=by
 unfold U9 Zaj at h;rw [Bool.and_eq_true,Bool.and_eq_true,Bool.and_eq_true] at h;obtain⟨⟨⟨h1,h2⟩,h3⟩,h4⟩:=h;refine⟨by simpa using h1,h2,by simpa using h3,?_⟩;cases k1:(x.kind==1)
 ·rw [k1,cond_false] at h4;cases k2:(x.kind==2)
  ·rw [k2,cond_false] at h4;simp at h4;exact .inr (.inr ⟨h4.1.1,h4.1.2,h4.2⟩)
  ·rw [k2,cond_true] at h4;exact .inr (.inl ⟨by simpa using k2,by simpa using h4⟩)
 ·rw [k1,cond_true] at h4;exact .inl ⟨by simpa using k1,by simpa using h4⟩
theorem Ztl {x:Zd} (h1:0 <=x.Zw∧x.Zw < (w.cells.length:Int)) (h2:Yj w x.name=true) (h3:1 <=x.w∧x.w <=1000000)
 (h4:(x.kind=1∧0 <=x.via∧x.via < (w.cells.length:Int))∨(x.kind=2∧x.via=0)∨(x.kind=3∧x.via=0∧x.w=16)):U9 w x=true:=by
 unfold U9 Zaj;rw [Bool.and_eq_true,Bool.and_eq_true,Bool.and_eq_true];refine⟨⟨⟨by simpa using h1,h2⟩,by simpa using h3⟩,?_⟩;rcases h4 with⟨k,v⟩ | ⟨k,v⟩ | ⟨k,v,u⟩
 ·rw [k];simpa using v
 ·rw [k];simpa using v
 ·rw [k];simp [v,u]
theorem Shp.ZfW (sh:Shp w) {m:Nat} (hm:m < w.cells.length) (n:Int):JR w m n=J6 (YO w n) (Q8 w n) m:=by
 rw [ZdH w hm];have h1:=Zhd (f:=YL (m:Int)) (l:=Q8 w n) (B:=16) (fun x _=>by unfold YL;split <;> omega);have h2:(Q8 w n).length <=w.notes.length:=List.length_filter_le _ _;have h3:=sh.notes
 have h4:-16 <=X0 (YO w n m)∧X0 (YO w n m) <=1000000:=by
  rw [Jp hm];cases e:cellOf w m n with
  | none=>simp [X0]
  | some c=>
    obtain⟨row,k,r1,r2⟩:=KZ e;exact(ZaX (sh.cell m row k c r1 r2).1).2.1
 unfold J6;rw [YM] <;> omega
theorem Shp.Zhf (sh:Shp w) {m:Nat} (hm:m < w.cells.length) (n:Int):ZdF w m n=Jd w.cells.length (YO w n) (Q8 w n) m:=by
 rw [Zry w]
 have h1:=Zhd (f:=UU (m:Int)) (l:=Q8 w n) (B:=1000000) (fun x hx=>by
  have:=KD (sh.note x (List.mem_filter.1 hx).1);unfold UU;split <;> omega)
 have h2:(Q8 w n).length <=w.notes.length:=List.length_filter_le _ _;have h3:=sh.notes
 have h4:=Zn5 (f:=fun k=>U4 (m:Int) (YO w n k)) (B:=1000000) (M:=w.cells.length) (fun k hk=>by
  rw [Jp hk];cases e:cellOf w k n with
  | none=>simp [U4]
  | some c=>
    obtain⟨row,j,r1,r2⟩:=KZ e;have:= (ZaX (sh.cell k row j c r1 r2).1).2.2.2;unfold U4;dsimp only;split <;> omega)
 have:=sh.c6;unfold Jd;rw [YM] <;> omega
theorem WS (n h:Int) (k:Nat):Y8 w n h k h=true:=by cases k <;> simp [Y8]
theorem Zf9 {h:Int}:∀ {k:Nat} {a:Int},Y8 w n h k a=true ->Y8 w n h (k + 1) a=true
 | 0,a,q=>by
   have:a=h:=by simpa [Y8] using q
   subst this;exact WS _ _ _
 | k + 1,a,q=>by
   rw [Y8] at q ⊢;cases e:(a==h)
   ·rw [e,cond_false] at q;rw [cond_false];cases ec:cellOf w a.toNat n with
    | none=>rw [ec] at q;cases q
    | some c=>
      rw [ec] at q;dsimp only at q ⊢;cases ef:decide (c.from_ < 0)
      ·rw [ef,cond_false] at q;exact Zf9 q
      ·rw [ef] at q;cases q
   ·rfl
theorem Zkw {h:Int} {k:Nat} {a:Int} (q:Y8 w n h k a=true):a=h∨cellOf w a.toNat n ≠ none:=by
 by_cases e:a=h
 ·exact .inl e
 ·right;intro z;cases k with
  | zero=>exact e (by simpa [Y8] using q)
  | succ k=>
    rw [Y8,z,show(a==h)=false by simp [e]] at q;cases q
theorem Uz {h:Int} {k:Nat} {a:Int} {c:Zb} (ha:a ≠ h) (hc:cellOf w a.toNat n=some c):Y8 w n h (k + 1) a= (!decide (c.from_ < 0) && Y8 w n h k c.from_):=by
 rw [Y8,hc,show(a==h)=false by simp [ha],cond_false];dsimp only;cases decide (c.from_ < 0) <;> rfl
theorem ZfD {α:Type} {p q:α ->Bool} {l:List α} (h:∀ x ∈ l,p x=true ->q x=true) {x:α} (hx:x ∈ l) (h1:p x=false) (h2:q x=true):l.countP p < l.countP q:=by
 induction l with
 | nil=>simp at hx
 | cons y l ih=>
   rw [List.countP_cons,List.countP_cons];have hm:l.countP p <=l.countP q:=List.countP_mono_left fun z hz=>h z (by simp [hz])
   have hy:=h y (by simp);rcases List.mem_cons.1 hx with rfl | hx
   ·rw [h1,h2];simp;omega
   ·have:=ih (fun z hz=>h z (by simp [hz])) hx;cases ep:p y
    ·simp;omega
    ·rw [hy ep];simp;omega
theorem switch {f:Nat ->Bool}:∀ {K:Nat},f 0=false ->f (K + 1)=true ->∃ j,j <=K∧f j=false∧f (j + 1)=true
 | 0,h0,h1=>⟨0,Nat.le_refl _,h0,h1⟩
 | K + 1,h0,h1=>by
   cases e:f (K + 1) with
   | false=>exact⟨K + 1,Nat.le_refl _,e,h1⟩
   | true=>
     obtain⟨j,j1,j2⟩:=switch h0 e;exact⟨j,by omega,j2⟩
theorem Zwv {h:Int} (sh:Shp w) (L:WT w n h=true):∃ dep:Int ->Nat,∀ m c,YO w n m=some c ->m ≠ h ->0 <=c.from_∧(YO w n c.from_ ≠ none∨c.from_=h)∧dep c.from_ < dep m:=by
 have all:∀ m:Nat,m < w.cells.length ->cellOf w m n ≠ none ->Y8 w n h w.cells.length m=true:=by
  intro m hm hc;unfold WT at L;rw [Bool.not_eq_true',List.any_eq_false] at L;have:=L m (List.mem_range.2 hm);cases e:Y8 w n h w.cells.length m with
  | true=>rfl
  | false=>
    exfalso;apply this;rw [e];cases ec:cellOf w m n with
    | none=>exact absurd ec hc
    | some c=>rfl
 refine⟨fun a=>(List.range (w.cells.length + 1)).countP fun k=>!Y8 w n h k a,fun m c hc hm=>?_⟩;obtain⟨hr,hc'⟩:=Qe hc;have hmn:((m.toNat:Nat):Int)=m:=by omega
 have q:=all m.toNat (by omega) (by rw [hc'];simp);rw [hmn] at q;have hM:=sh.c1;obtain⟨K,hK⟩:=Nat.exists_eq_succ_of_ne_zero (n:=w.cells.length) (by omega);rw [hK,Uz hm hc',Bool.and_eq_true] at q;have hf:0 <=c.from_:=by have:=q.1;simp at this;omega
 have hfr:=sh.from_ hc' (by omega);refine⟨hf,?_,?_⟩
 ·rcases Zkw q.2 with z | z
  ·exact .inr z
  ·left;unfold YO;rw [if_pos hfr];exact z
 ·have hp:w.cells.length=K + 1:=hK
  obtain⟨j,j1,j2,j3⟩:=switch (f:=fun k=>Y8 w n h k m) (K:=K) (by simp [Y8,hm]) (by
   show Y8 w n h (K + 1) m=true;rw [Uz hm hc',Bool.and_eq_true];exact q)
  rw [Uz hm hc',Bool.and_eq_true] at j3;refine ZfD (x:=j) (fun k hk hp=>?_) (List.mem_range.2 (by omega)) (by rw [j3.2];rfl) (by rw [j2];rfl);rw [Bool.not_eq_true'] at hp ⊢;cases k with
  | zero=>simp [Y8,hm]
  | succ k=>
    rw [Uz hm hc',Bool.and_eq_false_iff];right;cases e:Y8 w n h k c.from_ with
    | false=>rfl
    | true=>rw [Zf9 e] at hp;cases hp
theorem Zwu {h:Int} (L:∃ dep:Int ->Nat,∀ m c,YO w n m=some c ->m ≠ h ->0 <=c.from_∧(YO w n c.from_ ≠ none∨c.from_=h)∧dep c.from_ < dep m):WT w n h=true:=by
 obtain⟨dep,L⟩:=L
 let S:Int ->Nat ->Bool:=fun a k=>(YO w n (k:Int)).isSome && decide (dep k < dep a)
 let rk:Int ->Nat:=fun a=>(List.range w.cells.length).countP (S a)
 have key:∀ k a c,rk a <=k ->YO w n a=some c ->Y8 w n h (k + 1) a=true:=by
  intro k
  induction k with
  | zero=>
    intro a c hk hc;by_cases ha:a=h
    ·subst ha;exact WS _ _ _
    ·obtain⟨l1,l2,l3⟩:=L a c hc ha;rw [Uz ha (Qe hc).2,Bool.and_eq_true];refine⟨by simp;omega,?_⟩;by_cases z:c.from_=h
     ·rw [z];exact WS _ _ _
     ·exfalso;have l2:YO w n c.from_ ≠ none:=by rcases l2 with q | q;exact q;exact absurd q z
      obtain⟨d,hd⟩:=Option.ne_none_iff_exists'.1 l2;have hr:= (Qe hd).1;have hf:((c.from_.toNat:Nat):Int)=c.from_:=by omega
      have:0 < rk a:=by
       refine List.countP_pos_iff.2 ⟨c.from_.toNat,List.mem_range.2 (by omega),?_⟩;show((YO w n ((c.from_.toNat:Nat):Int)).isSome && decide (dep ((c.from_.toNat:Nat):Int) < dep a))=true
       rw [hf,hd];simpa using l3
      omega
  | succ k ih=>
    intro a c hk hc;by_cases ha:a=h
    ·subst ha;exact WS _ _ _
    ·obtain⟨l1,l2,l3⟩:=L a c hc ha;rw [Uz ha (Qe hc).2,Bool.and_eq_true];refine⟨by simp;omega,?_⟩;by_cases z:c.from_=h
     ·rw [z];exact WS _ _ _
     ·have l2:YO w n c.from_ ≠ none:=by rcases l2 with q | q;exact q;exact absurd q z
      obtain⟨d,hd⟩:=Option.ne_none_iff_exists'.1 l2;have hr:= (Qe hd).1;have hf:((c.from_.toNat:Nat):Int)=c.from_:=by omega
      refine ih c.from_ d ?_ hd
      have:rk c.from_ < rk a:=by
       refine ZfD (x:=c.from_.toNat) (fun j hj hp=>?_) (List.mem_range.2 (by omega)) ?_ ?_
       ·have hp:((YO w n (j:Int)).isSome && decide (dep j < dep c.from_))=true:=hp;show((YO w n (j:Int)).isSome && decide (dep j < dep a))=true;rw [Bool.and_eq_true,decide_eq_true_eq] at hp ⊢;exact⟨hp.1,by omega⟩
       ·show((YO w n ((c.from_.toNat:Nat):Int)).isSome && decide (dep ((c.from_.toNat:Nat):Int) < dep c.from_))=false
        rw [hf];simp
       ·show((YO w n ((c.from_.toNat:Nat):Int)).isSome && decide (dep ((c.from_.toNat:Nat):Int) < dep a))=true
        rw [hf,hd];simpa using l3
      omega
 unfold WT;rw [Bool.not_eq_true',List.any_eq_false];intro m hm;rw [List.mem_range] at hm;rw [Bool.not_eq_true];cases e:cellOf w m n with
 | none=>rfl
 | some c=>
   have hc:YO w n m=some c:=by rw [Jp hm];exact e
   have:rk m < w.cells.length:=by
    have:=ZfD (p:=S m) (q:=fun _=>true) (l:=List.range w.cells.length) (fun _ _ _=>rfl) (x:=m) (List.mem_range.2 hm) (by show((YO w n (m:Int)).isSome && decide (dep m < dep m))=false;simp) rfl
    simpa [rk] using this
   obtain⟨K,hK⟩:=Nat.exists_eq_succ_of_ne_zero (n:=w.cells.length) (by omega);have:=key K m c (by omega) hc;rw [hK,this];rfl
end
end Go.Proofs.Ytekpjgmhkkjhgaa
end
section
namespace Go.Proofs.Ytekpjgmhkkjhgaa
open Go.Lf
theorem ZqQ {α:Type} [Inhabited α] (f:α ->Int) {l:List α} (h:∀ k x,l[k]? =some x ->0 < k ->f (QE l k) < f x):l.Pairwise fun a b=>f a < f b:=by
 rw [List.pairwise_iff_getElem]
 have key:∀ (j i:Nat) (hi:i < l.length) (hj:j < l.length),i < j ->f l[i] < f l[j]:=by
  intro j
  induction j with
  | zero=>intro i hi hj h;omega
  | succ j ih=>
    intro i hi hj hij;have q:=h (j + 1) l[j + 1] (by simp [hj]) (by omega)
    have e:QE l (j + 1)=l[j]'(by omega):=by
     unfold QE;rw [Nat.add_sub_cancel,List.getElem?_eq_getElem (by omega)];rfl
    rw [e] at q;by_cases z:i=j
    ·subst z;exact q
    ·have:=ih i hi (by omega) (by omega);omega
 exact fun i j hi hj hij=>key j i hi hj hij
theorem ZqS {α:Type} [Inhabited α] (f:α ->Int) {l:List α} (h:l.Pairwise fun a b=>f a < f b) {k:Nat} {x:α} (hk:l[k]? =some x) (h0:0 < k):f (QE l k) < f x:=by
 rw [List.pairwise_iff_getElem] at h;obtain⟨hl,rfl⟩:=List.getElem?_eq_some_iff.1 hk
 have e:QE l k=l[k - 1]'(by omega):=by
  unfold QE;rw [List.getElem?_eq_getElem (by omega)];rfl
 rw [e];exact h _ _ _ _ (by omega)
theorem ZaZ {b:Int}:∀ {l:List Int} {a:Int},l.Pairwise (· < ·) ->(∀ x ∈ l,a <=x∧x < b) ->a <=b ->a + (l.length:Int) <=b
 | [],a,_,_,h=>by simp;exact h
 | x::l,a,p,hr,h=>by
   rw [List.pairwise_cons] at p;have h0:=hr x (by simp);have:=ZaZ (l:=l) (a:=x + 1) (b:=b) p.2 (fun y hy=>by have h1:=p.1 y hy;have h2:=hr y (by simp [hy]);omega) (by omega);simp only [List.length_cons];omega
theorem ZdQ {α:Type} {c:Nat ->α ->Bool} {l:List α} (h:∀ k x,l[k]? =some x ->c k x=false):anyI c 0 l=false:=by
 rw [← Bool.not_eq_true,Zco];rintro⟨k,x,h1,h2⟩;rw [Nat.zero_add,h k x h1] at h2;cases h2
theorem Zx1 {α:Type} {c:Nat ->α ->Bool} {l:List α} (h:anyI c 0 l=false) {k:Nat} {x:α} (hk:l[k]? =some x):c k x=false:=by
 rw [← Bool.not_eq_true,Zco] at h;cases e:c k x with
 | false=>rfl
 | true=>exact absurd ⟨k,x,hk,by rw [Nat.zero_add];exact e⟩ h
section
variable {w:Za} {n:Int}
theorem Zwi {m:Nat} (hm:m < w.cells.length) {c:Zb} (hc:c ∈ rowOf w m):∃ k:Nat,w.cells[m]? =some (rowOf w m)∧(rowOf w m)[k]? =some c:=by
 obtain⟨k,hk⟩:=List.getElem?_of_mem hc;exact⟨k,QY hm,hk⟩
theorem Zlz {m:Nat} (hm:m < w.cells.length) (n:Int):ZlA w m n=Zb6 w m n + Jo (YO w n m):=by
 rw [Jp hm];unfold ZlA Jo;cases cellOf w m n with
 | none=>rfl
 | some c=>dsimp only;cases c.root <;> rfl
theorem Zoz {m:Int} {x:Zd} (hx:x ∈ Q8 w n) (k:x.kind=3) (h:x.Zw=m):1 <=Zb6 w m n:=by
 unfold Q8 at hx;rw [List.mem_filter] at hx;refine List.countP_pos_iff.2 ⟨x,hx.1,?_⟩;simp [k,h];simpa using hx.2
theorem Rt.of (h:KL w=true):Rt w:=by
 unfold KL at h;rw [Bool.and_eq_true] at h;obtain⟨hs,hn⟩:=h;have sh:=ZfX hs;unfold Zac at hs;simp only [Bool.and_eq_true,Bool.not_eq_true'] at hs;obtain⟨s1,s2,s3,s4⟩:=hs
 have hfr:∀ k x,w.freed[k]? =some x ->(0 <=x∧x < w.names)∧(0 < k ->QE w.freed k < x):=by
  intro k x hk;have:=Zx1 s2 hk;unfold KS at this;simp at this;exact⟨this.1,fun h0=>this.2 h0⟩
 refine⟨sh.c1,sh.c6,sh.n0,sh.n12,sh.notes,ZqQ (fun x=>x) (fun k x hk h0=>(hfr k x hk).2 h0),?_,?_,?_,?_,?_⟩
 ·intro x hx;obtain⟨k,hk⟩:=List.getElem?_of_mem hx;exact(hfr k x hk).1
 ·intro m hm;exact ZqQ (fun c:Zb=>c.name) (fun k c hk h0=>(sh.cell m _ k c (QY hm) hk).2 h0)
 ·intro m hm c hc;obtain⟨k,r1,r2⟩:=Zwi hm hc;have:=ZaX (sh.cell m _ k c r1 r2).1;exact⟨this.1,this.2.2.1⟩
 ·exact fun x hx=>(KD (sh.note x hx)).2.1
 ·intro n hnn
  have hr:0 <=n∧n < w.names:=by
   have:=hnn;unfold Yj at this;simp at this;exact this.1
  rw [Bool.not_eq_true',List.any_eq_false] at hn
  have hro:Ww w n=true:=by
   have:=hn n.toNat (List.mem_range.2 (by omega));rw [show((n.toNat:Nat):Int)=n by omega,hnn] at this;cases e:Ww w n with
   | true=>rfl
   | false=>rw [e] at this;exact absurd rfl this
  unfold Ww at hro;simp only [Bool.and_eq_true,Bool.not_eq_true',beq_iff_eq] at hro;obtain⟨h1,h2,h3⟩:=hro;rw [List.any_eq_false] at h1
  have hbad:∀ m:Nat,m < w.cells.length ->J6 (YO w n) (Q8 w n) m=Jd w.cells.length (YO w n) (Q8 w n) m∧J6 (YO w n) (Q8 w n) m <=1000000:=by
   intro m hm;have:=h1 m (List.mem_range.2 hm);unfold Zsb at this;rw [sh.ZfW hm,sh.Zhf hm] at this
   simpa using this
  obtain⟨f1,f2⟩:=ZeU sh n
  have hL:YP w n= [(QB w n).2]:=by
   have:(YP w n).length=1:=by
    unfold QB at h2;rw [f1] at h2;omega
   obtain⟨z,hz⟩:=List.length_eq_one_iff.1 this;rw [show(QB w n).2=z from f2 z hz];exact hz
  obtain⟨z,hz⟩:∃ z,(QB w n).2=z:= ⟨_,rfl⟩
  rw [hz] at hL h3;have hzr:=Zbm sh n z (by rw [hL];simp)
  have hcnt:∀ m:Nat,m < w.cells.length ->ZlA w m n=if(m:Int)=z then 1 else 0:=by
   intro m hm;rw [← Kr hm,hL];by_cases e:(m:Int)=z
   ·rw [if_pos e,e];simp
   ·rw [if_neg e];rw [List.count_eq_zero];simp;exact e
  have hcell:∀ m c,YO w n m=some c ->∃ (row:List Zb) (k:Nat),w.cells[m.toNat]? =some row∧row[k]? =some c∧WV w m.toNat c=true:=by
   intro m c hc;obtain⟨row,k,r1,r2⟩:=KZ (Qe hc).2;exact⟨row,k,r1,r2,(sh.cell _ row k c r1 r2).1⟩
  have h3n:∀ x ∈ Q8 w n,x.kind=3 ->x.Zw=z:=by
   intro x hx k;have hx':=KD (sh.note x (List.mem_filter.1 hx).1);have:=Zoz hx k (m:= ((x.Zw.toNat:Nat):Int)) (by omega);have hc:=hcnt x.Zw.toNat (by omega);rw [Zlz (by omega)] at hc;by_cases e:((x.Zw.toNat:Nat):Int)=z
   ·omega
   ·rw [if_neg e] at hc;omega
  refine⟨z,⟨?_,?_,?_,?_,hzr,?_,?_,?_,?_⟩,?_⟩
  ·exact fun m c hc=>(Qe hc).1
  ·exact fun m c hc=>Qt (Qe hc).2
  ·intro m c hc;have hr:= (Qe hc).1;obtain⟨_,_,_,_,q⟩:=hcell m c hc;have:= (ZaX q).2.2.2;rw [show((m.toNat:Nat):Int)=m by omega] at this;rcases this with⟨a1,a2,a3,a4,a5,a6⟩ | a
   ·exact .inl ⟨a1,a2,a3,a4,a5⟩
   ·exact .inr a
  ·intro x hx;have hx':=KD (sh.note x (List.mem_filter.1 hx).1);refine⟨hx'.1,by simpa using (List.mem_filter.1 hx).2,hx'.2.2.1.1,?_⟩;rcases hx'.2.2.2 with a | a | a
   ·exact .inl a
   ·exact .inr (.inl a)
   ·exact .inr (.inr ⟨a.1,a.2.1,a.2.2,h3n x hx a.1⟩)
  ·intro m c hc hrt;have hr:= (Qe hc).1;have q:=hcnt m.toNat (by omega);unfold ZlA at q;rw [(Qe hc).2] at q;dsimp only at q;rw [hrt,cond_true] at q;split at q <;> omega
  ·have q:=hcnt z.toNat (by omega);have hzn:((z.toNat:Nat):Int)=z:=by omega
   rw [if_pos hzn,Zlz (by omega)] at q;rw [hzn] at q;have g1:=Zdj w z n;rw [Zhe h3n,if_pos rfl] at g1;omega
  ·intro a a0 a1;have:= (hbad a.toNat (by omega)).1;rw [show((a.toNat:Nat):Int)=a by omega] at this;exact this
  ·exact Zwv sh h3
  ·intro a a0 a1;have:= (hbad a.toNat (by omega)).2;rw [show((a.toNat:Nat):Int)=a by omega] at this;exact this
theorem Rt.ZjL (R:Rt w):(w.freed.length:Int) <=w.names:=by
 have:=ZaZ R.fr R.frr R.n0;omega
theorem Rt.ZfK (R:Rt w) {m:Nat} (hm:m < w.cells.length) {c:Zb} (hc:c ∈ rowOf w m):YO w c.name m=some c:=by
 rw [Jp hm];exact ZoP (R.Yr m hm) hc
theorem Rt.WV (R:Rt w) {m:Nat} (hm:m < w.cells.length) {c:Zb} (hc:c ∈ rowOf w m):WV w m c=true:=by
 obtain⟨q1,q2⟩:=R.cn m hm c hc;obtain⟨h,H,Mx⟩:=R.nm _ q1;have e:=R.ZfK hm hc;have ho:=H.Zhw e;have hmx:=Mx m (by omega) (by omega);rw [H.giv,e] at hmx;simp only [X0] at hmx;refine Zve q1 ⟨ho.1,?_⟩ q2 ?_
 ·split at hmx <;> omega
 ·rcases H.cel m c e with⟨a1,a2,a3,a4,a5⟩ | a
  ·have h1:=H.ZcI e a2;have h2:=H.acc c.from_ a2 a3;have h3:=Mx c.from_ a2 a3;exact .inl ⟨a1,a2,a3,a4,a5,by omega⟩
  ·exact .inr a
theorem Rt.U9 (R:Rt w) {x:Zd} (hx:x ∈ w.notes):U9 w x=true:=by
 have q1:=R.nn x hx;obtain⟨h,H,Mx⟩:=R.nm _ q1;have hx':x ∈ Q8 w x.name:=List.mem_filter.2 ⟨hx,by simp⟩;obtain⟨a1,a2,a3,a4⟩:=H.KC x hx';refine Ztl a1 q1 ⟨a3,?_⟩ ?_
 ·rcases a4 with z | z | z
  ·have h1:=H.UA z.2.1 hx';rw [Wx z.1,if_pos rfl] at h1;have h2:=H.acc _ z.2.1 z.2.2;have h3:=Mx _ z.2.1 z.2.2;omega
  ·have h1:=H.UA a1.1 hx';rw [Zbg z.1,if_pos rfl] at h1;have h2:=H.acc _ a1.1 a1.2;have h3:=Mx _ a1.1 a1.2;omega
  ·omega
 ·rcases a4 with z | z | z
  ·exact .inl z
  ·exact .inr (.inl z)
  ·exact .inr (.inr ⟨z.1,z.2.1,z.2.2.1⟩)
theorem Rt.shaped (R:Rt w):Zac w=true:=by
 have hfl:=R.ZjL;have:=R.c1;have:=R.c6;have:=R.n0;have:=R.n12;have:=R.KC;unfold Zac;simp only [Bool.and_eq_true,Bool.not_eq_true'];refine⟨?_,?_,?_,?_⟩
 ·unfold ZbH;simp only [Bool.and_eq_true,decide_eq_true_eq];omega
 ·refine ZdQ fun k x hk=>?_
  have h1:=R.frr x (List.mem_of_getElem? hk);unfold KS;have h2:0 < k ->QE w.freed k < x:=fun h0=>ZqS (fun x=>x) R.fr hk h0
  simp;exact⟨h1,h2⟩
 ·unfold Zc5;rw [Bool.not_eq_true'];refine ZdQ fun m row hm=>?_
  have hml:m < w.cells.length:= (List.getElem?_eq_some_iff.1 hm).1;have hro:row=rowOf w m:=by have:=QY hml;rw [hm] at this;exact Option.some.inj this
  subst hro;refine ZdQ fun k c hk=>?_
  unfold KJ;rw [R.WV hml (List.mem_of_getElem? hk)];simp;exact fun h0=>ZqS (fun c:Zb=>c.name) (R.Yr m hml) hk h0
 ·unfold KM;rw [Bool.not_eq_true',List.any_eq_false];intro x hx;rw [R.U9 hx];simp
theorem Rt.shp (R:Rt w):Shp w:=ZfX R.shaped
theorem Rt.right (R:Rt w):KL w=true:=by
 have sh:=R.shp;unfold KL;rw [Bool.and_eq_true];refine⟨R.shaped,?_⟩;rw [Bool.not_eq_true',List.any_eq_false];intro k hk;rw [Bool.not_eq_true];cases hn:Yj w k with
 | false=>rfl
 | true=>
   obtain⟨h,H,Mx⟩:=R.nm _ hn;rw [Bool.true_and,Bool.not_eq_false']
   have hcnt:∀ m:Nat,m < w.cells.length ->ZlA w m k=if(m:Int)=h then 1 else 0:=by
    intro m hm;have g1:=Zdj w m k;rw [Zhe (h:=h) (fun x hx k3=>by rcases(H.KC x hx).2.2.2 with z | z | z <;> omega)] at g1;have o:=H.one;rw [Zlz hm];by_cases e:(m:Int)=h
    ·rw [if_pos e] at g1 ⊢;rw [e];rw [e] at g1;omega
    ·rw [if_neg e] at g1 ⊢
     have:Jo (YO w k m)=0:=by
      cases ec:YO w k m with
      | none=>rfl
      | some c=>
        show(if c.root=true then 1 else 0)=0;rw [if_neg (fun z=>e (H.rt m c ec z))]
     omega
   have hr:=Zbm sh (k:Int)
   have hL:YP w k= [h]:=by
    have c1:∀ x ∈ YP w (k:Int),x=h:=by
     intro x hx;have h1:=hr x hx;have h2:=Kr (w:=w) (m:=x.toNat) (by omega) (k:Int);rw [hcnt x.toNat (by omega),show((x.toNat:Nat):Int)=x by omega] at h2;have h3:0 < (YP w (k:Int)).count x:=List.count_pos_iff.2 hx;by_cases e:x=h
     ·exact e
     ·rw [if_neg e] at h2;omega
    have c2:(YP w (k:Int)).count h=1:=by
     have hh:=H.hM;have h2:=Kr (w:=w) (m:=h.toNat) (by omega) (k:Int);rw [hcnt h.toNat (by omega),show((h.toNat:Nat):Int)=h by omega,if_pos rfl] at h2;exact h2
    have c3:(YP w (k:Int)).length=1:=by
     rw [← c2]
     symm
     rw [List.count_eq_length];exact fun x hx=>(c1 x hx).symm
    obtain⟨z,hz⟩:=List.length_eq_one_iff.1 c3;rw [hz];rw [c1 z (by rw [hz];simp)]
   obtain⟨f1,f2⟩:=ZeU sh (k:Int);unfold Ww;simp only [Bool.and_eq_true,Bool.not_eq_true',beq_iff_eq];refine⟨?_,?_,?_⟩
   ·rw [List.any_eq_false];intro m hm;rw [List.mem_range] at hm;unfold Zsb;rw [sh.ZfW hm,sh.Zhf hm,H.acc m (by omega) (by omega)];have:=Mx m (by omega) (by omega);rw [H.acc m (by omega) (by omega)] at this;simp;exact this
   ·unfold QB;rw [f1,hL];rfl
   ·have:(QB w (k:Int)).2=h:=f2 h hL;rw [this];exact Zwu H.lead
end
end Go.Proofs.Ytekpjgmhkkjhgaa
end
section
namespace Go.Proofs.Ytekpjgmhkkjhgaa
open Go.Lf
def flN (n:Int) (fl:List Zd):List Zd:=fl.filter fun x=>x.name==n
structure Rx (w:Za) (ex:Int ->Int ->Prop) (fl:List Zd):Prop where
 c1:1 <=w.cells.length
 c6:w.cells.length <=6
 n0:0 <=w.names
 n12:w.names <=12
 fr:w.freed.Pairwise (· < ·)
 frr:∀ x ∈ w.freed,0 <=x∧x < w.names
 Yr:∀ m,m < w.cells.length ->Uk (rowOf w m)
 cn:∀ n m c,YO w n m=some c ->Yj w n=true∧(c.use=true∨c.out ≠ 0∨ex m n)
 nn:∀ x ∈ fl ++ w.notes,Yj w x.name=true
 nm:∀ n,Yj w n=true ->∃ h,Nm w.cells.length n (YO w n) (flN n fl ++ Q8 w n) h
def Mw (w:Za) (fl:List Zd):Prop:=∀ n,Yj w n=true ->Mst w.cells.length (YO w n) (flN n fl ++ Q8 w n)
def Kc:Int ->Int ->Prop:=fun _ _=>False
theorem Rt.rx {w:Za} (R:Rt w):Rx w Kc []∧Mw w []:=by
 refine⟨⟨R.c1,R.c6,R.n0,R.n12,R.fr,R.frr,R.Yr,fun n m c hc=>?_,R.nn,fun n hn=>?_⟩,fun n hn=>?_⟩
 ·obtain⟨h1,h2⟩:=Qe hc;have hm:m.toNat < w.cells.length:=by omega
  obtain⟨row,k,r1,r2⟩:=KZ h2;have:row=rowOf w m.toNat:=by have:=QY hm;rw [r1] at this;exact Option.some.inj this
  subst this;have q:=R.cn _ hm c (List.mem_of_getElem? r2);rw [Qt h2] at q;exact⟨q.1,q.2.elim .inl fun z=>.inr (.inl z)⟩
 ·obtain⟨h,H,_⟩:=R.nm n hn;exact⟨h,H⟩
 ·obtain⟨h,_,H⟩:=R.nm n hn;exact H
theorem Rx.rt {w:Za} (R:Rx w Kc []) (Mx:Mw w []) (hl:w.notes.length <=80):Rt w:=by
 refine⟨R.c1,R.c6,R.n0,R.n12,hl,R.fr,R.frr,R.Yr,fun m hm c hc=>?_,R.nn,fun n hn=>?_⟩
 ·have e:YO w c.name m=some c:=by rw [Jp hm];exact ZoP (R.Yr m hm) hc
  obtain⟨q1,q2⟩:=R.cn _ _ _ e;refine⟨q1,?_⟩;rcases q2 with q | q | q
  ·exact .inl q
  ·exact .inr q
  ·exact q.elim
 ·obtain⟨h,H⟩:=R.nm n hn;exact⟨h,H,Mx n hn⟩
structure Upd (w w':Za) (n:Int):Prop where
 len:w'.cells.length=w.cells.length
 nms:w'.names=w.names
 fre:w'.freed=w.freed
 Yr:∀ m,m < w.cells.length ->Uk (rowOf w' m)
 oc:∀ k,k ≠ n ->YO w' k=YO w k
 on:∀ k,k ≠ n ->Q8 w' k=Q8 w k
theorem Upd.trans {w w1 w2:Za} {n:Int} (a:Upd w w1 n) (b:Upd w1 w2 n):Upd w w2 n:=
 ⟨b.len.trans a.len,b.nms.trans a.nms,b.fre.trans a.fre,fun m hm=>b.Yr m (by rw [a.len];exact hm),fun k hk=>(b.oc k hk).trans (a.oc k hk),fun k hk=>(b.on k hk).trans (a.on k hk)⟩
theorem ZbZ {w w':Za} (h1:w'.names=w.names) (h2:w'.freed=w.freed) (n:Int):Yj w' n=Yj w n:=by unfold Yj;rw [h1,h2]
theorem ZkU {n:Int} {fl:List Zd} (h:∀ x ∈ fl,x.name ≠ n):flN n fl= []:=by
 unfold flN;rw [List.filter_eq_nil_iff];intro x hx;simp;exact h x hx
theorem Kt {n:Int} {fl:List Zd} (h:∀ x ∈ fl,x.name=n):flN n fl=fl:=by
 unfold flN;rw [List.filter_eq_self];intro x hx;simp;exact h x hx
section
variable {w w':Za} {n:Int} {ex ex':Int ->Int ->Prop} {fl fl':List Zd}
theorem Rx.upd (R:Rx w ex fl) (U:Upd w w' n) (hn:Yj w n=true) (hfl:∀ x ∈ fl,x.name=n) (Zgw:∀ x ∈ fl',x.name=n)
 (he:∀ m c,YO w' n m=some c ->c.use=true∨c.out ≠ 0∨ex' m n) (he2:∀ m k,k ≠ n ->ex m k ->ex' m k)
 (hm:∃ h,Nm w.cells.length n (YO w' n) (fl' ++ Q8 w' n) h):Rx w' ex' fl':=by
 have hB:=ZbZ U.nms U.fre;refine⟨by rw [U.len];exact R.c1,by rw [U.len];exact R.c6,by rw [U.nms];exact R.n0,by rw [U.nms];exact R.n12,by rw [U.fre];exact R.fr,by rw [U.fre,U.nms];exact R.frr,by rw [U.len];exact U.Yr,fun k m c hc=>?_,fun x hx=>?_,fun k hk=>?_⟩
 ·rw [hB];by_cases e:k=n
  ·subst e;exact⟨hn,he m c hc⟩
  ·rw [U.oc k e] at hc;obtain⟨q1,q2⟩:=R.cn k m c hc;exact⟨q1,q2.elim .inl fun z=>.inr (z.elim .inl fun y=>.inr (he2 m k e y))⟩
 ·rw [hB];by_cases e:x.name=n
  ·rw [e];exact hn
  ·rcases List.mem_append.1 hx with z | z
   ·exact absurd (Zgw x z) e
   ·have:x ∈ Q8 w' x.name:=List.mem_filter.2 ⟨z,by simp⟩;rw [U.on _ e] at this;exact R.nn x (List.mem_append_right _ (List.mem_filter.1 this).1)
 ·rw [hB] at hk;rw [U.len];by_cases e:k=n
  ·subst e;rw [Kt Zgw];exact hm
  ·obtain⟨h,H⟩:=R.nm k hk;refine⟨h,?_⟩;rw [U.oc k e,U.on k e,ZkU fun x hx z=>e (z.symm.trans (Zgw x hx))];rw [ZkU fun x hx z=>e (z.symm.trans (hfl x hx))] at H;exact H
theorem Mw.upd (Mx:Mw w fl) (U:Upd w w' n) (hfl:∀ x ∈ fl,x.name=n) (Zgw:∀ x ∈ fl',x.name=n)
 (hm:Mst w.cells.length (YO w' n) (fl' ++ Q8 w' n)):Mw w' fl':=by
 intro k hk;rw [ZbZ U.nms U.fre] at hk;rw [U.len];by_cases e:k=n
 ·subst e;rw [Kt Zgw];exact hm
 ·have:=Mx k hk;rw [U.oc k e,U.on k e,ZkU fun x hx z=>e (z.symm.trans (Zgw x hx))];rw [ZkU fun x hx z=>e (z.symm.trans (hfl x hx))] at this;exact this
theorem ZjW {m a:Nat} {r:Row} (hm:m < w.cells.length) (k:Int):cellOf (cw w m r) a k=if a=m then UL r k else cellOf w a k:=by
 rw [Y2,Y2];by_cases e:a=m
 ·subst e;rw [if_pos rfl,Qn hm]
 ·rw [if_neg e,Ux e]
theorem Qh {m:Nat} (hm:m < w.cells.length) (Yr:∀ m,m < w.cells.length ->Uk (rowOf w m)) {c:Zb} (hc:c.name=n):
 Upd w (cw w m (put c (rowOf w m))) n∧YO (cw w m (put c (rowOf w m))) n=Yv (YO w n) m (some c)∧Q8 (cw w m (put c (rowOf w m))) n=Q8 w n:=by
 have key:∀ k a,YO (cw w m (put c (rowOf w m))) k a=if a=m∧k=n then some c else YO w k a:=by
  intro k a;unfold YO;rw [Ya];by_cases hr:0 <=a∧a < (w.cells.length:Int)
  ·rw [if_pos hr,if_pos hr,ZjW hm];by_cases e:a=m
   ·have:a.toNat=m:=by omega
    rw [if_pos this,Zal _ (Yr m hm),hc,Y2,this];by_cases ek:k=n
    ·rw [if_pos ek,if_pos ⟨e,ek⟩]
    ·rw [if_neg ek,if_neg (fun z=>ek z.2)]
   ·have:¬ a.toNat=m:=by omega
    rw [if_neg this,if_neg (fun z=>e z.1)]
  ·rw [if_neg hr,if_neg hr,if_neg (by rintro⟨z,_⟩;subst z;omega)]
 refine⟨⟨Ya,rfl,rfl,fun a ha=>?_,fun k hk=>?_,fun k hk=>rfl⟩,?_,rfl⟩
 ·by_cases e:a=m
  ·subst e;rw [Qn hm];exact(Yr a hm).put
  ·rw [Ux e];exact Yr a ha
 ·funext a;rw [key,if_neg (fun z=>hk z.2)]
 ·funext a;rw [key];unfold Yv;by_cases e:a=m
  ·rw [if_pos ⟨e,rfl⟩,if_pos e]
  ·rw [if_neg (fun z=>e z.1),if_neg e]
theorem Zkk {m:Nat} (hm:m < w.cells.length) (Yr:∀ m,m < w.cells.length ->Uk (rowOf w m)):
 Upd w (cw w m (rmv n (rowOf w m))) n∧YO (cw w m (rmv n (rowOf w m))) n=Yv (YO w n) m none∧Q8 (cw w m (rmv n (rowOf w m))) n=Q8 w n:=by
 have key:∀ k a,YO (cw w m (rmv n (rowOf w m))) k a=if a=m∧k=n then none else YO w k a:=by
  intro k a;unfold YO;rw [Ya];by_cases hr:0 <=a∧a < (w.cells.length:Int)
  ·rw [if_pos hr,if_pos hr,ZjW hm];by_cases e:a=m
   ·have:a.toNat=m:=by omega
    rw [if_pos this,Zqj,Y2,this];by_cases ek:k=n
    ·rw [if_pos ek,if_pos ⟨e,ek⟩]
    ·rw [if_neg ek,if_neg (fun z=>ek z.2)]
   ·have:¬ a.toNat=m:=by omega
    rw [if_neg this,if_neg (fun z=>e z.1)]
  ·rw [if_neg hr,if_neg hr];split <;> rfl
 refine⟨⟨Ya,rfl,rfl,fun a ha=>?_,fun k hk=>?_,fun k hk=>rfl⟩,?_,rfl⟩
 ·by_cases e:a=m
  ·subst e;rw [Qn hm];exact(Yr a hm).rmv n
  ·rw [Ux e];exact Yr a ha
 ·funext a;rw [key,if_neg (fun z=>hk z.2)]
 ·funext a;rw [key];unfold Yv;by_cases e:a=m
  ·rw [if_pos ⟨e,rfl⟩,if_pos e]
  ·rw [if_neg (fun z=>e z.1),if_neg e]
theorem Zd2 (Yr:∀ m,m < w.cells.length ->Uk (rowOf w m)) {x:Zd} (hx:x.name=n):Upd w (sent w x) n∧YO (sent w x) n=YO w n∧Q8 (sent w x) n=Q8 w n ++ [x]:=by
 refine⟨⟨rfl,rfl,rfl,Yr,fun k hk=>rfl,fun k hk=>?_⟩,rfl,?_⟩
 ·unfold Q8 sent;rw [List.filter_append]
  have: [x].filter (fun x=>x.name==k)= []:=by
   rw [List.filter_eq_nil_iff];intro y hy;rw [List.mem_singleton.1 hy];simp;exact fun z=>hk (z.symm.trans hx)
  rw [this,List.append_nil]
 ·unfold Q8 sent;rw [List.filter_append]
  have: [x].filter (fun x=>x.name==n)= [x]:=by
   rw [List.filter_eq_self];intro y hy;rw [List.mem_singleton.1 hy];simp;exact hx
  rw [this]
theorem Ze7 {m:Nat} (hm:m < w.cells.length) (n:Int):look (rowOf w m) n=Zak n (YO w n) m:=by
 unfold Zak;rw [Jp hm];rfl
theorem Mst.put {M:Nat} {cv:CV} {ns ns':List Zd} (Mx:Mst M cv ns) {m:Int} {d:Zb} (h:∀ a:Int,0 <=a ->a < M ->(if a=m then d.out else X0 (cv a)) + YJ (YL a) ns' <=X0 (cv a) + YJ (YL a) ns):Mst M (Yv cv m (some d)) ns':=by
 intro a a0 a1;have h1:=h a a0 a1;have h2:=Mx a a0 a1;unfold J6 at h2 ⊢;have:X0 (Yv cv m (some d) a)=if a=m then d.out else X0 (cv a):=by unfold Yv;split <;> rfl
 omega
theorem ZcA {m:Int} (R:Rx w (fun a k=>a=m∧k=n) []) (Mx:Mw w []) {m':Nat} (hmm:(m':Int)=m) (hm:m' < w.cells.length) {c:Zb} (hc:YO w n m=some c):
 Rx (YW w m' n c) Kc []∧Mw (YW w m' n c) []:=by
 have hn:= (R.cn n m c hc).1;have hcn:=Qt (Qe hc).2;obtain⟨h,H⟩:=R.nm n hn;have H:Nm w.cells.length n (YO w n) (Q8 w n) h:=H;have hMx:=Mx n hn;have hMx:Mst w.cells.length (YO w n) (Q8 w n):=hMx;unfold YW;cases hu:(c.use || (c.out !=0))
 ·rw [cond_false];have hu1:c.use=false:=by cases q:c.use;rfl;rw [q] at hu;cases hu
  have hu2:c.out=0:=by rw [hu1,Bool.false_or] at hu;simpa using hu
  obtain⟨U,V1,V2⟩:=Zkk (n:=n) hm R.Yr
  have hout:∀ a,X0 (Yv (YO w n) m none a)=X0 (YO w n a):=by
   intro a;unfold Yv;split
   ·rename_i e;rw [e,hc];simp [X0,hu2]
   ·rfl
  rw [hmm] at V1
  have ZDE:∀ a d,YO (cw w m' (rmv n (rowOf w m'))) n a=some d ->d.use=true∨d.out ≠ 0∨Kc a n:=by
   intro a d hd;rw [V1] at hd;unfold Yv at hd;split at hd
   ·cases hd
   ·rename_i e;rcases(R.cn n a d hd).2 with z | z | z
    ·exact .inl z
    ·exact .inr (.inl z)
    ·exact absurd z.1 e
  cases hr:c.root
  ·simp only [cond_false];cases hf:decide (c.from_ >=0)
   ·rw [cond_false];show Rx (cw w m' (rmv n (rowOf w m'))) Kc []∧Mw (cw w m' (rmv n (rowOf w m'))) [];have hf':¬ 0 <=c.from_:=by simpa using hf
    refine⟨R.upd U hn (by simp) (by simp) ZDE (fun a k hk z=>absurd z.2 hk) ⟨h,?_⟩,Mx.upd U (by simp) (by simp) ?_⟩
    ·have:=H.gone hc hu2 hr (ys:= []) (by rw [if_neg hf']);rw [List.append_nil] at this;rw [V1];exact this
    ·intro a a0 a1;have:=hMx a a0 a1;rw [V1];show X0 (Yv (YO w n) m none a) + YJ (YL a) (Q8 w n) <=1000000;rw [hout];exact this
   ·rw [cond_true];show Rx (sent (cw w m' (rmv n (rowOf w m'))) ⟨2,c.from_,n,0,c.has⟩) Kc []∧Mw (sent (cw w m' (rmv n (rowOf w m'))) ⟨2,c.from_,n,0,c.has⟩) []
    have hf':0 <=c.from_:=by simpa using hf
    obtain⟨U2,W1,W2⟩:=Zd2 (w:=cw w m' (rmv n (rowOf w m'))) (n:=n) (x:= ⟨2,c.from_,n,0,c.has⟩) (fun a ha=>U.Yr a (by rw [← U.len];exact ha)) rfl;rw [V1] at W1;refine⟨R.upd (U.trans U2) hn (by simp) (by simp) (fun a d hd=>ZDE a d (by rw [V1,← W1];exact hd)) (fun a k hk z=>absurd z.2 hk) ⟨h,?_⟩,Mx.upd (U.trans U2) (by simp) (by simp) ?_⟩
    ·have:=H.gone hc hu2 hr (ys:= [⟨2,c.from_,n,0,c.has⟩]) (by rw [if_pos hf']);rw [W1,W2];exact this
    ·intro a a0 a1;have:=hMx a a0 a1;rw [W1,W2];show X0 (Yv (YO w n) m none a) + YJ (YL a) (Q8 w n ++ [⟨2,c.from_,n,0,c.has⟩]) <=1000000
     rw [hout,Xq,Ql,ZcE rfl];unfold J6 at this;omega
  ·simp only [cond_true];obtain⟨e1,e2⟩:=H.last hc hu2 hr;have hnr:0 <=n∧n < w.names:=by have:=hn;unfold Yj at this;simp at this;exact this.1
   have hnf:n ∉ w.freed:=by
    have:=hn;unfold Yj at this;simp at this;exact fun z=>this.2 n z rfl
   have hmem:∀ x,x ∈ Jr n w.freed↔x=n∨x ∈ w.freed:=by
    intro x
    constructor
    ·exact Zed
    ·intro hx
     have key:∀ l:List Int,x=n∨x ∈ l ->x ∈ Jr n l:=by
      intro l
      induction l with
      | nil=>intro z;rcases z with z | z;subst z;simp [Jr];simp at z
      | cons y l ih=>
        intro z;unfold Jr;split
        ·simp only [List.mem_cons] at z ⊢;omega
        ·simp only [List.mem_cons] at z ⊢;rcases z with z | z | z
         ·exact .inr (ih (.inl z))
         ·exact .inl z
         ·exact .inr (ih (.inr z))
     exact key _ hx
   have hB:∀ k,Yj ⟨w.cells.set m' (rmv n (rowOf w m')),w.notes,w.names,Jr n w.freed⟩ k= (Yj w k && !(k==n)):=by
    intro k;unfold Yj;dsimp only
    have:((Jr n w.freed).any fun y=>y==k)= ((w.freed.any fun y=>y==k) || (k==n)):=by
     rw [Bool.eq_iff_iff,Bool.or_eq_true,List.any_eq_true,List.any_eq_true];simp only [beq_iff_eq,hmem]
     constructor
     ·rintro⟨x,z | z,rfl⟩
      ·exact .inr z
      ·exact .inl ⟨x,z,rfl⟩
     ·rintro(⟨x,z,rfl⟩ | z)
      ·exact⟨x,.inr z,rfl⟩
      ·exact⟨n,.inl rfl,z.symm⟩
    rw [this];cases decide (0 <=k) <;> cases decide (k < w.names) <;> cases (w.freed.any fun y=>y==k) <;> cases (k==n) <;> rfl
   have key:∀ k,YO ⟨w.cells.set m' (rmv n (rowOf w m')),w.notes,w.names,Jr n w.freed⟩ k=if k=n then(fun _=>none) else YO w k:=by
    intro k;by_cases e:k=n
    ·subst e;rw [if_pos rfl];show YO (cw w m' (rmv k (rowOf w m'))) k=_;rw [V1];funext a;unfold Yv;split
     ·rfl
     ·rename_i z;exact e1 a z
    ·rw [if_neg e];exact U.oc k e
   refine⟨⟨by show 1 <= (w.cells.set _ _).length;rw [List.length_set];exact R.c1,by show(w.cells.set _ _).length <=6;rw [List.length_set];exact R.c6,R.n0,R.n12,?_,?_,?_,?_,?_,?_⟩,?_⟩
   ·have q1:∀ l:List Int,l.Pairwise (· < ·) ->n ∉ l ->(Jr n l).Pairwise (· < ·):=by
     intro l
     induction l with
     | nil=>intro _ _;simp [Jr]
     | cons y l ih=>
       intro p q;rw [List.pairwise_cons] at p;unfold Jr;split
       ·rename_i hyx;rw [List.pairwise_cons,List.pairwise_cons];refine⟨fun z hz=>?_,p⟩;rcases List.mem_cons.1 hz with rfl | hz
        ·exact hyx
        ·have:=p.1 z hz;omega
       ·rename_i hyx;have hne:n ≠ y:=fun z=>q (by rw [z];simp)
        rw [List.pairwise_cons];refine⟨fun z hz=>?_,ih p.2 fun z=>q (by simp [z])⟩;rcases Zed hz with rfl | hz
        ·omega
        ·exact p.1 z hz
    exact q1 _ R.fr hnf
   ·intro x hx;rcases(hmem x).1 hx with z | z
    ·subst z;exact hnr
    ·exact R.frr x z
   ·intro a ha;have ha:a < w.cells.length:=by simpa using ha
    exact U.Yr a ha
   ·intro k a d hd;rw [key] at hd;split at hd
    ·cases hd
    ·rename_i hk;obtain⟨q1,q2⟩:=R.cn k a d hd;refine⟨by rw [hB,q1];simp [hk],?_⟩;rcases q2 with z | z | z
     ·exact .inl z
     ·exact .inr (.inl z)
     ·exact absurd z.2 hk
   ·intro x hx;have hx:x ∈ w.notes:=hx
    have hne:x.name ≠ n:=by
     intro z;have:x ∈ Q8 w n:=List.mem_filter.2 ⟨hx,by simp [z]⟩;rw [e2] at this;simp at this
    rw [hB,R.nn x (by simpa using hx)];simp [hne]
   ·intro k hk;rw [hB] at hk;simp at hk;obtain⟨h',H'⟩:=R.nm k hk.1;refine⟨h',?_⟩;rw [key,if_neg hk.2];show Nm (w.cells.set _ _).length k (YO w k) (Q8 w k) h';rw [List.length_set];exact H'
   ·intro k hk;rw [hB] at hk;simp at hk;have:=Mx k hk.1;rw [key,if_neg hk.2];show Mst (w.cells.set _ _).length (YO w k) (Q8 w k);rw [List.length_set];exact this
 ·rw [cond_true];refine⟨{R with cn:=fun k a d hd=>?_},Mx⟩;obtain⟨q1,q2⟩:=R.cn k a d hd;refine⟨q1,?_⟩;rcases q2 with z | z | ⟨z1,z2⟩
  ·exact .inl z
  ·exact .inr (.inl z)
  ·subst z1 z2;rw [hc] at hd;cases hd;rw [Bool.or_eq_true] at hu;rcases hu with z | z
   ·exact .inl z
   ·exact .inr (.inl (by simpa using z))
end
end Go.Proofs.Ytekpjgmhkkjhgaa
end
section
namespace Go.Proofs.Ytekpjgmhkkjhgaa
open Go.Lf
section
variable {w w':Za} {n:Int}
theorem Nm.most {M:Nat} {cv:CV} {ns:List Zd} {h:Int} (H:Nm M n cv ns h) (Mx:Mst M cv ns):
 (∀ m c,cv m=some c ->-16 <=c.out∧c.out <=1000000∧0 <=c.has∧c.has <=1000000)∧∀ x ∈ ns,1 <=x.w∧x.w <=1000000:=by
 refine⟨fun m c hc=>?_,fun x hx=>?_⟩
 ·have hr:=H.rng m c hc;have h1:=Mx m hr.1 hr.2;have h2:=H.Zhw hc;rw [H.giv,hc] at h1;simp only [X0] at h1;refine⟨h2.1,by split at h1 <;> omega,?_⟩;rcases H.cel m c hc with z | z
  ·have:=H.ZcI hc z.2.1;have:=H.acc c.from_ z.2.1 z.2.2.1;have:=Mx c.from_ z.2.1 z.2.2.1;omega
  ·omega
 ·have hx':=H.KC x hx;refine⟨hx'.2.2.1,?_⟩;rcases hx'.2.2.2 with z | z | z
  ·have h1:=H.UA z.2.1 hx;rw [Wx z.1,if_pos rfl] at h1;have:=H.acc _ z.2.1 z.2.2;have:=Mx _ z.2.1 z.2.2;omega
  ·have h1:=H.UA hx'.1.1 hx;rw [Zbg z.1,if_pos rfl] at h1;have:=H.acc _ hx'.1.1 hx'.1.2;have:=Mx _ hx'.1.1 hx'.1.2;omega
  ·omega
theorem Zf8 {M:Nat} {cv:CV} {ns:List Zd} {h:Int} (H:Nm M n cv ns h) (Mx:Mst M cv ns) (m:Int):-16 <= (Zak n cv m).out∧(Zak n cv m).out <=1000000∧0 <= (Zak n cv m).has∧(Zak n cv m).has <=1000000:=by
 unfold Zak;cases e:cv m with
 | none=>simp [Zvj]
 | some c=>exact(H.most Mx).1 m c e
theorem Zdr {fl fl':List Zd} {ex ex':Int ->Int ->Prop} (R:Rx w ex fl) (Mx:Mw w fl) (hn:Yj w n=true) (hfl:∀ x ∈ fl,x.name=n) (Zgw:∀ x ∈ fl',x.name=n) {m:Int} {m':Nat} (hmm:(m':Int)=m) (hm:m' < w.cells.length) {d:Zb} (hd:d.name=n)
 (he:d.use=true∨d.out ≠ 0∨ex' m n) (he2:∀ a k,(k ≠ n∨a ≠ m) ->ex a k ->ex' a k)
 (hN:∃ h,Nm w.cells.length n (Yv (YO w n) m (some d)) (fl' ++ Q8 w n) h)
 (hM:∀ a:Int,0 <=a ->a < w.cells.length ->(if a=m then d.out else X0 (YO w n a)) + YJ (YL a) (fl' ++ Q8 w n) <=X0 (YO w n a) + YJ (YL a) (fl ++ Q8 w n)):
 Rx (cw w m' (put d (rowOf w m'))) ex' fl'∧Mw (cw w m' (put d (rowOf w m'))) fl'∧YO (cw w m' (put d (rowOf w m'))) n m=some d:=by
 obtain⟨U,V1,V2⟩:=Qh hm R.Yr hd;rw [hmm] at V1;refine⟨R.upd U hn hfl Zgw (fun a c hc=>?_) (fun a k hk=>he2 a k (.inl hk)) ?_,Mx.upd U hfl Zgw ?_,by rw [V1,Wl]⟩
 ·rw [V1] at hc;unfold Yv at hc;split at hc
  ·rename_i e;cases hc;rw [e];exact he
  ·rename_i e;rcases(R.cn n a c hc).2 with z | z | z
   ·exact .inl z
   ·exact .inr (.inl z)
   ·exact .inr (.inr (he2 a n (.inr e) z))
 ·rw [V1,V2];exact hN
 ·rw [V1,V2];have:=Mx n hn;rw [Kt hfl] at this;exact this.put hM
theorem Zwe {fl fl':List Zd} {ex:Int ->Int ->Prop} (R:Rx w ex fl) (Mx:Mw w fl) (hn:Yj w n=true) (hfl:∀ x ∈ fl,x.name=n) (Zgw:∀ x ∈ fl',x.name=n) {y:Zd} (hy:y.name=n)
 (hN:∃ h,Nm w.cells.length n (YO w n) (fl' ++ (Q8 w n ++ [y])) h)
 (hM:∀ a:Int,0 <=a ->a < w.cells.length ->YJ (YL a) (fl' ++ (Q8 w n ++ [y])) <=YJ (YL a) (fl ++ Q8 w n)):
 Rx (sent w y) ex fl'∧Mw (sent w y) fl':=by
 obtain⟨U,V1,V2⟩:=Zd2 R.Yr hy;refine⟨R.upd U hn hfl Zgw (fun a c hc=>?_) (fun a k hk z=>z) ?_,Mx.upd U hfl Zgw ?_⟩
 ·rw [V1] at hc;exact(R.cn n a c hc).2
 ·rw [V1,V2];exact hN
 ·rw [V1,V2];have:=Mx n hn;rw [Kt hfl] at this;intro a a0 a1;have h1:=this a a0 a1;have h2:=hM a a0 a1;unfold J6 at h1 ⊢;omega
theorem WJ (m:Nat) (n:Int) (c:Zb):(YW w m n c).notes.length <=w.notes.length + 1∧(YW w m n c).cells.length=w.cells.length∧(YW w m n c).names=w.names∧(c.root=true ->(YW w m n c).notes.length=w.notes.length):=by
 unfold YW;cases (c.use || (c.out !=0))
 ·simp only [cond_false,List.length_set,true_and];cases c.root
  ·cases decide (c.from_ >=0) <;> simp
  ·simp
 ·simp
theorem Ug {m:Nat} (hm:m < w.cells.length) (Yr:Uk (rowOf w m)) {d:Zb} (hd:d.name=n):look (rowOf (cw w m (put d (rowOf w m))) m) n=d:=Qr (Zff hm Yr hd)
theorem Znz {x:Zd} (R:Rx w Kc [x]) (Mx:Mw w [x]):
 Rx (XC w x) Kc []∧Mw (XC w x) []∧(XC w x).notes.length <=w.notes.length + 1∧(XC w x).cells.length=w.cells.length∧(XC w x).names=w.names:=by
 have hn:=R.nn x (by simp);obtain⟨n,hxn⟩:∃ n,x.name=n:= ⟨_,rfl⟩
 rw [hxn] at hn;have hfl:∀ y ∈ [x],y.name=n:=by simp [hxn]
 have hno:∀ y ∈ ([]:List Zd),y.name=n:=by simp
 obtain⟨h,H⟩:=R.nm n hn;rw [Kt hfl] at H;have hMx:=Mx n hn;rw [Kt hfl] at hMx;have H:Nm w.cells.length n (YO w n) (x::Q8 w n) h:=H;have hx:=H.KC x (by simp);have hxw:= (H.most hMx).2 x (by simp);obtain⟨m',hm'⟩:∃ m',x.Zw.toNat=m':= ⟨_,rfl⟩
 have hmm:(m':Int)=x.Zw:=by omega
 have hm:m' < w.cells.length:=by omega
 have L:=H.look x.Zw;have S:=Zf8 H hMx x.Zw;have KR:look (rowOf w m') n=Zak n (YO w n) x.Zw:=by rw [Ze7 hm,hmm]
 unfold XC;rw [hm',hxn];dsimp only;obtain⟨c,hc⟩:∃ c,Zak n (YO w n) x.Zw=c:= ⟨_,rfl⟩
 rw [hc] at L S KR;rw [KR];have hsrt:=R.Yr m' hm;cases k1:(x.kind==1)
 ·rw [cond_false];cases k2:(x.kind==2)
  ·-- the root
   rw [cond_false]
   have k3:x.kind=3:=by
    rcases hx.2.2.2 with z | z | z
    ·rw [z.1] at k1;cases k1
    ·rw [z.1] at k2;cases k2
    ·exact z.1
   have hh:x.Zw=h:=by rcases hx.2.2.2 with z | z | z <;> omega
   rw [YM (n:=c.out + 16) (by omega) (by omega)]
   have hG:∀ a:Int,(if a=x.Zw then(c.out + 16) else X0 (YO w n a)) + YJ (YL a) (Q8 w n) <=X0 (YO w n a) + YJ (YL a) (x::Q8 w n):=by
    intro a;simp only [YJ,ZgI k3];by_cases z:a=x.Zw
    ·rw [if_pos z,if_pos z.symm,z,L.out];omega
    ·rw [if_neg z,if_neg (by omega)];omega
   cases hf:decide (c.from_ >=0)
   ·simp only [cond_false];have hf':¬ 0 <=c.from_:=by simpa using hf
    rw [Ug hm hsrt (by exact L.nam)];have:=H.home k3 L c.use (ys:= []) (by rw [if_neg hf']);rw [List.append_nil] at this;obtain⟨P1,P2,P3⟩:=Zdr (ex':=fun a k=>a=x.Zw∧k=n) R Mx hn hfl hno hmm hm (d:= ⟨c.name,true,-1,0,c.out + 16,c.use⟩) L.nam (.inr (.inr ⟨rfl,rfl⟩)) (fun a k _ z=>z.elim) ⟨h,this⟩ (fun a _ _=>hG a);obtain⟨Q1,Q2⟩:=ZcA P1 P2 hmm (by rw [Ya];exact hm) P3;have Q3:=WJ (w:=cw w m' (put ⟨c.name,true,-1,0,c.out + 16,c.use⟩ (rowOf w m'))) m' n ⟨c.name,true,-1,0,c.out + 16,c.use⟩;exact⟨Q1,Q2,Q3.1,Q3.2.1.trans Ya,Q3.2.2.1⟩
   ·simp only [cond_true];have hf':0 <=c.from_:=by simpa using hf
    have hce:c.root=false∧0 <=c.from_∧c.from_ < w.cells.length∧c.from_ ≠ x.Zw∧1 <=c.has:=by rcases L.cel with z | z;exact z;omega
    have hb:Xe (cw w m' (put ⟨c.name,true,-1,0,c.out + 16,c.use⟩ (rowOf w m'))) m' n c.from_ c.has=sent (cw w m' (put ⟨c.name,true,-1,0,c.out + 16,c.use⟩ (rowOf w m'))) ⟨2,c.from_,n,0,c.has⟩:=by
     unfold Xe;have:(c.from_ != (m':Int))=true:=by simp;omega
     rw [this,cond_true]
    rw [hb];have hrow:rowOf (sent (cw w m' (put ⟨c.name,true,-1,0,c.out + 16,c.use⟩ (rowOf w m'))) ⟨2,c.from_,n,0,c.has⟩) m'=rowOf (cw w m' (put ⟨c.name,true,-1,0,c.out + 16,c.use⟩ (rowOf w m'))) m':=rfl;rw [hrow,Ug hm hsrt (by exact L.nam)];have hH:=H.home k3 L c.use (ys:= [⟨2,c.from_,n,0,c.has⟩]) (by rw [if_pos hf']);obtain⟨U,V1,V2⟩:=Qh (n:=n) hm R.Yr (c:= ⟨c.name,true,-1,0,c.out + 16,c.use⟩) L.nam;obtain⟨U2,W1,W2⟩:=Zd2 (w:=cw w m' (put ⟨c.name,true,-1,0,c.out + 16,c.use⟩ (rowOf w m'))) (n:=n) (x:= ⟨2,c.from_,n,0,c.has⟩) (fun a ha=>U.Yr a (by rw [← U.len];exact ha)) rfl;rw [hmm] at V1
    have P1:Rx (sent (cw w m' (put ⟨c.name,true,-1,0,c.out + 16,c.use⟩ (rowOf w m'))) ⟨2,c.from_,n,0,c.has⟩) (fun a k=>a=x.Zw∧k=n) []:=by
     refine R.upd (U.trans U2) hn hfl hno (fun a d hd=>?_) (fun _ _ _ z=>z.elim) ⟨h,?_⟩
     ·rw [W1,V1] at hd;unfold Yv at hd;split at hd
      ·rename_i e;exact .inr (.inr ⟨e,rfl⟩)
      ·rcases(R.cn n a d hd).2 with z | z | z
       ·exact .inl z
       ·exact .inr (.inl z)
       ·exact z.elim
     ·rw [W1,V1,W2,V2];exact hH
    have P2:Mw (sent (cw w m' (put ⟨c.name,true,-1,0,c.out + 16,c.use⟩ (rowOf w m'))) ⟨2,c.from_,n,0,c.has⟩) []:=by
     refine Mx.upd (U.trans U2) hfl hno ?_;rw [W1,V1,W2,V2];refine hMx.put fun a _ _=>?_
     have:=hG a;rw [List.nil_append,Xq,Ql,ZcE rfl];show(if a=x.Zw then(c.out + 16) else X0 (YO w n a)) + _ <=_ + YJ (YL a) (x::Q8 w n);omega
    have P3:YO (sent (cw w m' (put ⟨c.name,true,-1,0,c.out + 16,c.use⟩ (rowOf w m'))) ⟨2,c.from_,n,0,c.has⟩) n x.Zw=some ⟨c.name,true,-1,0,c.out + 16,c.use⟩:=by
     rw [W1,V1,Wl]
    obtain⟨Q1,Q2⟩:=ZcA P1 P2 hmm (by show m' < (cw _ _ _).cells.length;rw [Ya];exact hm) P3;have Q3:=WJ (w:=sent (cw w m' (put ⟨c.name,true,-1,0,c.out + 16,c.use⟩ (rowOf w m'))) ⟨2,c.from_,n,0,c.has⟩) m' n ⟨c.name,true,-1,0,c.out + 16,c.use⟩;refine⟨Q1,Q2,?_,Q3.2.1.trans Ya,Q3.2.2.1⟩;rw [Q3.2.2.2 rfl];show(w.notes ++ [_]).length <=_;simp
  ·-- weight
   rw [cond_true];have k2':x.kind=2:=by simpa using k2
   rw [YM (n:=c.out - x.w) (by omega) (by omega)];have:=H.ZjG (.inr k2') L c.use
   obtain⟨P1,P2,P3⟩:=Zdr (ex':=fun a k=>a=x.Zw∧k=n) R Mx hn hfl hno hmm hm (d:= ⟨c.name,c.root,c.from_,c.has,c.out - x.w,c.use⟩) L.nam (.inr (.inr ⟨rfl,rfl⟩)) (fun a k _ z=>z.elim) ⟨h,this⟩ (fun a _ _=>by
    simp only [List.nil_append,List.cons_append,YJ,ZcE k2'];by_cases z:a=x.Zw
    ·rw [if_pos z,z,L.out];omega
    ·rw [if_neg z];omega)
   obtain⟨Q1,Q2⟩:=ZcA P1 P2 hmm (by rw [Ya];exact hm) P3;have Q3:=WJ (w:=cw w m' (put ⟨c.name,c.root,c.from_,c.has,c.out - x.w,c.use⟩ (rowOf w m'))) m' n ⟨c.name,c.root,c.from_,c.has,c.out - x.w,c.use⟩;exact⟨Q1,Q2,Q3.1,Q3.2.1.trans Ya,Q3.2.2.1⟩
 ·rw [cond_true];have k1':x.kind=1:=by simpa using k1
  have hvr:0 <=x.via∧x.via < w.cells.length:=by rcases hx.2.2.2 with z | z | z <;> omega
  cases g1:((!c.root && (c.from_==-1)) && (x.via !=x.Zw))
  ·rw [cond_false];cases g2:((!c.root && decide (c.from_ >=0)) && (c.from_==x.via))
   ·rw [cond_false];by_cases hv:x.via=x.Zw
    ·have hb:Xe (cw w m' (put ⟨c.name,c.root,c.from_,c.has,c.out,true⟩ (rowOf w m'))) m' n x.via x.w=cw w m' (put ⟨c.name,c.root,c.from_,c.has,c.out - x.w,true⟩ (rowOf w m')):=by
      unfold Xe;have:(x.via != (m':Int))=false:=by simp;omega
      rw [this,cond_false,Ug hm hsrt (by exact L.nam),Zze,Qn hm,ZpL hsrt (by rfl),YM (n:=c.out - x.w) (by omega) (by omega)]
     rw [hb];have:=H.ZjG (.inl ⟨k1',hv⟩) L true
     obtain⟨P1,P2,P3⟩:=Zdr (ex':=Kc) R Mx hn hfl hno hmm hm (d:= ⟨c.name,c.root,c.from_,c.has,c.out - x.w,true⟩) L.nam (.inl rfl) (fun a k _ z=>z.elim) ⟨h,this⟩ (fun a _ _=>by
      simp only [List.nil_append,List.cons_append,YJ,Wy k1'];by_cases z:a=x.Zw
      ·rw [if_pos z,z,L.out];omega
      ·rw [if_neg z];omega)
     exact⟨P1,P2,by show w.notes.length <=_;omega,Ya,rfl⟩
    ·have hce:YO w n x.Zw=some c:=by
      rcases L.or with z | ⟨z1,z2,z3,z4⟩
      ·exact z
      ·rw [z2,z3] at g1;simp at g1;exact absurd g1 hv
     have hb:Xe (cw w m' (put ⟨c.name,c.root,c.from_,c.has,c.out,true⟩ (rowOf w m'))) m' n x.via x.w=sent (cw w m' (put ⟨c.name,c.root,c.from_,c.has,c.out,true⟩ (rowOf w m'))) ⟨2,x.via,n,0,x.w⟩:=by
      unfold Xe;have:(x.via != (m':Int))=true:=by simp;omega
      rw [this,cond_true]
     rw [hb];have hH:=H.use hce true
     obtain⟨P1,P2,P3⟩:=Zdr (ex':=Kc) R Mx hn hfl hfl hmm hm (d:= ⟨c.name,c.root,c.from_,c.has,c.out,true⟩) L.nam (.inl rfl) (fun a k _ z=>z.elim) ⟨h,hH⟩ (fun a _ _=>by
      by_cases z:a=x.Zw
      ·rw [if_pos z,z,L.out];exact Int.le_refl _
      ·rw [if_neg z];exact Int.le_refl _)
     obtain⟨U,V1,V2⟩:=Qh (n:=n) hm R.Yr (c:= ⟨c.name,c.root,c.from_,c.has,c.out,true⟩) L.nam;rw [hmm] at V1
     obtain⟨Q1,Q2⟩:=Zwe (n:=n) (y:= ⟨2,x.via,n,0,x.w⟩) P1 P2 (by rw [ZbZ U.nms U.fre];exact hn) hfl hno rfl (by
      rw [Ya,V1,V2];exact⟨h,hH.ZrD k1' rfl⟩) (fun a _ _=>by
      rw [V2,List.nil_append,Xq,Ql,ZcE rfl];simp only [List.cons_append,List.nil_append,YJ,Wy k1'];omega)
     refine⟨Q1,Q2,?_,Ya,rfl⟩;show(w.notes ++ [_]).length <=_;simp
   ·rw [cond_true];simp at g2;rw [YM (n:=c.has + x.w) (by omega) (by omega)];have:=H.ZrC k1' L g2.1.2 g2.2 true
    obtain⟨P1,P2,P3⟩:=Zdr (ex':=Kc) R Mx hn hfl hno hmm hm (d:= ⟨c.name,c.root,c.from_,c.has + x.w,c.out,true⟩) L.nam (.inl rfl) (fun a k _ z=>z.elim) ⟨h,this⟩ (fun a _ _=>by
     simp only [List.nil_append,List.cons_append,YJ,Wy k1'];by_cases z:a=x.Zw
     ·rw [if_pos z,z,L.out];omega
     ·rw [if_neg z];omega)
    exact⟨P1,P2,by show w.notes.length <=_;omega,Ya,rfl⟩
  ·rw [cond_true];simp at g1;have:=H.Zut k1' L g1.1.1 g1.1.2 g1.2 true
   obtain⟨P1,P2,P3⟩:=Zdr (ex':=Kc) R Mx hn hfl hno hmm hm (d:= ⟨c.name,c.root,x.via,x.w,c.out,true⟩) L.nam (.inl rfl) (fun a k _ z=>z.elim) ⟨h,this⟩ (fun a _ _=>by
    simp only [List.nil_append,List.cons_append,YJ,Wy k1'];by_cases z:a=x.Zw
    ·rw [if_pos z,z,L.out];omega
    ·rw [if_neg z];omega)
   exact⟨P1,P2,by show w.notes.length <=_;omega,Ya,rfl⟩
def QZ (w:Za) (k:Nat):Za:= ⟨w.cells,w.notes.take k ++ w.notes.drop (k + 1),w.names,w.freed⟩
theorem Zkp (R:Rt w) {k:Nat} {x:Zd} (hk:w.notes[k]? =some x):Rx (QZ w k) Kc [x]∧Mw (QZ w k) [x]:=by
 obtain⟨hkl,hkx⟩:=List.getElem?_eq_some_iff.1 hk
 have K9:w.notes=w.notes.take k ++ x::w.notes.drop (k + 1):=by
  rw [← hkx,← List.drop_eq_getElem_cons hkl,List.take_append_drop]
 obtain⟨R0,M0⟩:=R.rx
 have hp:∀ n,(Q8 w n).Perm (flN n [x] ++ Q8 (QZ w k) n):=by
  intro n;unfold Q8 QZ flN
  conv=>lhs;rw [K9]
  rw [List.filter_append,List.filter_append,List.filter_cons,List.filter_cons];split
  ·exact List.perm_middle
  ·exact List.Perm.refl _
 have hmem:∀ y ∈ [x] ++ (QZ w k).notes,y ∈ w.notes:=by
  intro y hy;rw [K9];simp only [QZ,List.mem_append,List.mem_cons,List.mem_singleton,List.not_mem_nil,or_false] at hy ⊢;rcases hy with z | z | z
  ·exact .inr (.inl z)
  ·exact .inl z
  ·exact .inr (.inr z)
 refine⟨{R0 with nn:=fun y hy=>R0.nn y (by simpa using hmem y hy),nm:=fun n hn=>?_},fun n hn=>?_⟩
 ·obtain⟨h,H⟩:=R0.nm n hn;exact⟨h,H.perm (hp n)⟩
 ·have:=M0 n hn;intro a a0 a1;have:=this a a0 a1;unfold J6 at this ⊢;rw [← ZeN (hp n)];exact this
theorem ZnA (R:Rt w) {k:Nat} {x:Zd} (hk:w.notes[k]? =some x):Rt (XC (QZ w k) x)∧(XC (QZ w k) x).cells.length=w.cells.length∧(XC (QZ w k) x).names=w.names:=by
 obtain⟨R0,M0⟩:=Zkp R hk;obtain⟨q1,q2,q3,q4,q5⟩:=Znz R0 M0;obtain⟨hkl,_⟩:=List.getElem?_eq_some_iff.1 hk;refine⟨q1.rt q2 ?_,q4,q5⟩
 have:(QZ w k).notes.length=w.notes.length - 1:=by
  unfold QZ;simp;omega
 have:=R.KC;omega
end
end Go.Proofs.Ytekpjgmhkkjhgaa
end
section
namespace Go.Proofs.Ytekpjgmhkkjhgaa
open Go.Lf
theorem ZjM (K:Nat):∀ {r:Row},Uk r ->r.filter (fun c=>decide (c.name < ((K + 1:Nat):Int)))=r.filter (fun c=>decide (c.name < (K:Int))) ++ (UL r K).toList
 | [],_=>rfl
 | d::r,s=>by
   have hh:=s.head;rw [YK];by_cases h1:d.name < (K:Int)
   ·rw [List.filter_cons_of_pos (by simp;omega),List.filter_cons_of_pos (by simpa using h1),if_neg (by omega),ZjM K s.tail];rfl
   ·have h3:r.filter (fun c=>decide (c.name < (K:Int)))= []:=by
     rw [List.filter_eq_nil_iff];intro c hc;have:=hh c hc;simp;omega
    have h4:r.filter (fun c=>decide (c.name < ((K + 1:Nat):Int)))= []:=by
     rw [List.filter_eq_nil_iff];intro c hc;have:=hh c hc;simp;omega
    rw [List.filter_cons_of_neg (p:=fun c:Zb=>decide (c.name < (K:Int))) (by simpa using h1),h3];by_cases h2:d.name= (K:Int)
    ·rw [List.filter_cons_of_pos (by simp;omega),h4,if_pos h2];rfl
    ·rw [List.filter_cons_of_neg (by simp;omega),h4,if_neg h2,Zca (by intro c hc;have:=hh c hc;omega)];rfl
def Zjf (a:Int) (c:Zb) (s:List (List Zb)):List (List Zb):=s.set a.toNat ((s[a.toNat]?.getD []) ++ [c])
section
variable {w:Za} {st:Store}
theorem Zpt {m:Nat} (Yr:Uk (rowOf w m)) (hn:∀ c ∈ rowOf w m,0 <=c.name) {s:List (List Zb)} (hs:s[m]? =some []) (K:Nat):
 (List.range K).foldl (fun s n=>Jm w Zjf m n s) s=s.set m ((rowOf w m).filter fun c=>decide (c.name < (K:Int))):=by
 have hm:m < s.length:= (List.getElem?_eq_some_iff.1 hs).1
 induction K with
 | zero=>
   have:(rowOf w m).filter (fun c=>decide (c.name < ((0:Nat):Int)))= []:=by
    rw [List.filter_eq_nil_iff];intro c hc;have:=hn c hc;simp;omega
   rw [this,set_self hs];rfl
 | succ K ih=>
   rw [List.range_succ,List.foldl_append,ih];simp only [List.foldl_cons,List.foldl_nil];rw [ZjM K Yr];unfold Jm;rw [Y2];cases hf:UL (rowOf w m) (K:Int) with
   | none=>simp
   | some c=>
     dsimp only;unfold Zjf;rw [Int.toNat_natCast,List.getElem?_set_self hm,List.set_set]
     rfl
theorem Zps {N:Nat} (Yr:∀ m,m < w.cells.length ->Uk (rowOf w m)) (hn:∀ m,m < w.cells.length ->∀ c ∈ rowOf w m,0 <=c.name∧c.name < (N:Int)):
 (List.range w.cells.length).foldl (fun s m=>(List.range N).foldl (fun s n=>Jm w Zjf m n s) s) (List.replicate w.cells.length [])=w.cells:=by
 have key:∀ M,M <=w.cells.length ->((List.range M).foldl (fun s m=>(List.range N).foldl (fun s n=>Jm w Zjf m n s) s) (List.replicate w.cells.length [])).length=w.cells.length∧
  ∀ i,i < w.cells.length ->((List.range M).foldl (fun s m=>(List.range N).foldl (fun s n=>Jm w Zjf m n s) s) (List.replicate w.cells.length []))[i]? =some (if i < M then rowOf w i else []):=by
  intro M
  induction M with
  | zero=>intro _;simp;intro i hi;simp [hi]
  | succ M ih=>
    intro hM;obtain⟨i1,i2⟩:=ih (by omega);rw [List.range_succ,List.foldl_append];simp only [List.foldl_cons,List.foldl_nil];rw [Zpt (Yr M (by omega)) (fun c hc=>(hn M (by omega) c hc).1) (by rw [i2 M (by omega),if_neg (by omega)])]
    have hfull:(rowOf w M).filter (fun c=>decide (c.name < (N:Int)))=rowOf w M:=by
     rw [List.filter_eq_self];intro c hc;simpa using (hn M (by omega) c hc).2
    rw [hfull];refine⟨by rw [List.length_set,i1],fun i hi=>?_⟩;by_cases e:i=M
    ·subst e;rw [List.getElem?_set_self (by rw [i1];exact hi),if_pos (by omega)]
    ·rw [List.getElem?_set_ne (fun z=>e z.symm),i2 i hi];congr 1;by_cases z:i < M
     ·rw [if_pos z,if_pos (by omega)]
     ·rw [if_neg z,if_neg (by omega)]
 obtain⟨k1,k2⟩:=key w.cells.length (Nat.le_refl _);apply List.ext_getElem?;intro i;by_cases hi:i < w.cells.length
 ·rw [k2 i hi,if_pos hi,QY hi]
 ·rw [List.getElem?_eq_none (by omega),List.getElem?_eq_none (by omega)]
theorem Szd.Zba (n12:w.names <=12) {m:Nat} (Yr:Uk (rowOf w m)) (hn:∀ c ∈ rowOf w m,0 <=c.name∧c.name < w.names):(rowOf w m).length <=12:=by
 have h0:((rowOf w m).map fun c=>c.name).Pairwise (· < ·):=by rw [List.pairwise_map];exact Yr
 by_cases e:0 <=w.names
 ·have:=ZaZ (b:=w.names) (a:=0) h0 (by
   intro x hx;obtain⟨c,hc,rfl⟩:=List.mem_map.1 hx;exact hn c hc) e
  rw [List.length_map] at this;omega
 ·cases h:rowOf w m with
  | nil=>simp
  | cons c r=>have:=hn c (by rw [h];simp);omega
theorem Zwd {F:Nat} (hF:1000 <=F) (sm:Small w) (sz:Szd w) (so:Qg w st) (Yr:∀ m,m < w.cells.length ->Uk (rowOf w m)) (hn:∀ m,m < w.cells.length ->∀ c ∈ rowOf w m,0 <=c.name∧c.name < w.names):Zk8 F st=some w:=by
 have hc:=sz.c6;have hno:=sm.notes;have hfr:=sm.freed;have h0:=sz.n0;have h12:=sz.n12;unfold Zk8 ZoW ZoV mkL;rw [so.m,so.notes,so.freed]
 have hb:(decide (0 <= (w.cells.length:Int)) && (decide ((w.cells.length:Int) <= (w.cells.length:Int)) && Nat.ble (24 * ((w.cells.length:Int)).toNat) 100000))=true:=by
  rw [Bool.and_eq_true,Bool.and_eq_true];refine⟨by simp,by simp,Nat.ble_eq_true_of_le (by omega)⟩
 rw [hb,cond_true,Option.bind_some,XD (by simp only [List.length_nil];omega) (by decide),XD (by simp only [List.length_nil];omega) (by decide)];simp only [Option.bind_some,List.nil_append,Int.toNat_natCast]
 obtain⟨h1,_⟩:=ZlM hF sm sz so (z:=Zb.mk 0 false 0 0 0 false) (fun i (s:List (List Zb))=>s.length=w.cells.length∧∀ r ∈ s,r.length <=i) (fun i s h=>⟨h.1,fun r hr=>Nat.le_succ_of_le (h.2 r hr)⟩) (E:=Zfq st w.notes w.freed) (B1:=Zk7 F st w.notes w.freed) (B2:=Zk6 st w.notes w.freed)
  (Y:=fun a c s k=>(Yg s a).bind fun x66=>(app 48 x66 [c]).bind fun z74=>(Yg s a).bind fun x78=>k (Jw s a z74)) Zjf (fun v s next=>by simp only [Zk7]) (fun v0 next v s nx=>by
    simp only [Zk6];cases decide (v < st.names)
    ·rfl
    ·simp only [cond_true];rfl) (fun i a c s k ha hi hs=>by
    have hg:s[a]? =some (s[a]'(by omega)):=by simp
    have hl:(s[a]'(by omega)).length <=i:=hs.2 _ (List.getElem_mem _)
    have hset:Jw s (a:Int) (s[a]'(by omega) ++ [c])=Zjf a c s:=by
     unfold Jw Zjf;rw [Int.toNat_natCast,hg];rfl
    rw [Z0,hg,Option.bind_some,XD (by simp;omega) (by decide),Option.bind_some,Option.bind_some,hset];refine⟨rfl,?_,fun r hr=>?_⟩
    ·unfold Zjf;rw [List.length_set];exact hs.1
    ·unfold Zjf at hr;rcases List.mem_or_eq_of_mem_set hr with z | z
     ·exact Nat.le_succ_of_le (hs.2 r z)
     ·rw [z,Int.toNat_natCast,hg];simp;omega) (List.replicate w.cells.length []) ⟨by simp,by
    intro r hr;rw [List.mem_replicate] at hr;rw [hr.2];simp⟩
 have:=Zps (w:=w) Yr (N:=w.names.toNat) (fun m hm c hc=>by have:=hn m hm c hc;omega);rw [h1,this];unfold Zfq;rw [so.n]
theorem Rt.small (R:Rt w):Small w:=by
 have:=R.c6;have:=R.KC;have:=R.ZjL;have:=R.n12;refine⟨by omega,fun r hr=>?_,by omega,by omega⟩;obtain⟨m,hm⟩:=List.getElem?_of_mem hr;have hml:= (List.getElem?_eq_some_iff.1 hm).1;have e:r=rowOf w m:=by have:=QY hml;rw [hm] at this;exact Option.some.inj this
 have:=Szd.Zba R.n12 (R.Yr m hml) (fun c hc=>by have:= (R.cn m hml c hc).1;unfold Yj at this;simp at this;exact this.1);rw [e];omega
theorem Rt.names (R:Rt w):∀ m,m < w.cells.length ->∀ c ∈ rowOf w m,0 <=c.name∧c.name < w.names:=fun m hm c hc=>by
 have:= (R.cn m hm c hc).1;unfold Yj at this;simp at this;exact this.1
theorem Rt.shut {F:Nat} (hF:1000 <=F) (R:Rt w) (so:Qg w st):Zk8 F st=some w:=Zwd hF R.small R.shp.szd so R.Yr R.names
theorem Rt.open_ {F:Nat} (hF:1000 <=F) (R:Rt w):∃ st,Zh5 F w=some st∧Qg w st∧UK st.cells:=by
 obtain⟨cs,q1,q2⟩:=ZpQ hF R.small R.shp;obtain⟨cs',q3,q4⟩:=Zwn hF R.small;rw [q1] at q3;have:cs=cs':=congrArg Store.cells (Option.some.inj q3);subst this;exact⟨_,q1,⟨rfl,rfl,rfl,rfl,q2⟩,q4⟩
theorem Rt.copy {F:Nat} (hF:1000 <=F) (R:Rt w) (so:Qg w st):∃ st',ZuE F st=some st'∧Qg w st'∧UK st'.cells:=by
 obtain⟨st',q1,q2,q3⟩:=R.open_ hF;refine⟨st',?_,q2,q3⟩;unfold ZuE;rw [R.shut hF so,Option.bind_some,q1];rfl
end
end Go.Proofs.Ytekpjgmhkkjhgaa
end
section
namespace Go.Proofs.Ytekpjgmhkkjhgaa
open Go.Lf
def QI (d:Zn) (M:Int):Bool:=
 bif d.ZX==1 then(((decide (d.at_ >=0)) && (decide (d.at_ < M))) && (d.name==0)) && (d.Zw==0)
 else bif(d.ZX==2 || d.ZX==4) then(((decide (d.at_ >=0)) && (decide (d.at_ < M))) && ((decide (d.Zw >=0)) && (decide (d.Zw < M)))) && ((d.at_ !=d.Zw) && decide (d.name >=0))
 else bif d.ZX==3 then(((decide (d.at_ >=0)) && (decide (d.at_ < M))) && (decide (d.name >=0))) && (d.Zw==0)
 else(((d.ZX==5) && (decide (d.at_ >=0))) && (d.name==0)) && (d.Zw==0)
theorem ZrN (d:Zn) (M:Int):ZrU d M=some (QI d M):=by
 unfold ZrU QI Zh6;generalize (d.ZX==1)=b1;generalize (d.ZX==2)=b2;generalize (d.ZX==3)=b3;generalize (d.ZX==4)=b4;generalize (d.ZX==5)=b5;cases b1 <;> cases b2 <;> cases b3 <;> cases b4 <;> cases decide (d.at_ >=0) <;> cases decide (d.at_ < M) <;> simp [Bool.and_assoc]
theorem YQ {d:Zn} {M:Int} (h:QI d M=true):
 (d.ZX=1∧0 <=d.at_∧d.at_ < M)∨((d.ZX=2∨d.ZX=4)∧(0 <=d.at_∧d.at_ < M)∧(0 <=d.Zw∧d.Zw < M)∧d.at_ ≠ d.Zw∧0 <=d.name)∨(d.ZX=3∧(0 <=d.at_∧d.at_ < M)∧0 <=d.name)∨(d.ZX=5∧0 <=d.at_):=by
 unfold QI at h;by_cases k1:d.ZX=1
 ·simp [k1] at h;exact .inl ⟨k1,h.1.1⟩
 ·by_cases k2:d.ZX=2
  ·simp [k2] at h;exact .inr (.inl ⟨.inl k2,h.1.1,h.1.2,h.2.1,h.2.2⟩)
  ·by_cases k4:d.ZX=4
   ·simp [k4] at h;exact .inr (.inl ⟨.inr k4,h.1.1,h.1.2,h.2.1,h.2.2⟩)
   ·by_cases k3:d.ZX=3
    ·simp [k3] at h;exact .inr (.inr (.inl ⟨k3,h.1.1,h.1.2⟩))
    ·simp [k1,k2,k3,k4] at h;exact .inr (.inr (.inr ⟨h.1.1.1,h.1.1.2⟩))
def Z6 (w:Za) (d:Zn):Za:=
 bif d.ZX==1 then Zd9 w d.at_.toNat
 else bif d.ZX==2 then Zd3 w d d.at_.toNat (look (rowOf w d.at_.toNat) d.name)
 else bif d.ZX==5 then XC (QZ w d.at_.toNat) (w.notes[d.at_.toNat]?.getD ⟨0,0,0,0,0⟩)
 else bif d.ZX==3 then Zgl w d.at_.toNat d.name (look (rowOf w d.at_.toNat) d.name)
 else goW w d d.at_.toNat (look (rowOf w d.at_.toNat) d.name)
section
variable {w:Za} {n:Int}
theorem Rx.range {ex:Int ->Int ->Prop} {fl:List Zd} (R:Rx w ex fl):∀ m,m < w.cells.length ->∀ c ∈ rowOf w m,0 <=c.name∧c.name < w.names:=fun m hm c hc=>by
 have:= (R.cn c.name m c (by rw [Jp hm];exact ZoP (R.Yr m hm) hc)).1;unfold Yj at this;simp at this;exact this.1
theorem Rx.small {ex:Int ->Int ->Prop} {fl:List Zd} (R:Rx w ex fl) (hl:w.notes.length < 900):Small w:=by
 have:=R.c6;have:=R.n12;have hf:=ZaZ R.fr R.frr R.n0;refine⟨by omega,fun r hr=>?_,by omega,by omega⟩;obtain⟨m,hm⟩:=List.getElem?_of_mem hr;have hml:= (List.getElem?_eq_some_iff.1 hm).1;have e:r=rowOf w m:=by have:=QY hml;rw [hm] at this;exact Option.some.inj this
 have:=Szd.Zba R.n12 (R.Yr m hml) (R.range m hml);rw [e];omega
theorem Rx.szd {ex:Int ->Int ->Prop} (R:Rx w ex []):Szd w:= ⟨R.c6,R.n0,R.n12,fun x hx=>by
 have hn:=R.nn x (by simpa using hx);obtain⟨h,H⟩:=R.nm _ hn;have:= (H.KC x (List.mem_append_right _ (List.mem_filter.2 ⟨hx,by simp⟩))).2.2.2;rcases this with z | z | z
 ·exact .inl z.1
 ·exact .inr (.inl z.1)
 ·exact .inr (.inr z.1)⟩
theorem Rt.Qj (R:Rt w) {m:Nat} (hm:m < w.cells.length) {c:Zb} (hc:UL (rowOf w m) n=some c):look (rowOf w m) n=c∧YO w n m=some c∧Yj w n=true:=by
 have e:YO w n m=some c:=by rw [Jp hm];exact hc
 exact⟨Qr hc,e,(R.rx.1.cn n m c e).1⟩
theorem Rx.Zds (R:Rx w Kc []) (Mx:Mw w []):∀ k a c,YO w k a=some c ->c.out <=1000016:=fun k a c hc=>by
 have hn:= (R.cn k a c hc).1;obtain⟨h,H⟩:=R.nm k hn;have:= (H.most (Mx k hn)).1 a c hc;omega
theorem Zdq (R:Rt w) (hn:Yj w n=true) {m:Nat} (hm:m < w.cells.length) {d:Zb} (hd:d.name=n) {y:Zd} (hy:y.name=n) (hu:d.use=true∨d.out ≠ 0)
 (hN:∃ h,Nm w.cells.length n (Yv (YO w n) m (some d)) (Q8 w n ++ [y]) h):Rx (sent (cw w m (put d (rowOf w m))) y) Kc []:=by
 obtain⟨R0,M0⟩:=R.rx;obtain⟨U,V1,V2⟩:=Qh hm R.Yr hd;obtain⟨U2,W1,W2⟩:=Zd2 (w:=cw w m (put d (rowOf w m))) (n:=n) (x:=y) (fun a ha=>U.Yr a (by rw [← U.len];exact ha)) hy;refine R0.upd (U.trans U2) hn (by simp) (by simp) (fun a c hc=>?_) (fun _ _ _ z=>z) ?_
 ·rw [W1,V1] at hc;unfold Yv at hc;split at hc
  ·cases hc;exact hu.elim .inl fun z=>.inr (.inl z)
  ·exact(R0.cn n a c hc).2
 ·rw [W1,W2,V1,V2];exact hN
theorem ZzK (R:Rt w) {d:Zn} {m:Nat} (hm:m < w.cells.length) (hat:d.at_= (m:Int)) (hto:0 <=d.Zw∧d.Zw < (w.cells.length:Int)) {c:Zb} (hc:UL (rowOf w m) d.name=some c) (hu:c.use=true):Rx (Zd3 w d m c) Kc []:=by
 obtain⟨_,e,hn⟩:=R.Qj hm hc;obtain⟨h,H,Mx⟩:=R.nm _ hn;have S:= (H.most Mx).1 _ c e;have hcn:=Qd hc;unfold Zd3;cases hb:(decide (c.from_ >=0) && decide (c.has >=2))
 ·rw [cond_false,YM (n:=c.out + 16) (by omega) (by omega)];exact Zdq R hn hm (d:= ⟨c.name,c.root,c.from_,c.has,c.out + 16,c.use⟩) (y:= ⟨1,d.Zw,d.name,d.at_,16⟩) hcn rfl (.inl hu) ⟨h,H.Zwh (w:=16) e hto (by decide) (by rw [hat])⟩
 ·rw [cond_true];simp at hb;have e1:c.has.tdiv 2=c.has / 2:=Int.tdiv_eq_ediv_of_nonneg (by omega);rw [e1,YM (n:=c.has / 2) (by omega) (by omega),YM (n:=c.has - c.has / 2) (by omega) (by omega)];exact Zdq R hn hm (d:= ⟨c.name,c.root,c.from_,c.has - c.has / 2,c.out,c.use⟩) (y:= ⟨1,d.Zw,d.name,c.from_,c.has / 2⟩) hcn rfl (.inl hu) ⟨h,H.Zwf (w:=c.has / 2) e hb.1 hto (by omega) (by omega) rfl⟩
theorem ZE4 (R:Rt w) {d:Zn} {m:Nat} (hm:m < w.cells.length) (hat:d.at_= (m:Int)) (hto:0 <=d.Zw∧d.Zw < (w.cells.length:Int)) (hne:d.at_ ≠ d.Zw) {c:Zb} (hc:UL (rowOf w m) d.name=some c) (hr:c.root=true):Rx (goW w d m c) Kc []:=by
 obtain⟨_,e,hn⟩:=R.Qj hm hc;obtain⟨h,H,Mx⟩:=R.nm _ hn;have hcn:=Qd hc;unfold goW;have hu:c.use=true∨c.out ≠ 0:= (R.cn m hm c (Zbo hc)).2;exact Zdq R hn hm (d:=goC c d.Zw) hcn rfl hu ⟨d.Zw,H.go e hr hto (by omega) rfl⟩
theorem Zlv (R:Rt w) {m:Nat} (hm:m < w.cells.length) {c:Zb} (hc:UL (rowOf w m) n=some c):Rx (Zgl w m n c) Kc []∧Mw (Zgl w m n c) []:=by
 obtain⟨_,e,hn⟩:=R.Qj hm hc;obtain⟨h,H,Mx⟩:=R.nm _ hn;obtain⟨R0,M0⟩:=R.rx;have hcn:=Qd hc
 obtain⟨P1,P2,P3⟩:=Zdr (n:=n) (fl:= []) (fl':= []) (m:=m) (m':=m) (ex':=fun a k=>a= (m:Int)∧k=n) R0 M0 hn (by simp) (by simp) rfl hm (d:=Zap c) hcn (.inr (.inr ⟨rfl,rfl⟩)) (fun a k _ z=>z.elim) ⟨h,H.use e false⟩ (fun a _ _=>by
  by_cases z:a= (m:Int)
  ·rw [if_pos z,z,e];exact Int.le_refl _
  ·rw [if_neg z];exact Int.le_refl _)
 unfold Zgl;exact ZcA P1 P2 rfl (by rw [Ya];exact hm) P3
theorem ZzT (R:Rt w) {m:Nat} (hm:m < w.cells.length) (hlt:w.names < 12):Rx (Zd9 w m) Kc []:=by
 have hn0:=R.n0;obtain⟨R0,M0⟩:=R.rx;obtain⟨U,V1,V2⟩:=Qh (w:=w) (n:=w.names) hm R.Yr (c:=Ze1 w) rfl;have hnm:(Zd9 w m).names=w.names + 1:=YM (by omega) (by omega)
 have hB:∀ k,Yj (Zd9 w m) k= (Yj w k || (k==w.names)):=by
  intro k;unfold Yj;rw [hnm];show(decide (0 <=k) && decide (k < w.names + 1) && !(w.freed.any fun y=>y==k))=_;by_cases e:k=w.names
  ·have:(w.freed.any fun y=>y==k)=false:=by
    rw [List.any_eq_false];intro y hy;have:=R.frr y hy;simp;omega
   rw [this];simp [e];omega
  ·have:decide (k < w.names + 1)=decide (k < w.names):=decide_eq_decide.2 (by omega);rw [this];simp [e]
 have hno:¬ Yj w w.names=true:=by unfold Yj;simp
 have ZHJ:YO w w.names=fun _=>none:=by
  funext a;cases e:YO w w.names a with
  | none=>rfl
  | some c=>exact absurd (R0.cn _ _ _ e).1 hno
 have hns0:Q8 w w.names= []:=by
  unfold Q8;rw [List.filter_eq_nil_iff];intro x hx;have:=R.nn x hx;intro z;have z:x.name=w.names:=by simpa using z
  rw [z] at this;exact hno this
 have ZDF:YO (Zd9 w m) w.names=Yv (fun _=>none) m (some (Ze1 w)):=by
  show YO (cw w m (put (Ze1 w) (rowOf w m))) w.names=_;rw [V1,ZHJ]
 have hlen:(Zd9 w m).cells.length=w.cells.length:=Ya;refine⟨by rw [hlen];exact R.c1,by rw [hlen];exact R.c6,by rw [hnm];omega,by rw [hnm];omega,R.fr,fun x hx=>?_,fun a ha=>?_,fun k a c hc=>?_,fun x hx=>?_,fun k hk=>?_⟩
 ·have:=R.frr x hx;rw [hnm];omega
 ·exact U.Yr a (by rw [hlen] at ha;exact ha)
 ·rw [hB];by_cases e:k=w.names
  ·subst e;rw [ZDF] at hc;unfold Yv at hc;split at hc
   ·cases hc;exact⟨by simp,.inl rfl⟩
   ·cases hc
  ·have:YO (Zd9 w m) k=YO w k:=U.oc k e;rw [this] at hc;have:=R0.cn k a c hc;exact⟨by rw [this.1];rfl,this.2⟩
 ·have hx:x ∈ w.notes:=hx;rw [hB,R.nn x hx];rfl
 ·rw [hlen];by_cases e:k=w.names
  ·subst e;refine⟨m,?_⟩;rw [ZDF];show Nm _ _ _ ([] ++ Q8 w w.names) _;rw [hns0];exact Nm.fresh ⟨by omega,by omega⟩
  ·rw [hB] at hk;have hk:Yj w k=true:=by simpa [e] using hk
   obtain⟨h,H⟩:=R0.nm k hk;refine⟨h,?_⟩;have:YO (Zd9 w m) k=YO w k:=U.oc k e;rw [this];exact H
theorem Zwq (R:Rt w) {m:Nat} (hm:m < w.cells.length):∀ k a c,YO (Zd9 w m) k a=some c ->c.out <=1000016:=fun k a c hc=>by
 obtain⟨R0,M0⟩:=R.rx;obtain⟨U,V1,V2⟩:=Qh (w:=w) (n:=w.names) hm R.Yr (c:=Ze1 w) rfl;have hc:YO (cw w m (put (Ze1 w) (rowOf w m))) k a=some c:=hc;by_cases e:k=w.names
 ·subst e;rw [V1] at hc;unfold Yv at hc;split at hc
  ·cases hc;show(0:Int) <=_;omega
  ·exact R0.Zds M0 _ _ _ hc
 ·rw [U.oc k e] at hc;exact R0.Zds M0 _ _ _ hc
theorem ZbK (x:Zd):(sent w x).notes.length=w.notes.length + 1:=by unfold sent;simp
theorem Zmg (d:Zn) (m:Nat) (c:Zb):(Zd3 w d m c).notes.length=w.notes.length + 1∧(Zd3 w d m c).cells.length=w.cells.length∧(Zd3 w d m c).names=w.names:=by
 unfold Zd3;cases (decide (c.from_ >=0) && decide (c.has >=2))
 ·rw [cond_false];exact⟨ZbK _,Ya,rfl⟩
 ·rw [cond_true];exact⟨ZbK _,Ya,rfl⟩
theorem Qx {d:Zn} {m:Nat} (h1:d.ZX ≠ 1) (h5:d.ZX ≠ 5) (he:YG w d m=0):∃ c,UL (rowOf w m) d.name=some c∧(d.ZX=4 ->c.root=true)∧(d.ZX ≠ 4 ->c.use=true):=by
 unfold YG at he;have b1:(d.ZX==1)=false:=by simp [h1]
 have b5:(d.ZX==5)=false:=by simp [h5]
 rw [b1,b5] at he;simp only [cond_false] at he;cases hf:UL (rowOf w m) d.name with
 | none=>rw [hf] at he;cases he
 | some c=>
   rw [hf] at he;refine⟨c,rfl,fun h4=>?_,fun h4=>?_⟩
   ·rw [h4] at he;dsimp only at he;cases hr:c.root with
    | true=>rfl
    | false=>rw [hr] at he;simp at he
   ·have b4:(d.ZX==4)=false:=by simp [h4]
    rw [b4] at he;dsimp only at he;cases hr:c.use with
    | true=>rfl
    | false=>rw [hr] at he;simp at he
theorem ZbS (R:Rt w) {m:Nat} (hm:m < w.cells.length) {d:Zb} (hd:d.name=n) {y:Zd} (ho:d.out <=1000016):∀ k a c,YO (sent (cw w m (put d (rowOf w m))) y) k a=some c ->c.out <=1000016:=fun k a c hc=>by
 obtain⟨R0,M0⟩:=R.rx;obtain⟨U,V1,V2⟩:=Qh hm R.Yr hd;have hc:YO (cw w m (put d (rowOf w m))) k a=some c:=hc;by_cases e:k=n
 ·subst e;rw [V1] at hc;unfold Yv at hc;split at hc
  ·cases hc;exact ho
  ·exact R0.Zds M0 _ _ _ hc
 ·rw [U.oc k e] at hc;exact R0.Zds M0 _ _ _ hc
theorem Zwg (R:Rt w) {d:Zn} {m:Nat} (hm:m < w.cells.length) {c:Zb} (hc:UL (rowOf w m) d.name=some c):∀ k a x,YO (Zd3 w d m c) k a=some x ->x.out <=1000016:=by
 obtain⟨_,e,hn⟩:=R.Qj hm hc;obtain⟨h,H,Mx⟩:=R.nm _ hn;have S:= (H.most Mx).1 _ c e;have hcn:=Qd hc;unfold Zd3;cases hb:(decide (c.from_ >=0) && decide (c.has >=2))
 ·rw [cond_false,YM (n:=c.out + 16) (by omega) (by omega)];exact ZbS R hm (d:= ⟨c.name,c.root,c.from_,c.has,c.out + 16,c.use⟩) hcn (by show c.out + 16 <=_;omega)
 ·rw [cond_true];exact ZbS R hm (d:= ⟨c.name,c.root,c.from_,ZK (c.has - ZK (c.has.tdiv 2)),c.out,c.use⟩) hcn (by show c.out <=_;omega)
theorem ZgV (R:Rt w) {d:Zn} (hf:QI d w.cells.length=true) (he:YG w d d.at_.toNat=0):
 Rx (Z6 w d) Kc []∧(Z6 w d).notes.length <=82∧(Z6 w d).cells.length=w.cells.length∧(d.ZX ≠ 1 ->(Z6 w d).names=w.names)∧∀ k a c,YO (Z6 w d) k a=some c ->c.out <=1000016:=by
 have hnl:=R.KC;obtain⟨R0,M0⟩:=R.rx;unfold Z6;rcases YQ hf with⟨k,a⟩ | ⟨k,a,t,ne,nm⟩ | ⟨k,a,nm⟩ | ⟨k,a⟩
 ·rw [k];simp only [beq_self_eq_true,cond_true]
  have:w.names < 12:=by
   unfold YG at he;rw [k] at he;simp only [beq_self_eq_true,cond_true] at he;cases hb:decide (w.names >=12) with
   | true=>rw [hb] at he;cases he
   | false=>simpa using hb
  exact⟨ZzT R (by omega) this,by show w.notes.length <=82;omega,Ya,fun z=>absurd rfl z,fun k a c hc=>Zwq R (by omega) k a c hc⟩
 ·have hm:d.at_.toNat < w.cells.length:=by omega
  have hat:d.at_= (d.at_.toNat:Int):=by omega
  rcases k with k | k
  ·obtain⟨c,hc,_,hu⟩:=Qx (by omega) (by omega) he;have hl:= (R.Qj hm hc).1;rw [k,hl];simp only [beq_self_eq_true,cond_true,show((2:Int)==1)=false from rfl,cond_false];obtain⟨q1,q2,q3⟩:=Zmg (w:=w) d d.at_.toNat c;exact⟨ZzK R hm hat t hc (hu (by omega)),by omega,q2,fun _=>q3,Zwg R hm hc⟩
  ·obtain⟨c,hc,hr,_⟩:=Qx (by omega) (by omega) he;have hl:= (R.Qj hm hc).1;rw [k,hl];simp only [show((4:Int)==1)=false from rfl,show((4:Int)==2)=false from rfl,show((4:Int)==3)=false from rfl,show((4:Int)==5)=false from rfl,cond_false];refine⟨ZE4 R hm hat t ne hc (hr k),?_,Ya,fun _=>rfl,ZbS R hm (d:=goC c d.Zw) (n:=d.name) (show c.name=d.name from Qd hc) (by show c.out <=_;exact R0.Zds M0 _ _ _ (R.Qj hm hc).2.1)⟩;unfold goW;rw [ZbK];show w.notes.length + 1 <=82;omega
 ·have hm:d.at_.toNat < w.cells.length:=by omega
  obtain⟨c,hc,_,hu⟩:=Qx (by omega) (by omega) he;have hl:= (R.Qj hm hc).1;rw [k,hl];simp only [beq_self_eq_true,cond_true,show((3:Int)==1)=false from rfl,show((3:Int)==2)=false from rfl,show((3:Int)==5)=false from rfl,cond_false];have q:=WJ (w:=cw w d.at_.toNat (put (Zap c) (rowOf w d.at_.toNat))) d.at_.toNat d.name (Zap c);refine⟨(Zlv R hm hc).1,?_,q.2.1.trans Ya,fun _=>q.2.2.1,(Zlv R hm hc).1.Zds (Zlv R hm hc).2⟩;have:=q.1;show(YW _ _ _ _).notes.length <=82;have e:(cw w d.at_.toNat (put (Zap c) (rowOf w d.at_.toNat))).notes.length=w.notes.length:=rfl;omega
 ·rw [k];simp only [beq_self_eq_true,cond_true,show((5:Int)==1)=false from rfl,show((5:Int)==2)=false from rfl,cond_false]
  have hlt:d.at_.toNat < w.notes.length:=by
   unfold YG at he;rw [k] at he;simp only [beq_self_eq_true,cond_true,show((5:Int)==1)=false from rfl,cond_false] at he;cases hb:decide (d.at_ >= (w.notes.length:Int)) with
   | true=>rw [hb] at he;cases he
   | false=>simp at hb;omega
  have hx:w.notes[d.at_.toNat]? =some (w.notes[d.at_.toNat]'hlt):=by simp
  rw [hx];simp only [Option.getD_some];obtain⟨q1,q2,q3⟩:=ZnA R hx;have:=q1.KC;exact⟨q1.rx.1,by show(XC _ _).notes.length <=82;omega,q2,fun _=>q3,q1.rx.1.Zds q1.rx.2⟩
end
end Go.Proofs.Ytekpjgmhkkjhgaa
end
section
namespace Go.Proofs.Ytekpjgmhkkjhgaa
open Go.Lf
def WN (w:Za):Bool:=decide ((w.notes.length:Int) > 80) || (List.range w.cells.length).any fun m=>(List.range w.names.toNat).any fun n=>decide (JR w m n > 1000000)
section
variable {w:Za} {n:Int} {st:Store} {F:Nat}
theorem UK.WQ {κ ν:Type} [DecidableEq κ] {l:List (κ×ν)} (u:UK l) (k:κ) (z:ν):UK (WQ l k z):=by
 unfold Go.Lf.WQ;cases e:Z9 l k with
 | some q=>exact u
 | none=>
   have:Go.Lf.Y1 l k z=l ++ [(k,z)]:=by unfold Go.Lf.Y1;rw [e]
   dsimp only;rw [← this];exact u.Y1 k z
theorem UK.upd {v:Acc} (u:UK v) (k:Ze) (x:Int):UK (upd v k x):= (u.WQ k 0).Y1 k _
theorem ZtC {κ ν:Type} [DecidableEq κ] {l:List (κ×ν)} {k:κ} {x:ν} (h:Xt l k=some x):(k,x) ∈ l:=by
 unfold Xt at h;cases e:Z9 l k with
 | none=>rw [e] at h;cases h
 | some q=>
   rw [e] at h;cases h;exact List.mem_of_getElem? (KO e)
theorem UK.get {κ ν:Type} [DecidableEq κ]:∀ {l:List (κ×ν)},UK l ->∀ {k:κ} {x:ν},(k,x) ∈ l ->Xt l k=some x
 | [],_,_,_,h=>by simp at h
 | p::l,u,k,x,h=>by
   have u':UK l:=by unfold UK at u ⊢;rw [List.map_cons,List.nodup_cons] at u;exact u.2
   have hp:p.1 ∉ l.map (·.1):=by unfold UK at u;rw [List.map_cons,List.nodup_cons] at u;exact u.1
   unfold Xt;rw [KP];rcases List.mem_cons.1 h with z | z
   ·subst z;simp
   ·have hne:¬ p.1=k:=fun e=>hp (by rw [e];exact List.mem_map_of_mem (f:= (·.1)) z)
    rw [if_neg hne];have:=u'.get z;unfold Xt at this;cases e:Z9 l k with
    | none=>rw [e] at this;cases this
    | some q=>rw [e] at this;simpa using this
theorem Zju {κ ν:Type} {b:κ ->ν ->Option Bool} (h:∀ k x,∃ p,b k x=some p):∀ l:List (κ×ν),∃ q,Zjv b l=some q
 | []=>⟨false,rfl⟩
 | x::r=>by
   obtain⟨p,hp⟩:=h x.1 x.2;obtain⟨q,hq⟩:=Zju h r;exact⟨p || q,by unfold Zjv;rw [hp,Option.bind_some,hq,Option.bind_some]⟩
theorem Zx5 (R:Rx w Kc []) {k:Ze} (hk:¬ ((0 <=k.e0∧k.e0 < (w.cells.length:Int))∧0 <=k.e1∧k.e1 < w.names)):val (Zcs w).1 k=0:=by
 have h0:=R.n0
 have hC:val (UZ w).1 k=0:=by
  unfold UZ;refine UB (fun q:Acc×Acc=>val q.1 k=0) _ _ (fun q m hm hq=>?_) _ rfl;refine UB (fun q:Acc×Acc=>val q.1 k=0) _ _ (fun q n hn hq=>?_) _ hq;rw [List.mem_range] at hm hn;unfold Jm;cases hc:cellOf w m n with
  | none=>exact hq
  | some c=>
    have hcn:=Qt hc;show val (upd q.1 ⟨m,c.name⟩ c.out) k=0;rw [Wu,if_neg (fun z=>hk (by rw [z];dsimp only;omega))];exact hq
 unfold Zcs;refine UB (fun q:Acc×Acc=>val q.1 k=0) _ _ (fun q x hx hq=>?_) _ hC;have hn:=R.nn x (by simpa using hx);obtain⟨h,H⟩:=R.nm _ hn;have ht:= (H.KC x (List.mem_append_right _ (List.mem_filter.2 ⟨hx,by simp⟩))).1;have hr:0 <=x.name∧x.name < w.names:=by unfold Yj at hn;simp at hn;exact hn.1
 unfold Zpu;cases (x.kind==1)
 ·cases (x.kind==2)
  ·simp only [cond_false];rw [Wu,if_neg (fun z=>hk (by rw [z];exact⟨ht,hr⟩))];exact hq
  ·exact hq
 ·exact hq
theorem ZBR:UK (Zcs w).1:=by
 have hC:UK (UZ w).1:=by
  unfold UZ;refine UB (fun q:Acc×Acc=>UK q.1) _ _ (fun q m hm hq=>?_) _ UK.nil;refine UB (fun q:Acc×Acc=>UK q.1) _ _ (fun q n hn hq=>?_) _ hq;unfold Jm;cases hc:cellOf w m n with
  | none=>exact hq
  | some c=>exact hq.upd _ _
 unfold Zcs;refine UB (fun q:Acc×Acc=>UK q.1) _ _ (fun q x hx hq=>?_) _ hC;unfold Zpu;cases (x.kind==1)
 ·cases (x.kind==2)
  ·exact hq.upd _ _
  ·exact hq
 ·exact hq
theorem Zrk (hF:1000 <=F) (R:Rx w Kc []) (sm:Small w) (so:Qg w st):Zaz F (st.machines,st.names,st.cells,st.notes,st.freed)=some (bif WN w then .Jk 3 else .ok st):=by
 have sz:=R.szd;have h0:=R.n0;unfold Zaz;dsimp only;rw [so.notes];unfold WN;cases hb:decide ((w.notes.length:Int) > 80)
 ·simp only [cond_false,Bool.false_or];have hst:(⟨st.machines,st.names,st.cells,w.notes,st.freed⟩:Store)=st:=by rw [← so.notes]
  rw [hst,ZqU hF sm sz so,Option.bind_some];obtain⟨q,hq⟩:=Zju (b:=Zfi) (fun k x=>by unfold Zfi;cases decide (x > 1000000);exact⟨_,rfl⟩;exact⟨_,rfl⟩) (Zcs w).1;rw [hq,Option.bind_some];obtain⟨_,q2⟩:=Zdz hq
  have:q= ((List.range w.cells.length).any fun m=>(List.range w.names.toNat).any fun n=>decide (JR w m n > 1000000)):=by
   rw [Bool.eq_iff_iff,q2,List.any_eq_true]
   constructor
   ·rintro⟨⟨k,v⟩,hm,hv⟩
    have hv:v > 1000000:=by
     unfold Zfi at hv;cases hd:decide (v > 1000000) with
     | true=>simpa using hd
     | false=>dsimp only at hv;rw [hd] at hv;cases hv
    have hval:val (Zcs w).1 k=v:=by unfold val;rw [ZBR.get hm];rfl
    by_cases hk:(0 <=k.e0∧k.e0 < (w.cells.length:Int))∧0 <=k.e1∧k.e1 < w.names
    ·refine⟨k.e0.toNat,List.mem_range.2 (by omega),?_⟩;rw [List.any_eq_true];refine⟨k.e1.toNat,List.mem_range.2 (by omega),?_⟩;have:= (ZlQ sz (a:=k.e0.toNat) (n:=k.e1.toNat) (by omega) (by omega)).1
     have e:(⟨((k.e0.toNat:Nat):Int),((k.e1.toNat:Nat):Int)⟩:Ze)=k:=by
      cases k;dsimp only at *;congr 1 <;> omega
     rw [e,hval] at this;rw [← this];simpa using hv
    ·rw [Zx5 R hk] at hval;omega
   ·rintro⟨m,hm,hn⟩;rw [List.any_eq_true] at hn;obtain⟨n,hn,hg⟩:=hn;rw [List.mem_range] at hm hn;have hg:JR w m n > 1000000:=by simpa using hg
    have:= (ZlQ sz (a:=m) (n:=n) hm (by omega)).1;rw [← this] at hg;unfold val at hg;cases e:Xt (Zcs w).1 (⟨(m:Int),(n:Int)⟩:Ze) with
    | none=>rw [e] at hg;simp at hg
    | some v=>
      rw [e] at hg;refine⟨_,ZtC e,?_⟩;unfold Zfi;dsimp only;rw [decide_eq_true (by simpa using hg)];rfl
  rw [← this];cases q <;> rfl
 ·rfl
theorem Zpl {l:List Int} (h:l.Pairwise (· < ·)):Asc l:=h.imp fun z=>Int.le_of_lt z
theorem Rt.ci (R:Rt w) {m:Nat} (hm:m < w.cells.length) {c:Zb} (hc:c ∈ rowOf w m):CI c:=by
 have:= (ZaX (R.WV hm hc)).2.2.2;rcases this with z | z
 ·exact .inl ⟨z.2.1,z.1⟩
 ·exact .inr z
theorem Rt.ZhW (R:Rt w) (h:∃ n,Yj w n=true):w.freed.length <=11:=by
 obtain⟨n,hn⟩:=h;unfold Yj at hn;simp at hn;have h12:=R.n12
 have key:∀ (l:List Int) (a:Int),l.Pairwise (· < ·) ->(∀ x ∈ l,a <=x∧x < w.names) ->n ∉ l ->a <=n ->a + (l.length:Int) + 1 <=w.names:=by
  intro l
  induction l with
  | nil=>intro a _ _ _ h;simp;omega
  | cons x l ih=>
    intro a p hr hx ha;rw [List.pairwise_cons] at p;have h0:=hr x (by simp);have hne:n ≠ x:=fun z=>hx (by rw [z];simp)
    by_cases hlt:n < x
    ·have:=ZaZ (l:=l) (a:=x + 1) (b:=w.names) p.2 (fun y hy=>by have h1:=p.1 y hy;have h2:=hr y (by simp [hy]);omega) (by omega);simp only [List.length_cons];omega
    ·have:=ih (x + 1) p.2 (fun y hy=>by have h1:=p.1 y hy;have h2:=hr y (by simp [hy]);omega) (fun z=>hx (by simp [z])) (by omega);simp only [List.length_cons];omega
 have:=key w.freed 0 R.fr R.frr (fun z=>hn.2 n z rfl) hn.1.1;omega
theorem Zjs (sm:Small w) (k:Nat):Small (QZ w k):= ⟨sm.cells,sm.rows,by have:=sm.notes;unfold QZ;simp;omega,sm.freed⟩
end
end Go.Proofs.Ytekpjgmhkkjhgaa
end
section
namespace Go.Proofs.Ytekpjgmhkkjhgaa
open Go.Lf
def Zg8:Za:= ⟨[],[],0,[]⟩
def stepW (w:Za) (d:Zn):Za×Int:=
 bif YG w d d.at_.toNat==0 then(bif WN (Z6 w d) then(Zg8,3) else(Z6 w d,0)) else(Zg8,YG w d d.at_.toNat)
def doW (w:Za) (d:Zn):Za×Int:=bif KL w && QI d w.cells.length then stepW w d else(Zg8,2)
section
variable {w:Za} {n:Int} {st:Store} {F:Nat}
theorem ZrY {d:Zn} (h:d.ZX=1∨d.ZX=5) (m m':Nat):YG w d m=YG w d m':=by
 unfold YG;rcases h with h | h <;> rw [h] <;> rfl
theorem Zo5 (R:Rt w) {d:Zn} (hf:QI d w.cells.length=true):∃ m,m < w.cells.length∧(d.ZX=1∨d.ZX=5∨d.at_= (m:Int))∧YG w d m=YG w d d.at_.toNat:=by
 have:=R.c1;rcases YQ hf with⟨k,a⟩ | ⟨k,a,t,ne,nm⟩ | ⟨k,a,nm⟩ | ⟨k,a⟩
 ·exact⟨d.at_.toNat,by omega,.inl k,rfl⟩
 ·exact⟨d.at_.toNat,by omega,.inr (.inr (by omega)),rfl⟩
 ·exact⟨d.at_.toNat,by omega,.inr (.inr (by omega)),rfl⟩
 ·exact⟨0,by omega,.inr (.inl k),ZrY (.inr k) _ _⟩
theorem Rt.ZqJ (R:Rt w) {m:Nat} (hm:m < w.cells.length) (n:Int):CI (look (rowOf w m) n):=by
 unfold look;cases h:UL (rowOf w m) n with
 | none=>exact CI.blank n
 | some c=>exact R.ci hm (Zbo h)
theorem Zsl (hF:1000 <=F) (R:Rt w) (so:Qg w st) (u:UK st.cells) {d:Zn} (hf:QI d w.cells.length=true):
 ∃ st',ZuD F st d=some (bif YG w d d.at_.toNat==0 then(bif WN (Z6 w d) then .Jk 3 else .ok st') else .Jk (YG w d d.at_.toNat))∧(YG w d d.at_.toNat=0 ->Qg (Z6 w d) st'∧UK st'.cells):=by
 have sm:=R.small;have hnl:=R.KC;have hrow:∀ m,m < w.cells.length ->(rowOf w m).length <=12:=fun m hm=>Szd.Zba R.n12 (R.Yr m hm) (R.names m hm)
 obtain⟨m0,hm0,ho,e0⟩:=Zo5 R hf;have hck:=Zpd so hm0 d ho;rw [e0] at hck;unfold ZuD;rw [hck,Option.bind_some];cases hz:(YG w d d.at_.toNat==0)
 ·refine⟨st,rfl,fun z=>?_⟩;rw [z] at hz;cases hz
 ·have he:YG w d d.at_.toNat=0:=by simpa using hz
  obtain⟨X1,X2,X3,X4,X5⟩:=ZgV R hf he;have over:∀ st',Qg (Z6 w d) st' ->Zaz F (st'.machines,st'.names,st'.cells,st'.notes,st'.freed)=some (bif WN (Z6 w d) then .Jk 3 else .ok st'):=fun st' s'=>Zrk hF X1 (X1.small (by omega)) s'
  simp only [cond_true];unfold prC;dsimp only;rcases YQ hf with⟨k,a⟩ | ⟨k,a,t,ne,nm⟩ | ⟨k,a,nm⟩ | ⟨k,a⟩
  ·have hm:d.at_.toNat < w.cells.length:=by omega
   have hat:d.at_= (d.at_.toNat:Int):=by omega
   have hdw:Z6 w d=Zd9 w d.at_.toNat:=by unfold Z6;rw [k];rfl
   obtain⟨q1,q2⟩:=Ztx so u hm (R.Yr _ hm);have ov:=over _ (by rw [hdw];exact q1);refine⟨_,?_,fun _=>⟨by rw [hdw];exact q1,q2⟩⟩;rw [← ov,k];simp only [beq_self_eq_true,cond_true];rw [hat,so.n]
   rfl
  ·have hm:d.at_.toNat < w.cells.length:=by omega
   have hat:d.at_= (d.at_.toNat:Int):=by omega
   rcases k with k | k
   ·obtain⟨c,hc,_,hu⟩:=Qx (by omega) (by omega) he;have hl:= (R.Qj hm hc).1;have hdw:Z6 w d=Zd3 w d d.at_.toNat c:=by unfold Z6;rw [k,hl];rfl
    obtain⟨st',q1,q2,q3⟩:=ZsV so u hm (R.Yr _ hm) (by omega) d hat hc;have ov:=over st' (by rw [hdw];exact q2);refine⟨st',?_,fun _=>⟨by rw [hdw];exact q2,q3⟩⟩;rw [← ov,k];simp only [beq_self_eq_true,cond_true,show((2:Int)==1)=false from rfl,cond_false];rw [q1,Option.bind_some]
   ·obtain⟨c,hc,hr,_⟩:=Qx (by omega) (by omega) he;have hl:= (R.Qj hm hc).1;have hdw:Z6 w d=goW w d d.at_.toNat c:=by unfold Z6;rw [k,hl];rfl
    obtain⟨st',q1,q2,q3⟩:=Zw1 so u hm (R.Yr _ hm) (by omega) d hc;have ov:=over st' (by rw [hdw];exact q2);refine⟨st',?_,fun _=>⟨by rw [hdw];exact q2,q3⟩⟩;rw [← ov,k];simp only [beq_self_eq_true,cond_true,show((4:Int)==1)=false from rfl,show((4:Int)==2)=false from rfl,show((4:Int)==3)=false from rfl,cond_false];unfold Zay;rw [Option.bind_some,hat,so.get hm,hc];unfold goC at q1;simp only [Option.getD_some];rw [q1,Option.bind_some]
  ·have hm:d.at_.toNat < w.cells.length:=by omega
   have hat:d.at_= (d.at_.toNat:Int):=by omega
   obtain⟨c,hc,_,hu⟩:=Qx (by omega) (by omega) he;obtain⟨hl,_,hnb⟩:=R.Qj hm hc;have hdw:Z6 w d=Zgl w d.at_.toNat d.name c:=by unfold Z6;rw [k,hl];rfl
   obtain⟨st',q1,q2,q3⟩:=Zr0 (F:=F) (by omega) so u hm (R.Yr _ hm) (by omega) hc (R.ci hm (Zbo hc)) (Zpl R.fr) (R.ZhW ⟨_,hnb⟩);have ov:=over st' (by rw [hdw];exact q2);refine⟨st',?_,fun _=>⟨by rw [hdw];exact q2,q3⟩⟩;rw [← ov,k];simp only [beq_self_eq_true,cond_true,show((3:Int)==1)=false from rfl,show((3:Int)==2)=false from rfl,cond_false];unfold Zay;rw [Option.bind_some,hat,so.get hm,hc];unfold Zap at q1;simp only [Option.getD_some];rw [q1,Option.bind_some]
  ·have hlt:d.at_.toNat < w.notes.length:=by
    have he:=he;unfold YG at he;rw [k] at he;simp only [beq_self_eq_true,cond_true,show((5:Int)==1)=false from rfl,cond_false] at he;cases hb:decide (d.at_ >= (w.notes.length:Int)) with
    | true=>rw [hb] at he;cases he
    | false=>simp at hb;omega
   obtain⟨j,hj⟩:∃ j:Nat,d.at_= (j:Int):= ⟨d.at_.toNat,by omega⟩
   have hjt:d.at_.toNat=j:=by omega
   rw [hjt] at hlt;obtain⟨x,hx⟩:∃ x,w.notes[j]? =some x:= ⟨_,List.getElem?_eq_getElem hlt⟩
   have hdw:Z6 w d=XC (QZ w j) x:=by unfold Z6;rw [k,hjt,hx];rfl
   have hxm:=List.mem_of_getElem? hx;have hxB:=KD (R.U9 hxm);have hm:x.Zw.toNat < w.cells.length:=by omega
   have:=hrow _ hm;have so':Qg (QZ w j) ⟨st.machines,st.names,st.cells,w.notes.take j ++ w.notes.drop (j + 1),st.freed⟩:= ⟨so.m,so.n,rfl,so.freed,so.cells⟩
   obtain⟨st',q1,q2,q3⟩:=Zis (F:=F) (by omega) so' u (Zjs sm j) (m:=x.Zw.toNat) hm (by show(rowOf w _).length < 900;omega) (by unfold QZ;simp;omega) x (by omega) (R.Yr _ hm) (R.ZqJ hm _) (Zpl R.fr) (R.ZhW ⟨_,hxB.2.1⟩);have ov:=over st' (by rw [hdw];exact q2);refine⟨st',?_,fun _=>⟨by rw [hdw];exact q2,q3⟩⟩;rw [← ov,k];simp only [beq_self_eq_true,cond_true,show((5:Int)==1)=false from rfl,show((5:Int)==2)=false from rfl,show((5:Int)==3)=false from rfl,show((5:Int)==4)=false from rfl,cond_false];rw [hj,so.notes,Z0,hx,Option.bind_some,Ztg hlt (by omega),Option.bind_some,q1,Option.bind_some]
theorem Ztf (R:Rx w Kc []) (ho:∀ k a c,YO w k a=some c ->c.out <=1000016) (h:WN w=false):Rt w:=by
 unfold WN at h;rw [Bool.or_eq_false_iff,List.any_eq_false] at h;have sz:=R.szd;have hl:w.notes.length <=80:=by have:=h.1;simp at this;omega
 have h0:=R.n0;refine R.rt (fun n hn=>?_) hl;have hnr:0 <=n∧n < w.names:=by unfold Yj at hn;simp at hn;exact hn.1
 intro a a0 a1;have:=h.2 a.toNat (List.mem_range.2 (by omega));rw [Bool.not_eq_true,List.any_eq_false] at this;have:=this n.toNat (List.mem_range.2 (by omega));have:= (by simpa using this:JR w a.toNat ((n.toNat:Nat):Int) <=1000000)
 rw [show((n.toNat:Nat):Int)=n by omega,ZdH w (by omega)] at this;rw [show((a.toNat:Nat):Int)=a by omega] at this;show J6 (YO w n) (Q8 w n) a <=1000000;obtain⟨h',H⟩:=R.nm n hn;have H:Nm w.cells.length n (YO w n) (Q8 w n) h':=H;have hg:=H.giv a;have hc:=H.ZBA
 have hb:-16 <=X0 (YO w n a)∧X0 (YO w n a) <=1000016:=by
  cases e:YO w n a with
  | none=>simp [X0]
  | some c=>exact⟨(H.Zhw e).1,ho n a c e⟩
 have:-16 <=J6 (YO w n) (Q8 w n) a∧J6 (YO w n) (Q8 w n) a <=1000032:=by
  rw [hg];split <;> omega
 rw [YM (by omega) (by omega)] at *
 assumption
theorem ZqG (R:Rt w) {d:Zn} (hf:QI d w.cells.length=true) (he:YG w d d.at_.toNat=0) (hv:WN (Z6 w d)=false):Rt (Z6 w d)∧(Z6 w d).cells.length=w.cells.length:=by
 obtain⟨X1,X2,X3,X4,X5⟩:=ZgV R hf he;exact⟨Ztf X1 X5 hv,X3⟩
theorem ZsN {d:Zn} (h:(stepW w d).2=0):YG w d d.at_.toNat=0∧WN (Z6 w d)=false∧(stepW w d).1=Z6 w d:=by
 unfold stepW at h ⊢;cases hz:(YG w d d.at_.toNat==0)
 ·rw [hz] at h;have he:YG w d d.at_.toNat ≠ 0:=by simpa using hz
  exact absurd h he
 ·rw [hz] at h;cases ho:WN (Z6 w d)
  ·exact⟨by simpa using hz,rfl,rfl⟩
  ·rw [ho] at h;cases h
theorem Zra (hF:1000 <=F) (R:Rt w) (so:Qg w st) {d:Zn} (hf:QI d w.cells.length=true):
 ((stepW w d).2 ≠ 0∧ZrT F st d=some (none,(stepW w d).2))∨((stepW w d).2=0∧(stepW w d).1=Z6 w d∧∃ st',ZrT F st d=some (some st',0)∧Qg (Z6 w d) st'∧UK st'.cells):=by
 obtain⟨sc,c1,c2,c3⟩:=R.copy hF so;obtain⟨st',q1,q2⟩:=Zsl hF R c2 c3 hf;unfold ZrT stepW;rw [c1,Option.bind_some,q1,Option.bind_some];cases hz:(YG w d d.at_.toNat==0)
 ·left;have he:YG w d d.at_.toNat ≠ 0:=by simpa using hz
  exact⟨he,rfl⟩
 ·have he:YG w d d.at_.toNat=0:=by simpa using hz
  obtain⟨q3,q4⟩:=q2 he;cases WN (Z6 w d)
  ·right;exact⟨rfl,rfl,st',rfl,q3,q4⟩
  ·left;exact⟨(fun z=>by cases z),rfl⟩
theorem ZqI (hF:1000 <=F) (sm:Small w) (d:Zn):Zm7 F w d=some (doW w d):=by
 have:=sm.cells;unfold Zm7 doW;rw [Zqn hF sm,Option.bind_some,ZrN];simp only [ZmW,Option.bind_some];cases hr:KL w
 ·rfl
 ·have R:=Rt.of hr;cases hf:QI d w.cells.length
  ·rfl
  ·simp only [Bool.not_true,Bool.not_false,cond_true,Bool.or_self,cond_false,Bool.and_self];obtain⟨st,o1,o2,o3⟩:=R.open_ hF;rw [o1,Option.bind_some];rcases Zra hF R o2 hf with⟨s1,s2⟩ | ⟨s1,s2,st',s3,s4,s5⟩
   ·rw [s2,Option.bind_some];unfold opt;dsimp only;have:((stepW w d).2 !=0)=true:=by simpa using s1
    rw [this,cond_true]
    have e:(stepW w d).1=Zg8:=by
     unfold stepW at s1 ⊢;cases hz:(YG w d d.at_.toNat==0)
     ·rfl
     ·rw [hz] at s1;cases ho:WN (Z6 w d)
      ·rw [ho] at s1;exact absurd rfl s1
      ·rfl
    show some (Zg8,(stepW w d).2)=some (stepW w d);rw [← e]
   ·rw [s3,Option.bind_some];unfold opt;dsimp only;obtain⟨e1,e2,e3⟩:=ZsN s1;have R':= (ZqG R hf e1 e2).1;rw [show((0:Int) !=0)=false from rfl,cond_false,R'.shut hF s4,Option.bind_some,← s2];rw [← s1]
end
end Go.Proofs.Ytekpjgmhkkjhgaa
end
section
namespace Go.Proofs.Ytekpjgmhkkjhgaa
open Go.Lf
section
end
end Go.Proofs.Ytekpjgmhkkjhgaa
end
section
namespace Go.Proofs.Ytekpjgmhkkjhgaa
open Go.Lf
section
variable {w:Za} {n:Int} {st:Store} {F:Nat}
def Zp0 (p:Int):Za×Int:=bif(decide (1 <=p) && decide (p <=6)) then(⟨List.replicate p.toNat [],[],0,[]⟩,0) else(Zg8,2)
theorem ZpZ {p:Int} (h:1 <=p∧p <=6):Rt ⟨List.replicate p.toNat [],[],0,[]⟩:=by
 have hrow:∀ m,rowOf ⟨List.replicate p.toNat [],[],0,[]⟩ m= []:=by
  intro m;unfold rowOf;dsimp only;cases e:(List.replicate p.toNat ([]:List Zb))[m]? with
  | none=>rfl
  | some r=>have:=List.mem_of_getElem? e;rw [List.mem_replicate] at this;exact this.2
 refine⟨by simp;omega,by simp;omega,Int.le_refl _,by show(0:Int) <=12;omega,by simp,.nil,by simp,fun m hm=>by rw [hrow];exact .nil,fun m hm c hc=>by rw [hrow] at hc;simp at hc,by simp,fun n hn=>?_⟩;unfold Yj at hn;simp at hn;omega
theorem Zrn (hF:1000 <=F) (p:Int):ZuV F p=some (Zp0 p):=by
 unfold ZuV Zp0
 have e:((decide (p < 1)) || (decide (p > 6)))= !(decide (1 <=p) && decide (p <=6)):=by
  rw [Bool.not_and,← decide_not,← decide_not];congr 1 <;> exact decide_eq_decide.2 (by omega)
 rw [e];cases hb:(decide (1 <=p) && decide (p <=6))
 ·rfl
 ·simp at hb;simp only [Bool.not_true,cond_false,cond_true]
  have so:Qg ⟨List.replicate p.toNat [],[],0,[]⟩ ⟨p,0,[],[],[]⟩:=by
   refine⟨?_,rfl,rfl,rfl,fun a b=>?_⟩
   ·show p= ((List.replicate p.toNat ([]:List Zb)).length:Int);rw [List.length_replicate];omega
   ·show none=_;split
    ·rename_i hr
     symm
     rw [Y2]
     have:rowOf ⟨List.replicate p.toNat [],[],0,[]⟩ a.toNat= []:=by
      unfold rowOf;dsimp only;cases e:(List.replicate p.toNat ([]:List Zb))[a.toNat]? with
      | none=>rfl
      | some r=>have:=List.mem_of_getElem? e;rw [List.mem_replicate] at this;exact this.2
     rw [this];rfl
    ·rfl
  rw [(ZpZ hb).shut hF so];rfl
end
end Go.Proofs.Ytekpjgmhkkjhgaa
end
section
namespace Go.Proofs.Ytekpjgmhkkjhgaa
open Go.Lf
def ZyA (c:Zb):Bool:=decide (c.from_ >=0)
def Kq (r:Row):Nat:=r.countP ZyA
def Jc:Option Zb ->Nat | some c=>if c.from_ >=0 then 1 else 0 | none=>0
def wt (x:Zd):Nat:=if x.kind=1 then 2 else 1
def wts:List Zd ->Nat | []=>0 | x::l=>wt x + wts l
def Za6 (f:Nat ->Nat):Nat ->Nat | 0=>0 | k + 1=>Za6 f k + f k
def mu (w:Za):Nat:=Za6 (fun m=>Kq (rowOf w m)) w.cells.length + wts w.notes
theorem ZgD (l r:List Zd):wts (l ++ r)=wts l + wts r:=by
 induction l with
 | nil=>simp [wts]
 | cons x l ih=>simp only [List.cons_append,wts,ih];omega
theorem Zn6 {f g:Nat ->Nat} {M:Nat} (h:∀ m,m < M ->f m=g m):Za6 f M=Za6 g M:=by
 induction M with
 | zero=>rfl
 | succ M ih=>simp only [Za6];rw [ih fun m hm=>h m (by omega),h M (by omega)]
theorem ZsM {f g:Nat ->Nat} {M k:Nat} (hk:k < M) (h:∀ m,m < M ->m ≠ k ->f m=g m):Za6 f M + g k=Za6 g M + f k:=by
 induction M with
 | zero=>omega
 | succ M ih=>
   simp only [Za6];by_cases e:k=M
   ·subst e;rw [Zn6 fun m hm=>h m (by omega) (by omega)];omega
   ·have:=ih (by omega) (fun m hm hn=>h m (by omega) hn);rw [h M (by omega) (fun z=>e z.symm)];omega
theorem Jf (d:Zb) (r:Row):Kq (d::r)=Jc (some d) + Kq r:=by
 unfold Kq Jc;rw [List.countP_cons];unfold ZyA;by_cases h:d.from_ >=0
 ·simp [h];omega
 ·simp [h]
theorem ZmD (c:Zb):∀ {r:Row},Uk r ->Kq (put c r) + Jc (UL r c.name)=Kq r + Jc (some c)
 | [],_=>by rw [put,Jf,ZkQ];simp [Jc,Kq]
 | d::r,s=>by
   unfold put;by_cases h1:d.name < c.name
   ·have:=ZmD c s.tail;rw [if_pos h1,Jf,Jf,YK,if_neg (by omega)];omega
   ·rw [if_neg h1];by_cases h2:d.name=c.name
    ·rw [if_pos h2,Jf,Jf,YK,if_pos h2];omega
    ·rw [if_neg h2,Jf,Jf,YK,if_neg h2,Zca (by intro x hx;have:=s.head x hx;omega)];simp [Jc];omega
theorem ZmC (n:Int):∀ {r:Row},Uk r ->Kq (rmv n r) + Jc (UL r n)=Kq r
 | [],_=>by simp [rmv,Kq,Jc,ZkQ]
 | d::r,s=>by
   have:=ZmC n s.tail;rw [YK];by_cases h:d.name=n
   ·have e:rmv n (d::r)=rmv n r:=by unfold rmv;rw [List.filter_cons_of_neg (by simp [h])]
    rw [e,if_pos h,Jf];have hn:UL r n=none:=Zca (by intro x hx;have:=s.head x hx;omega);rw [hn] at this;simp only [Jc] at this ⊢;omega
   ·have e:rmv n (d::r)=d::rmv n r:=by unfold rmv;rw [List.filter_cons_of_pos (by simp [h])]
    rw [e,if_neg h,Jf,Jf];omega
section
variable {w:Za} {n:Int} {m:Nat}
theorem Zyy (hm:m < w.cells.length) (r:Row):mu (cw w m r) + Kq (rowOf w m)=mu w + Kq r:=by
 unfold mu;rw [Ya];have:=ZsM (f:=fun k=>Kq (rowOf (cw w m r) k)) (g:=fun k=>Kq (rowOf w k)) hm (fun k hk hne=>by rw [Ux hne]);simp only [Qn hm] at this;have e:(cw w m r).notes=w.notes:=rfl;rw [e];omega
theorem ZzU (hm:m < w.cells.length) (s:Uk (rowOf w m)) {d:Zb} (hd:d.name=n):mu (cw w m (put d (rowOf w m))) + Jc (UL (rowOf w m) n)=mu w + Jc (some d):=by
 have h1:=Zyy hm (put d (rowOf w m));have h2:=ZmD d s;rw [hd] at h2;omega
theorem ZpY (x:Zd):mu (sent w x)=mu w + wt x:=by
 unfold mu sent;dsimp only;rw [ZgD];simp only [wts];have:Za6 (fun m=>Kq (rowOf {cells:=w.cells,notes:=w.notes ++ [x],names:=w.names,freed:=w.freed} m)) w.cells.length=Za6 (fun m=>Kq (rowOf w m)) w.cells.length:=rfl;omega
theorem Ze3 (hm:m < w.cells.length) (s:Uk (rowOf w m)) {c:Zb} (hc:UL (rowOf w m) n=some c):mu (YW w m n c) <=mu w:=by
 unfold YW;cases (c.use || (c.out !=0))
 ·rw [cond_false];have h1:=Zyy hm (rmv n (rowOf w m));have h2:=ZmC n s;rw [hc] at h2
  have key:∀ (ns:List Zd) (fr:List Int),mu ⟨w.cells.set m (rmv n (rowOf w m)),ns,w.names,fr⟩ + wts w.notes=mu (cw w m (rmv n (rowOf w m))) + wts ns:=by
   intro ns fr;unfold mu;show Za6 (fun k=>Kq (rowOf (cw w m (rmv n (rowOf w m))) k)) (w.cells.set m (rmv n (rowOf w m))).length + wts ns + wts w.notes=Za6 (fun k=>Kq (rowOf (cw w m (rmv n (rowOf w m))) k)) (w.cells.set m (rmv n (rowOf w m))).length + wts w.notes + wts ns;omega
  cases c.root
  ·simp only [cond_false];cases hf:decide (c.from_ >=0)
   ·rw [cond_false];have:=key w.notes w.freed;simp only [Jc] at h2;omega
   ·rw [cond_true];have hf':c.from_ >=0:=by simpa using hf
    have:=key (w.notes ++ [⟨2,c.from_,n,0,c.has⟩]) w.freed;rw [ZgD] at this;have e2:wts [(⟨2,c.from_,n,0,c.has⟩:Zd)]=1:=rfl;rw [e2] at this;simp only [Jc,if_pos hf'] at h2;omega
  ·simp only [cond_true];have:=key w.notes (Jr n w.freed);simp only [Jc] at h2;omega
 ·exact Nat.le_refl _
theorem Zol (n:Int) (r:Row):Jc (UL r n)=Jc (some (look r n)):=by
 unfold look;cases UL r n <;> rfl
theorem Zvf {x:Zd} (R:Rx w Kc [x]):mu (XC w x) + 1 <=mu w + wt x:=by
 have hn:=R.nn x (by simp);obtain⟨n,hxn⟩:∃ n,x.name=n:= ⟨_,rfl⟩
 rw [hxn] at hn;have hfl:∀ y ∈ [x],y.name=n:=by simp [hxn]
 obtain⟨h,H⟩:=R.nm n hn;rw [Kt hfl] at H;have H:Nm w.cells.length n (YO w n) (x::Q8 w n) h:=H;have hx:=H.KC x (by simp);obtain⟨m',hm'⟩:∃ m',x.Zw.toNat=m':= ⟨_,rfl⟩
 have hmm:(m':Int)=x.Zw:=by omega
 have hm:m' < w.cells.length:=by omega
 have L:=H.look x.Zw;have KR:look (rowOf w m') n=Zak n (YO w n) x.Zw:=by rw [Ze7 hm,hmm]
 unfold XC;rw [hm',hxn];dsimp only;obtain⟨c,hc⟩:∃ c,Zak n (YO w n) x.Zw=c:= ⟨_,rfl⟩
 rw [hc] at L KR;have hlo:=Zol n (rowOf w m');rw [KR] at hlo ⊢;have hsrt:=R.Yr m' hm
 have hmp:∀ {d:Zb},d.name=n ->mu (cw w m' (put d (rowOf w m'))) + Jc (some c)=mu w + Jc (some d):=fun hd=>by
  have:=ZzU hm hsrt hd;rw [hlo] at this;exact this
 have hcw:∀ {d:Zb},d.name=n ->UL (rowOf (cw w m' (put d (rowOf w m'))) m') n=some d∧Uk (rowOf (cw w m' (put d (rowOf w m'))) m'):=fun hd=>⟨Zff hm hsrt hd,by rw [Qn hm];exact hsrt.put⟩
 have hwt:1 <=wt x:=by unfold wt;split <;> omega
 cases k1:(x.kind==1)
 ·rw [cond_false];cases k2:(x.kind==2)
  ·rw [cond_false];have h1:=hmp (d:= ⟨c.name,true,-1,0,ZK (c.out + 16),c.use⟩) L.nam;obtain⟨h2,h3⟩:=hcw (d:= ⟨c.name,true,-1,0,ZK (c.out + 16),c.use⟩) L.nam
   have k3:x.kind=3:=by
    rcases hx.2.2.2 with z | z | z
    ·rw [z.1] at k1;cases k1
    ·rw [z.1] at k2;cases k2
    ·exact z.1
   have hw1:wt x=1:=by unfold wt;rw [if_neg (by omega)]
   cases hf:decide (c.from_ >=0)
   ·simp only [cond_false];rw [Qr h2];have h4:=Ze3 (by rw [Ya];exact hm) h3 h2;have hf':¬ c.from_ >=0:=by simpa using hf
    simp only [Jc,if_neg hf',if_neg (by omega:¬ (-1:Int) >=0)] at h1;omega
   ·simp only [cond_true];have hf':c.from_ >=0:=by simpa using hf
    have hne:c.from_ ≠ x.Zw:=by rcases L.cel with z | z;exact z.2.2.2.1;omega
    have hb:Xe (cw w m' (put ⟨c.name,true,-1,0,ZK (c.out + 16),c.use⟩ (rowOf w m'))) m' n c.from_ c.has=sent (cw w m' (put ⟨c.name,true,-1,0,ZK (c.out + 16),c.use⟩ (rowOf w m'))) ⟨2,c.from_,n,0,c.has⟩:=by
     unfold Xe;have:(c.from_ != (m':Int))=true:=by simp;omega
     rw [this,cond_true]
    rw [hb];have hrow:rowOf (sent (cw w m' (put ⟨c.name,true,-1,0,ZK (c.out + 16),c.use⟩ (rowOf w m'))) ⟨2,c.from_,n,0,c.has⟩) m'=rowOf (cw w m' (put ⟨c.name,true,-1,0,ZK (c.out + 16),c.use⟩ (rowOf w m'))) m':=rfl;rw [hrow,Qr h2];have h4:=Ze3 (w:=sent (cw w m' (put ⟨c.name,true,-1,0,ZK (c.out + 16),c.use⟩ (rowOf w m'))) ⟨2,c.from_,n,0,c.has⟩) (m:=m') (n:=n) (by show m' < (cw _ _ _).cells.length;rw [Ya];exact hm) h3 h2;have h5:=ZpY (w:=cw w m' (put ⟨c.name,true,-1,0,ZK (c.out + 16),c.use⟩ (rowOf w m'))) ⟨2,c.from_,n,0,c.has⟩;simp only [Jc,if_pos hf',if_neg (by omega:¬ (-1:Int) >=0)] at h1;have:wt ⟨2,c.from_,n,0,c.has⟩=1:=rfl;omega
  ·rw [cond_true];have h1:=hmp (d:= ⟨c.name,c.root,c.from_,c.has,ZK (c.out - x.w),c.use⟩) L.nam;obtain⟨h2,h3⟩:=hcw (d:= ⟨c.name,c.root,c.from_,c.has,ZK (c.out - x.w),c.use⟩) L.nam;have h4:=Ze3 (by rw [Ya];exact hm) h3 h2;simp only [Jc] at h1;omega
 ·rw [cond_true];have hw2:wt x=2:=by unfold wt;rw [if_pos (by simpa using k1)]
  cases g1:((!c.root && (c.from_==-1)) && (x.via !=x.Zw))
  ·rw [cond_false];cases g2:((!c.root && decide (c.from_ >=0)) && (c.from_==x.via))
   ·rw [cond_false];unfold Xe;have h1:=hmp (d:= ⟨c.name,c.root,c.from_,c.has,c.out,true⟩) L.nam;simp only [Jc] at h1;cases (x.via != (m':Int))
    ·rw [cond_false,Ug hm hsrt (by exact L.nam),Zze,Qn hm,ZpL hsrt (by rfl)];have h6:=hmp (d:= ⟨c.name,c.root,c.from_,c.has,ZK (c.out - x.w),true⟩) L.nam;simp only [Jc] at h6;dsimp only at h6 ⊢;omega
    ·rw [cond_true,ZpY];have:wt ⟨2,x.via,n,0,x.w⟩=1:=rfl;omega
   ·rw [cond_true];have h1:=hmp (d:= ⟨c.name,c.root,c.from_,ZK (c.has + x.w),c.out,true⟩) L.nam;simp only [Jc] at h1;omega
  ·rw [cond_true];have h1:=hmp (d:= ⟨c.name,c.root,x.via,x.w,c.out,true⟩) L.nam;simp at g1;simp only [Jc,g1.1.2,if_neg (by omega:¬ (-1:Int) >=0)] at h1;have:(if x.via >=0 then 1 else 0) <=1:=by split <;> omega
   omega
theorem ZzV {k:Nat} {x:Zd} (hk:w.notes[k]? =some x):mu (QZ w k) + wt x=mu w:=by
 obtain⟨hkl,hkx⟩:=List.getElem?_eq_some_iff.1 hk
 have K9:w.notes=w.notes.take k ++ x::w.notes.drop (k + 1):=by
  rw [← hkx,← List.drop_eq_getElem_cons hkl,List.take_append_drop]
 unfold mu QZ;show _ + wts (w.notes.take k ++ w.notes.drop (k + 1)) + wt x=_ + wts w.notes
 conv=>rhs;rw [K9]
 rw [ZgD,ZgD];simp only [wts];have:Za6 (fun m=>Kq (rowOf {cells:=w.cells,notes:=w.notes.take k ++ w.notes.drop (k + 1),names:=w.names,freed:=w.freed} m)) w.cells.length=Za6 (fun m=>Kq (rowOf w m)) w.cells.length:=rfl;show Za6 (fun m=>Kq (rowOf w m)) w.cells.length + _ + _=Za6 (fun m=>Kq (rowOf w m)) w.cells.length + _;omega
theorem K3 (R:Rt w) {k:Nat} {x:Zd} (hk:w.notes[k]? =some x):mu (XC (QZ w k) x) + 1 <=mu w:=by
 have h1:=Zvf (Zkp R hk).1;have h2:=ZzV hk;omega
theorem ZhA (R:Rt w):mu w <=232:=by
 have h1:wts w.notes <=2 * w.notes.length:=by
  induction w.notes with
  | nil=>simp [wts]
  | cons x l ih=>simp only [wts,List.length_cons];unfold wt;split <;> omega
 have h2:∀ k,k <=w.cells.length ->Za6 (fun m=>Kq (rowOf w m)) k <=12 * k:=by
  intro k
  induction k with
  | zero=>intro _;simp [Za6]
  | succ k ih=>
    intro hk;have:=ih (by omega);have h3:=Szd.Zba R.n12 (R.Yr k (by omega)) (R.names k (by omega));have h4:Kq (rowOf w k) <= (rowOf w k).length:=List.countP_le_length;simp only [Za6];omega
 have:=h2 _ (Nat.le_refl _);have:=R.c6;have:=R.KC;unfold mu;omega
end
end Go.Proofs.Ytekpjgmhkkjhgaa
end
section
namespace Go.Proofs.Ytekpjgmhkkjhgaa
open Go.Lf
section
variable {w:Za} {n:Int} {st:Store} {F:Nat}
def ZbN:Nat ->Za ->Nat ->Za×Int×Int
 | 0,w,n=>(w,n,0)
 | k + 1,w,n=>match w.notes with
   | []=>(w,n,0)
   | x::_=>ZbN k (XC (QZ w 0) x) (n + 1)
def ZpK (w:Za):Za×Int×Int:=bif KL w then ZbN 300 w 0 else(Zg8,0,2)
theorem Zhp (hF:1000 <=F):∀ (k n F':Nat) (w:Za) (st:Store),Rt w ->Qg w st ->UK st.cells ->mu w <=k ->k < F' ->n + k < 100000 ->loop F' (Zif F) ((n:Int),st.machines,st.names,st.cells,st.notes,st.freed)=some (ZbN k w n):=by
 intro k
 induction k with
 | zero=>
   intro n F' w st R so u hm hF' hn;obtain⟨F',rfl⟩:=Nat.exists_eq_succ_of_ne_zero (n:=F') (by omega)
   have h0:w.notes= []:=by
    cases hx:w.notes with
    | nil=>rfl
    | cons x l=>
      exfalso;have:=K3 R (k:=0) (x:=x) (by rw [hx];rfl);omega
   rw [Yh];simp only [Zif,ZbN];rw [so.notes,h0];rw [show decide ((([]:List Zd).length:Int) > 0)=false from rfl,cond_false];rw [← h0,← so.notes,R.shut hF so];rfl
 | succ k ih=>
   intro n F' w st R so u hm hF' hn;obtain⟨F',rfl⟩:=Nat.exists_eq_succ_of_ne_zero (n:=F') (by omega);rw [Yh];simp only [Zif,ZbN];rw [so.notes];cases hx:w.notes with
   | nil=>
     rw [show decide ((([]:List Zd).length:Int) > 0)=false from rfl,cond_false];dsimp only;rw [← hx,← so.notes,R.shut hF so];rfl
   | cons x l=>
     have h0:w.notes[0]? =some x:=by rw [hx];rfl
     have hl:=K3 R h0;obtain⟨r1,r2,r3⟩:=ZnA R h0;have hxm:x ∈ w.notes:=by rw [hx];simp
     have hxB:=KD (R.U9 hxm);have hm':x.Zw.toNat < w.cells.length:=by omega
     have hrow:=Szd.Zba R.n12 (R.Yr _ hm') (R.names _ hm');have hnl:=R.KC;have hout:QZ w 0= ⟨w.cells,l,w.names,w.freed⟩:=by unfold QZ;rw [hx];rfl
     have so':Qg (QZ w 0) ⟨st.machines,st.names,st.cells,l,st.freed⟩:= ⟨so.m,so.n,by rw [hout],so.freed,so.cells⟩
     obtain⟨st',q1,q2,q3⟩:=Zis (F:=F) (by omega) so' u (Zjs R.small 0) (m:=x.Zw.toNat) hm' (by show(rowOf w _).length < 900;omega) (by unfold QZ;simp;omega) x (by omega) (R.Yr _ hm') (R.ZqJ hm' _) (Zpl R.fr) (R.ZhW ⟨_,hxB.2.1⟩);have hlen:(x::l).length <=80:=by rw [← hx];exact hnl
     have hg:Yg (x::l) 0=some x:=rfl
     have hs:slL (x::l) 1 ((x::l).length:Int)=some l:=by
      have:=Ka (xs:=x::l) (a:=1) (b:= (x::l).length) (by simp) (Nat.le_refl _);rw [List.take_length] at this;exact this
     rw [decide_eq_true (by simp),cond_true,hg,Option.bind_some,hs,Option.bind_some,q1,Option.bind_some,Xp (by omega)];exact ih (n + 1) F' _ st' r1 q2 q3 (by omega) (by omega) (by omega)
theorem Zre (hF:1000 <=F) (sm:Small w):ZuT F w=some (ZpK w):=by
 unfold ZuT ZpK;rw [Zqn hF sm,Option.bind_some];cases hr:KL w
 ·rfl
 ·have R:=Rt.of hr;have:=ZhA R;obtain⟨st,o1,o2,o3⟩:=R.open_ hF;rw [Bool.not_true,cond_false,cond_true,o1,Option.bind_some];exact Zhp hF 300 0 F w st R o2 o3 (by omega) (by omega) (by omega)
end
end Go.Proofs.Ytekpjgmhkkjhgaa
end
section
namespace Go.Proofs.Ytekpjgmhkkjhgaa
open Go.Lf
structure U8 (a:ZaE):Prop where
 ud:0 <=a.ZX∧a.ZX <=255
 ua:0 <=a.at_∧a.at_ <=255
 un:0 <=a.name∧a.name <=255
 ut:0 <=a.Zw∧a.Zw <=255
theorem Kk {a b:Int} (h0:0 <=a) (hb:0 < b):Zdp a b=some (a % b)∧0 <=a % b∧a % b < b:=by
 refine⟨?_,Int.emod_nonneg _ (by omega),Int.emod_lt_of_pos _ hb⟩;unfold Zdp;have:(b==0)=false:=by simp;omega
 rw [this,cond_false,Int.tmod_eq_emod_of_nonneg h0]
structure ZiK (d:Zn) (M nm nt:Int):Prop where
 form:QI d M=true
 make:d.ZX=1 ->nm < 12
 name:d.ZX=2∨d.ZX=3∨d.ZX=4 ->0 <=d.name∧d.name < nm
 note:d.ZX=5 ->0 <=d.at_∧d.at_ < nt
 kind:d.ZX=1∨d.ZX=2∨d.ZX=3∨d.ZX=4∨d.ZX=5
theorem ZxP {a:ZaE} (u:U8 a) {M nm nt:Int} (hM:1 <=M∧M <=6) (hn:0 <=nm∧nm <=12) (ht:0 <=nt∧nt <=1000):∃ d b,ZuO a M nm nt=some (d,b)∧(b=true ->ZiK d M nm nt):=by
 obtain⟨⟨d0,d1⟩,⟨a0,a1⟩,⟨n0,n1⟩,⟨t0,t1⟩⟩:=u;unfold ZuO;rw [YM (n:=a.at_) (by omega) (by omega),YM (n:=a.name) (by omega) (by omega)];obtain⟨e1,at0,at1⟩:=Kk (a:=a.at_) (b:=M) a0 (by omega);rw [e1,Option.bind_some];obtain⟨at_,hat⟩:∃ x,a.at_ % M=x:= ⟨_,rfl⟩
 rw [hat] at at0 at1 ⊢
 have ZE7:∀ (name Zw k:Int) (c:Bool),(0 < nm ->0 <=name∧name < nm) ->(1 < M ->(0 <=Zw∧Zw < M)∧Zw ≠ at_) ->(c=true∨c=false) ->∃ d b,Zfr a M nm nt at_ name Zw k c=some (d,b)∧(b=true ->ZiK d M nm nt):=by
  intro name Zw k c hnm hto _;unfold Zfr;cases c
  ·simp only [cond_false];cases h3:(k==3)
   ·simp only [cond_false];cases h4:(k==4)
    ·simp only [cond_false];cases h0:(nt==0)
     ·simp only [cond_false];rw [YM (n:=a.at_) (by omega) (by omega)]
      have hnt:0 < nt:=by have:nt ≠ 0:=by simpa using h0
                          omega
      obtain⟨e2,b0,b1⟩:=Kk (a:=a.at_) (b:=nt) a0 hnt;rw [e2,Option.bind_some];refine⟨_,_,rfl,fun _=>⟨?_,fun z=>(by cases z),fun z=>(by rcases z with z | z | z <;> cases z),fun _=>⟨b0,b1⟩,.inr (.inr (.inr (.inr rfl)))⟩⟩;unfold QI;simp [b0]
     ·simp only [cond_true];exact⟨_,_,rfl,fun z=>by cases z⟩
    ·simp only [cond_true];refine⟨_,_,rfl,fun z=>?_⟩;simp at z;have h1:=hnm (by omega);have h2:=hto (by omega);refine⟨?_,fun z=>(by cases z),fun _=>h1,fun z=>(by cases z),.inr (.inr (.inr (.inl rfl)))⟩;unfold QI;simp;refine⟨⟨⟨at0,at1⟩,h2.1⟩,fun e=>h2.2 e.symm,h1.1⟩
   ·simp only [cond_true];refine⟨_,_,rfl,fun z=>?_⟩;simp at z;have h1:=hnm (by omega);refine⟨?_,fun z=>(by cases z),fun _=>h1,fun z=>(by cases z),.inr (.inr (.inl rfl))⟩;unfold QI;simp;exact⟨⟨at0,at1⟩,h1.1⟩
  ·simp only [cond_true];refine⟨_,_,rfl,fun z=>?_⟩;simp at z;have h1:=hnm (by omega);have h2:=hto (by omega);refine⟨?_,fun z=>(by cases z),fun _=>h1,fun z=>(by cases z),.inr (.inl rfl)⟩;unfold QI;simp;refine⟨⟨⟨at0,at1⟩,h2.1⟩,fun e=>h2.2 e.symm,h1.1⟩
 have ZE8:∀ (name Zw:Int),(0 < nm ->0 <=name∧name < nm) ->(1 < M ->(0 <=Zw∧Zw < M)∧Zw ≠ at_) ->∃ d b,Zfs a M nm nt at_ name Zw=some (d,b)∧(b=true ->ZiK d M nm nt):=by
  intro name Zw hnm hto;unfold Zfs;obtain⟨e2,b0,b1⟩:=Kk (a:=a.ZX) (b:=9) d0 (by omega);rw [e2,Option.bind_some];cases h0:(a.ZX % 9==0)
  ·simp only [cond_false];cases h1:(a.ZX % 9==1)
   ·simp only [cond_false];exact ZE7 name Zw _ _ hnm hto (by cases (a.ZX % 9==2) <;> simp)
   ·simp only [cond_true];exact ZE7 name Zw _ _ hnm hto (.inl rfl)
  ·simp only [cond_true];refine⟨_,_,rfl,fun z=>?_⟩;simp at z;refine⟨?_,fun _=>z,fun z=>(by rcases z with z | z | z <;> cases z),fun z=>(by cases z),.inl rfl⟩;unfold QI;simp;exact⟨at0,at1⟩
 have ZE9:∀ (name:Int),(0 < nm ->0 <=name∧name < nm) ->∃ d b,Zft a M nm nt at_ name=some (d,b)∧(b=true ->ZiK d M nm nt):=by
  intro name hnm;unfold Zft;cases h1:decide (M > 1)
  ·rw [cond_false];exact ZE8 name 0 hnm (fun z=>by simp at h1;omega)
  ·rw [cond_true,YM (n:=a.Zw) (by omega) (by omega),YM (n:=M - 1) (by omega) (by omega)];have hM1:1 < M:=by simpa using h1
   obtain⟨e2,b0,b1⟩:=Kk (a:=a.Zw) (b:=M - 1) t0 (by omega);rw [e2,Option.bind_some,YM (n:=at_ + 1) (by omega) (by omega),YM (n:=at_ + 1 + a.Zw % (M - 1)) (by omega) (by omega)];obtain⟨e3,c0,c1⟩:=Kk (a:=at_ + 1 + a.Zw % (M - 1)) (b:=M) (by omega) (by omega);rw [e3,Option.bind_some];refine ZE8 name _ hnm fun _=>⟨⟨c0,c1⟩,?_⟩
   by_cases hlt:at_ + 1 + a.Zw % (M - 1) < M
   ·rw [Int.emod_eq_of_lt (by omega) hlt];omega
   ·have:(at_ + 1 + a.Zw % (M - 1)) % M=at_ + 1 + a.Zw % (M - 1) - M:=by
     rw [← Int.sub_emod_right,Int.emod_eq_of_lt (by omega) (by omega)]
    rw [this];omega
 cases h0:decide (nm > 0)
 ·rw [cond_false];exact ZE9 0 (fun z=>by simp at h0;omega)
 ·rw [cond_true];obtain⟨e2,b0,b1⟩:=Kk (a:=a.name) (b:=nm) n0 (by simpa using h0);rw [e2,Option.bind_some];exact ZE9 _ (fun _=>⟨b0,b1⟩)
section
variable {w:Za} {F:Nat}
theorem UW {α:Type} {F:Nat} {l:List α} (hl:l.length < 1000) (hF:1000 <=F) (body:Int ->(Int ->Option Bool) ->Option Bool) (h1:∀ (k:Nat) y next,l[k]? =some y ->body (k:Int) next=next (ZK ((k:Int) + 1))) (h2:∀ next,body (l.length:Int) next=some true):loop F body 0=some true:=by
 refine(Xg l (fun v (_:Unit)=>v) body (fun _ _ _ next=>next ()) (fun _=>some true) (by omega) (fun k y q next hy hk=>h1 k y _ hy) (fun q next=>h2 next) (by omega) ()).trans ?_;rw [(JQ (fun _ _ s=>s) (fun _ _=>True) trivial (fun _ _ _ _ _ _=>⟨rfl,trivial⟩)).1]
theorem ZjA (hF:1000 <=F) {l:List Int} (hl:l.length < 1000):Zo3 F l l=some true:=by
 unfold Zo3;rw [show((l.length:Int) != (l.length:Int))=false by simp,cond_false];refine UW hl hF _ (fun k y next hy=>?_) (fun next=>?_)
 ·have hk:= (List.getElem?_eq_some_iff.1 hy).1;simp only [Zlf,Z0,hy,Option.bind_some];rw [decide_eq_true (by omega),cond_true];simp
 ·simp only [Zlf];rw [decide_eq_false (by omega),cond_false]
def JI (p:Int):Za:= ⟨List.replicate (1 + p % 6).toNat [],[],0,[]⟩
theorem Zm3 {p:Int} (h:0 <=p):Rt (JI p)∧(JI p).cells.length= (1 + p % 6).toNat:=by
 have:=Int.emod_nonneg p (b:=6) (by decide);have:=Int.emod_lt_of_pos p (b:=6) (by decide);exact⟨ZpZ ⟨by omega,by omega⟩,by unfold JI;simp⟩
theorem ZmB (hF:1000 <=F) {p:Int} (h0:0 <=p) (h1:p <=255) (l:List ZaE):ZrW F p l= (slL l 0 (if 120 < (l.length:Int) then 120 else(l.length:Int))).bind fun z=>loop F (ZdL F z) (0,[],[],(JI p).cells,(JI p).notes,(JI p).names,(JI p).freed):=by
 unfold ZrW;rw [YM (n:=p) (by omega) (by omega)];obtain⟨e1,b0,b1⟩:=Kk (a:=p) (b:=6) h0 (by omega);rw [e1,Option.bind_some,YM (n:=1 + p % 6) (by omega) (by omega),Zrn hF]
 have hm:Zp0 (1 + p % 6)= (JI p,0):=by
  unfold Zp0;have:(decide (1 <=1 + p % 6) && decide (1 + p % 6 <=6))=true:=by simp;omega
  rw [this];rfl
 rw [hm];have hlen:((JI p).cells.length:Int)=1 + p % 6:=by rw [(Zm3 h0).2];omega
 simp only [Option.bind_some,bne_self_eq_false,Bool.not_false,ZcK,hlen,Bool.or_self,cond_false];rw [YM (n:=1 + p % 6) (by omega) (by omega)];simp only [bne_self_eq_false,Bool.or_self,cond_false]
theorem Zv7 {α:Type} (l:List α) (N:Nat):slL l 0 (if(N:Int) < (l.length:Int) then(N:Int) else(l.length:Int))=some (l.take N):=by
 by_cases h:N < l.length
 ·rw [if_pos (by omega)];have:=Ka (xs:=l) (a:=0) (b:=N) (by omega) (by omega);rw [List.drop_zero] at this;exact this
 ·rw [if_neg (by omega)];have:=Ka (xs:=l) (a:=0) (b:=l.length) (by omega) (Nat.le_refl _);rw [List.drop_zero,List.take_length] at this;rw [List.take_of_length_le (by omega)];exact this
theorem ZqH {d:Zn} (R:Rt w) (hf:QI d w.cells.length=true):doW w d=stepW w d:=by
 unfold doW;rw [R.right,hf];rfl
end
end Go.Proofs.Ytekpjgmhkkjhgaa
end
section
namespace Go.Proofs.Ytekpjgmhkkjhgaa
open Go.Lf
def gives (l:List Zd):List YI:= (l.filter fun x=>x.kind==1).map fun x=>⟨x.Zw,x.name⟩
def Uses (w:Za) (s:YI):Prop:=∃ c,YO w s.name s.at_=some c∧c.use=true
structure Fits (w:Za) (m:Model):Prop where
 mem:∀ s,s ∈ m.uses↔Uses w s
 nd:m.uses.Nodup
 ways:m.ways=gives w.notes
theorem QJ (x y:YI):KX x y=decide (x=y):=by
 obtain⟨a,b⟩:=x;obtain⟨c,d⟩:=y;unfold KX;by_cases h:a=c
 ·by_cases k:b=d
  ·simp [h,k]
  ·simp [h,k]
 ·simp [h]
theorem Wv {F:Nat} (hF:1000 <=F) {l:List YI} (hl:l.length < 1000) (x:YI):Zi2 F l x=some (decide (x ∈ l)):=by
 unfold Zi2 Zxu
 have e:=Xg l (fun v (_:Unit)=>v) (Zfm l x) (fun k y s next=>bif KX x y then some (k:Int) else next ()) (fun _=>some (-1)) (by omega) (fun k y s next hy hk=>by
  simp only [Zfm,Z0,hy,hk,decide_true,Option.bind_some,cond_true]) (fun s next=>by simp [Zfm]) (by omega:l.length < F) ()
 rw [show loop F (Zfm l x) 0=_ from e];rcases Ze9 (l:=l) (i:=0) (s:= ()) (d:=fun _=>some (-1)) (g:=fun k (y:YI) (_:Unit) next=>bif KX x y then some (k:Int) else next ()) (fun k=>some (k:Int)) (fun c=>KX x c) (fun _ _ _ _=>rfl) with⟨j,y,h1,h2,h3⟩ | ⟨h1,h2⟩
 ·rw [h3,Option.bind_some];have hy:=List.find?_some h1;rw [QJ,decide_eq_true_eq] at hy;have:x ∈ l:=by rw [hy];exact List.mem_of_find?_eq_some h1
  rw [decide_eq_true this,decide_eq_true (by omega)]
 ·rw [h2,Option.bind_some]
  have:¬ x ∈ l:=by
   intro hx;rw [List.find?_eq_none] at h1;have:=h1 x hx;rw [QJ] at this;simp at this
  rw [decide_eq_false this];rfl
theorem Zrc {F:Nat} (hF:1000 <=F) {l:List YI} (hl:l.length < 1000):ZrQ F l l=some true:=by
 unfold ZrQ;rw [show((l.length:Int) != (l.length:Int))=false by simp,cond_false];refine UW hl hF _ (fun k y next hy=>?_) (fun next=>?_)
 ·have hk:= (List.getElem?_eq_some_iff.1 hy).1;simp only [Zk0,Z0,hy,Option.bind_some];rw [decide_eq_true (by omega),cond_true,QJ];simp
 ·simp only [Zk0];rw [decide_eq_false (by omega),cond_false]
section
variable {w:Za} {m:Model} {F:Nat}
theorem KN {n:Int} (h:Yj w n=true):(w.freed.any fun y=>y==n)=false:=by
 unfold Yj at h;rw [Bool.and_eq_true,Bool.not_eq_true'] at h;exact h.2
def ZeP (w:Za) (k:Nat):List YI:= ((rowOf w k).filter fun c=>c.use).map fun c=>⟨(k:Int),c.name⟩
def Za8 (w:Za):Nat ->List YI | 0=>[] | k + 1=>Za8 w k ++ ZeP w k
theorem Zhj (R:Rt w) {k:Nat} (hk:k < w.cells.length) (s:YI):s ∈ ZeP w k↔s.at_= (k:Int)∧Uses w s:=by
 unfold ZeP;rw [List.mem_map]
 constructor
 ·rintro⟨c,hc,rfl⟩;rw [List.mem_filter] at hc;exact⟨rfl,c,R.ZfK hk hc.1,hc.2⟩
 ·rintro⟨h1,c,h2,h3⟩;obtain⟨a,b⟩:=s;dsimp only at h1 h2;subst h1;rw [Jp hk] at h2;have hn:=Qt h2;exact⟨c,List.mem_filter.2 ⟨Zbo (show UL (rowOf w k) b=some c from h2),h3⟩,by rw [hn]⟩
theorem Zrd (R:Rt w) {k:Nat} (hk:k < w.cells.length):(ZeP w k).Nodup:=by
 unfold ZeP;rw [List.nodup_iff_pairwise_ne,List.pairwise_map];refine List.Pairwise.imp ?_ (List.Pairwise.filter _ (R.Yr k hk));intro a b h e;have:a.name=b.name:=congrArg YI.name e;omega
theorem Zdm (R:Rt w):∀ k,k <=w.cells.length ->∀ s:YI,s ∈ Za8 w k↔(0 <=s.at_∧s.at_ < (k:Int))∧Uses w s
 | 0,_,s=>by simp [Za8];omega
 | k + 1,hk,s=>by
   unfold Za8;rw [List.mem_append,Zdm R k (by omega),Zhj R (by omega)]
   constructor
   ·rintro(⟨h1,h2⟩ | ⟨h1,h2⟩)
    ·exact⟨by omega,h2⟩
    ·exact⟨by omega,h2⟩
   ·rintro⟨h1,h2⟩;by_cases e:s.at_= (k:Int)
    ·exact .inr ⟨e,h2⟩
    ·exact .inl ⟨by omega,h2⟩
theorem Zjq (R:Rt w):∀ k,k <=w.cells.length ->(Za8 w k).Nodup
 | 0,_=>List.nodup_nil
 | k + 1,hk=>by
   unfold Za8;rw [List.nodup_append];refine⟨Zjq R k (by omega),Zrd R (by omega),fun a ha b hb e=>?_⟩;subst e;have h1:= ((Zdm R k (by omega) a).1 ha).1;have h2:= ((Zhj R (by omega) a).1 hb).1;omega
theorem Uses.range {s:YI} (h:Uses w s):0 <=s.at_∧s.at_ < (w.cells.length:Int):=by
 obtain⟨c,h1,_⟩:=h;exact(Qe h1).1
theorem Fits.len (R:Rt w) (f:Fits w m):m.uses.length= (Za8 w w.cells.length).length:=by
 refine List.Perm.length_eq ((List.perm_ext_iff_of_nodup f.nd (Zjq R _ (Nat.le_refl _))).2 fun s=>?_);rw [f.mem,Zdm R _ (Nat.le_refl _)];exact⟨fun h=>⟨h.range,h⟩,fun h=>h.2⟩
def Zdh (w:Za):Nat ->Nat | 0=>0 | k + 1=>Zdh w k + (rowOf w k).countP fun c=>c.use
theorem Zdn (w:Za):∀ k,(Za8 w k).length=Zdh w k
 | 0=>rfl
 | k + 1=>by
   unfold Za8 Zdh;rw [List.length_append,Zdn w k];unfold ZeP;rw [List.length_map,List.countP_eq_length_filter]
theorem ZeM (R:Rt w):∀ k,k <=w.cells.length ->Zdh w k <=12 * k
 | 0,_=>by simp [Zdh]
 | k + 1,hk=>by
   have h1:=ZeM R k (by omega);have h2:=Szd.Zba R.n12 (R.Yr k (by omega)) (R.names k (by omega));have h3:(rowOf w k).countP (fun c=>c.use) <= (rowOf w k).length:=List.countP_le_length;unfold Zdh;omega
theorem Fits.small (R:Rt w) (f:Fits w m):m.uses.length <=72∧m.ways.length <=80:=by
 have h1:=ZeM R w.cells.length (Nat.le_refl _);have:=R.c6;refine⟨by rw [f.len R,Zdn];omega,?_⟩;rw [f.ways];unfold gives;rw [List.length_map];exact Nat.le_trans (List.length_filter_le _ _) R.KC
theorem Uses.name {s:YI} (R:Rt w) (h:Uses w s):Yj w s.name=true:=by
 obtain⟨c,h1,_⟩:=h;exact(R.rx.1.cn _ _ _ h1).1
theorem ZkW (hF:1000 <=F) (R:Rt w) (f:Fits w m):Zo0 F m w=some true:=by
 have sm:=R.small;have hc:=sm.cells;have hno:=sm.notes;obtain⟨hu,hw⟩:=f.small R;have hn0:=R.n0;have ZLw:=R.n12;have hnt:=R.KC;unfold Zo0;have hb:(decide (w.names < 0) || decide (w.names > 12))=false:=by simp;omega
 rw [hb,cond_false]
 have l4:∀ z:List YI,z=m.uses ++ m.ways ->loop F (Zib F m w (gives w.notes) (m.uses.length:Int) z) 0=some true:=by
  intro z hz;have hzl:z.length < 1000:=by rw [hz,List.length_append];omega
  have hzf:∀ s ∈ z,(w.freed.any fun y=>y==s.name)=false:=by
   intro s hs;rw [hz] at hs;rcases List.mem_append.1 hs with h | h
   ·exact KN (((f.mem s).1 h).name R)
   ·rw [f.ways] at h;unfold gives at h;rw [List.mem_map] at h;obtain⟨x,hx,rfl⟩:=h;exact KN (R.nn x (List.mem_filter.1 hx).1)
  refine UW hzl hF _ (fun k y next hy=>?_) (fun next=>?_)
  ·have hk:= (List.getElem?_eq_some_iff.1 hy).1;simp only [Zib,Z0,hy,Option.bind_some];rw [decide_eq_true (by omega),cond_true,contains_eq hF sm.freed,hzf y (List.mem_of_getElem? hy)];rfl
  ·simp only [Zib];rw [decide_eq_false (by omega),cond_false,f.ways,Zrc hF (by rw [← f.ways];omega)];simp [gd]
 have l3:loop F (Zic F m w (gives w.notes) (m.uses.length:Int)) 0=some true:=by
  refine UW hno hF _ (fun k y next hy=>?_) (fun next=>?_)
  ·have hk:= (List.getElem?_eq_some_iff.1 hy).1;simp only [Zic,Z0,hy,Option.bind_some];rw [decide_eq_true (by omega),cond_true,contains_eq hF sm.freed,KN (R.nn y (List.mem_of_getElem? hy))];rfl
  ·simp only [Zic];unfold Zo2;rw [decide_eq_false (by omega),cond_false,XD (by simp only [List.length_nil];omega) (by decide)];simp only [Option.bind_some,List.nil_append];rw [XD (by omega) (by decide),Option.bind_some,l4 _ rfl]
 have l2:∀ (k:Nat) (cnt:Nat) (next:Int×Int ->Option Bool),k < w.cells.length ->cnt <=100 ->loop F (Zfu F m w (k:Int) next (rowOf w k)) ((cnt:Int),0)=next (((cnt + (rowOf w k).countP (fun c=>c.use):Nat):Int),ZK ((k:Int) + 1)):=by
  intro k cnt next hk hcnt;have hr:=Szd.Zba R.n12 (R.Yr k hk) (R.names k hk);refine(Xg (rowOf w k) (fun v (s:Int)=>(s,v)) (Zfu F m w (k:Int) next (rowOf w k)) (fun _ c s nx=>nx (bif c.use then ZK (s + 1) else s)) (fun s=>next (s,ZK ((k:Int) + 1))) (by omega) (fun j c s nx hj hjk=>?_) (fun s nx=>?_) (by omega) (cnt:Int)).trans ?_
  ·have hcm:=List.mem_of_getElem? hj;have hcv:=R.ZfK hk hcm;simp only [Zfu,Z0,hj,hjk,decide_true,cond_true,Option.bind_some];rw [contains_eq hF sm.freed,KN (R.cn k hk c hcm).1,Option.bind_some,cond_false];cases hcu:c.use
   ·simp only [cond_false];rfl
   ·simp only [cond_true];have hmem:(⟨(k:Int),c.name⟩:YI) ∈ m.uses:= (f.mem _).2 ⟨c,hcv,hcu⟩;rw [Wv hF (by omega),decide_eq_true hmem];rfl
  ·simp only [Zfu];rw [decide_eq_false (by omega),cond_false]
  ·rw [(JQ (fun _ (c:Zb) (s:Int)=>bif c.use then ZK (s + 1) else s) (fun _ _=>True) trivial (fun _ _ _ _ _ _=>⟨rfl,trivial⟩)).1];rw [UD];have:=Ziq (fun c:Zb=>c.use) (rowOf w k) cnt (by omega);rw [this]
 have l1:∀ (d k F':Nat),k + d=w.cells.length ->d < F' ->loop F' (ZdJ F m w (gives w.notes)) ((Zdh w k:Int),(k:Int))=some true:=by
  intro d
  induction d with
  | zero=>
    intro k F' hk hF';obtain⟨F',rfl⟩:=Nat.exists_eq_succ_of_ne_zero (n:=F') (by omega);have:k=w.cells.length:=by omega
    subst this;rw [Yh];simp only [ZdJ];rw [decide_eq_false (by omega),cond_false,← Zdn,← f.len R,l3]
  | succ d ih=>
    intro k F' hk hF';obtain⟨F',rfl⟩:=Nat.exists_eq_succ_of_ne_zero (n:=F') (by omega);have hlt:k < w.cells.length:=by omega
    have hcn:=ZeM R k (by omega);have:=R.c6;rw [Yh];simp only [ZdJ];rw [decide_eq_true (by omega),cond_true,Z0,QY hlt,Option.bind_some,l2 k _ _ hlt (by omega),Xp (by omega)];exact ih (k + 1) F' (by omega) (by omega)
 have l0:=Xg w.notes (fun v (s:List YI)=>(s,v)) (Zid F m w) (fun _ x s next=>(bif x.kind==1 then app 16 s [⟨x.Zw,x.name⟩] else some s).bind next) (fun s=>loop F (ZdJ F m w s) (0,0)) (by omega) (fun k y s next hy hk=>by
  simp only [Zid,Z0,hy,hk,decide_true,cond_true,Option.bind_some];cases (y.kind==1)
  ·rfl
  ·simp only [cond_true]
   rfl) (fun s next=>by
  simp only [Zid];rw [decide_eq_false (by omega),cond_false]) (by omega:w.notes.length < F) []
 rw [l0]
 obtain⟨e1,e2⟩:=JQ (d:=fun s=>loop F (ZdJ F m w s) (0,0)) (g:=fun(_:Nat) (x:Zd) (s:List YI) next=>(bif x.kind==1 then app 16 s [⟨x.Zw,x.name⟩] else some s).bind next) (fun _ x s=>bif x.kind==1 then s ++ [⟨x.Zw,x.name⟩] else s) (fun i s=>s.length <=i) (l:=w.notes) (i:=0) (s:= []) (Nat.le_refl _) (fun k x s next hx hI=>by
  have hk:= (List.getElem?_eq_some_iff.1 hx).1;cases (x.kind==1)
  ·exact⟨rfl,Nat.le_succ_of_le hI⟩
  ·simp only [cond_true];rw [XD (by simp;omega) (by decide)];exact⟨rfl,by simp;omega⟩)
 rw [e1,UD]
 have hg:∀ (l:List Zd) (s:List YI),l.foldl (fun s x=>bif x.kind==1 then s ++ [⟨x.Zw,x.name⟩] else s) s=s ++ gives l:=by
  intro l
  induction l with
  | nil=>intro s;simp [gives]
  | cons x l ih=>
    intro s;rw [List.foldl_cons,ih];unfold gives;cases hk:(x.kind==1)
    ·rw [List.filter_cons_of_neg (by simp [hk])];rfl
    ·rw [List.filter_cons_of_pos (by simp [hk])];simp
 rw [hg,List.nil_append];exact l1 w.cells.length 0 F (by omega) (by omega)
end
end Go.Proofs.Ytekpjgmhkkjhgaa
end
section
namespace Go.Proofs.Ytekpjgmhkkjhgaa
open Go.Lf
section
variable {w w':Za} {m:Nat} {n:Int} {s:YI}
theorem Kz (hm:m < w.cells.length):(look (rowOf w m) n).use=true↔Uses w ⟨(m:Int),n⟩:=by
 unfold Uses look;rw [Jp hm,Y2];cases h:UL (rowOf w m) n with
 | none=>simp [blank]
 | some c=>simp
theorem Zl6 (U:Upd w w' n) {a:Int} {o:Option Zb} (V:YO w' n=Yv (YO w n) a o) (s:YI):Uses w' s↔if s.name=n∧s.at_=a then(∃ c,o=some c∧c.use=true) else Uses w s:=by
 unfold Uses;by_cases h:s.name=n
 ·rw [h,V];by_cases e:s.at_=a
  ·rw [if_pos ⟨rfl,e⟩,e,Wl]
  ·rw [if_neg (fun z=>e z.2),Zaf e]
 ·rw [if_neg (fun z=>h z.1),U.oc _ h]
theorem ZdZ (hm:m < w.cells.length) (Yr:∀ m,m < w.cells.length ->Uk (rowOf w m)) {d:Zb} (hd:d.name=n) (s:YI):Uses (cw w m (put d (rowOf w m))) s↔if s.name=n∧s.at_= (m:Int) then d.use=true else Uses w s:=by
 obtain⟨U,V,_⟩:=Qh hm Yr hd;rw [Zl6 U V s];simp
theorem ZsI (hm:m < w.cells.length) (Yr:∀ m,m < w.cells.length ->Uk (rowOf w m)) (s:YI):Uses (cw w m (rmv n (rowOf w m))) s↔if s.name=n∧s.at_= (m:Int) then False else Uses w s:=by
 obtain⟨U,V,_⟩:=Zkk (n:=n) hm Yr;rw [Zl6 U V s];simp
theorem Zhi {a b:Int} (h:s.name=b∧s.at_=a):s= ⟨a,b⟩:=by
 obtain⟨x,y⟩:=s;obtain⟨h1,h2⟩:=h;dsimp only at h1 h2;rw [h1,h2]
theorem Ky (hm:m < w.cells.length) (Yr:∀ m,m < w.cells.length ->Uk (rowOf w m)) {d:Zb} (hd:d.name=n) (hu:d.use= (look (rowOf w m) n).use) (s:YI):Uses (cw w m (put d (rowOf w m))) s↔Uses w s:=by
 rw [ZdZ hm Yr hd];by_cases h:s.name=n∧s.at_= (m:Int)
 ·rw [if_pos h,Zhi h,hu,Kz hm]
 ·rw [if_neg h]
theorem Zcy (x:Zd) (s:YI):Uses (sent w x) s↔Uses w s:=Iff.rfl
theorem ZcJ (l:List Zd) (x:Zd):gives (l ++ [x])=gives l ++ (if x.kind=1 then [⟨x.Zw,x.name⟩] else []):=by
 unfold gives;rw [List.filter_append,List.map_append];by_cases h:x.kind=1
 ·rw [if_pos h,List.filter_cons_of_pos (by simp [h])];rfl
 ·rw [if_neg h,List.filter_cons_of_neg (by simp [h])];rfl
theorem ZdG (l:List Zd) {x:Zd} (h:x.kind ≠ 1):gives (l ++ [x])=gives l:=by
 rw [ZcJ,if_neg h,List.append_nil]
theorem Zad (hm:m < w.cells.length) (Yr:∀ m,m < w.cells.length ->Uk (rowOf w m)) {c:Zb} (hc:(look (rowOf w m) n).use=c.use):(∀ s,Uses (YW w m n c) s↔Uses w s)∧gives (YW w m n c).notes=gives w.notes:=by
 unfold YW;cases hu:(c.use || (c.out !=0))
 ·simp only [cond_false];have hcu:c.use=false:=by cases h:c.use;rfl;rw [h] at hu;cases hu
  refine⟨fun s=>?_,?_⟩
  ·refine(show Uses _ s↔Uses (cw w m (rmv n (rowOf w m))) s from Iff.rfl).trans ?_;rw [ZsI hm Yr];by_cases h:s.name=n∧s.at_= (m:Int)
   ·rw [if_pos h,Zhi h,← Kz hm,hc,hcu];simp
   ·rw [if_neg h]
  ·cases c.root
   ·simp only [cond_false];cases decide (c.from_ >=0)
    ·rfl
    ·rw [cond_true];exact ZdG _ (show(2:Int) ≠ 1 by decide)
   ·rfl
 ·exact⟨fun s=>Iff.rfl,rfl⟩
theorem Zj1 (hm:m < w.cells.length) (Yr:∀ m,m < w.cells.length ->Uk (rowOf w m)) (Zw x:Int):(∀ s,Uses (Xe w m n Zw x) s↔Uses w s)∧gives (Xe w m n Zw x).notes=gives w.notes:=by
 unfold Xe;cases (Zw != (m:Int))
 ·rw [cond_false];exact⟨fun s=>Ky hm Yr (n:=n) (d:= {look (rowOf w m) n with out:=ZK ((look (rowOf w m) n).out - x)}) (JP _ _) rfl s,rfl⟩
 ·rw [cond_true];exact⟨fun s=>Zcy _ s,ZdG _ (show(2:Int) ≠ 1 by decide)⟩
theorem ZqO (hm:m < w.cells.length) (Yr:∀ m,m < w.cells.length ->Uk (rowOf w m)) (Zw x:Int):(Xe w m n Zw x).cells.length=w.cells.length∧∀ k,k < w.cells.length ->Uk (rowOf (Xe w m n Zw x) k):=by
 unfold Xe;cases (Zw != (m:Int))
 ·rw [cond_false];obtain⟨U,_,_⟩:=Qh (n:=n) hm Yr (c:= {look (rowOf w m) n with out:=ZK ((look (rowOf w m) n).out - x)}) (JP _ _);exact⟨U.len,U.Yr⟩
 ·rw [cond_true];exact⟨rfl,Yr⟩
theorem Zpe (Yr:∀ m,m < w.cells.length ->Uk (rowOf w m)) {x:Zd} (hx:0 <=x.Zw∧x.Zw < (w.cells.length:Int)):(∀ s,Uses (XC w x) s↔Uses w s∨(x.kind=1∧s= ⟨x.Zw,x.name⟩))∧gives (XC w x).notes=gives w.notes:=by
 obtain⟨m,hmm⟩:∃ m,x.Zw.toNat=m:= ⟨_,rfl⟩
 have hm:m < w.cells.length:=by omega
 have hat:x.Zw= (m:Int):=by omega
 have hln:=JP (rowOf w m) x.name;unfold XC;rw [hmm];dsimp only
 have give:∀ d:Zb,d.name=x.name ->d.use=true ->x.kind=1 ->∀ s,Uses (cw w m (put d (rowOf w m))) s↔Uses w s∨(x.kind=1∧s= ⟨x.Zw,x.name⟩):=by
  intro d hd hu hk s;rw [ZdZ hm Yr hd];by_cases h:s.name=x.name∧s.at_= (m:Int)
  ·rw [if_pos h,hat];exact⟨fun _=>.inr ⟨hk,Zhi h⟩,fun _=>hu⟩
  ·rw [if_neg h];refine⟨.inl,?_⟩;rintro(z | ⟨_,z⟩)
   ·exact z
   ·exact absurd ⟨by rw [z],by rw [z];exact hat⟩ h
 have Ztm:x.kind ≠ 1 ->∀ s,(Uses w s∨(x.kind=1∧s= ⟨x.Zw,x.name⟩))↔Uses w s:=fun hk s=>⟨fun z=>z.elim id fun y=>absurd y.1 hk,.inl⟩
 cases k1:(x.kind==1)
 ·have hk:x.kind ≠ 1:=by simpa using k1
  rw [cond_false]
  have stl:∀ d:Zb,d.name=x.name ->d.use= (look (rowOf w m) x.name).use ->(∀ s,Uses (YW (cw w m (put d (rowOf w m))) m x.name d) s↔Uses w s)∧gives (YW (cw w m (put d (rowOf w m))) m x.name d).notes=gives w.notes:=by
   intro d hd hu;obtain⟨U,_,_⟩:=Qh hm Yr hd;have hm2:m < (cw w m (put d (rowOf w m))).cells.length:=by rw [U.len];exact hm
   obtain⟨a,b⟩:=Zad (n:=x.name) hm2 (fun k hk=>U.Yr k (by rw [← U.len];exact hk)) (c:=d) (by rw [Ug hm (Yr m hm) hd]);exact⟨fun s=>(a s).trans (Ky hm Yr hd hu s),b⟩
  cases k2:(x.kind==2)
  ·rw [cond_false];have hd:(⟨(look (rowOf w m) x.name).name,true,-1,0,ZK ((look (rowOf w m) x.name).out + 16),(look (rowOf w m) x.name).use⟩:Zb).name=x.name:=hln;obtain⟨b,hb⟩:∃ b,cw w m (put ⟨(look (rowOf w m) x.name).name,true,-1,0,ZK ((look (rowOf w m) x.name).out + 16),(look (rowOf w m) x.name).use⟩ (rowOf w m))=b:= ⟨_,rfl⟩
   obtain⟨U,_,_⟩:=Qh hm Yr hd;have ub:=fun s=>Ky hm Yr hd rfl s
   have gb:gives (cw w m (put ⟨(look (rowOf w m) x.name).name,true,-1,0,ZK ((look (rowOf w m) x.name).out + 16),(look (rowOf w m) x.name).use⟩ (rowOf w m))).notes=gives w.notes:=rfl;rw [hb] at U ub gb ⊢;have hm2:m < b.cells.length:=by rw [U.len];exact hm
   have Zn7:∀ k,k < b.cells.length ->Uk (rowOf b k):=fun k hk=>U.Yr k (by rw [← U.len];exact hk)
   cases decide ((look (rowOf w m) x.name).from_ >=0)
   ·simp only [cond_false];obtain⟨a1,a2⟩:=Zad (n:=x.name) hm2 Zn7 (c:=look (rowOf b m) x.name) rfl;exact⟨fun s=>((a1 s).trans (ub s)).trans (Ztm hk s).symm,a2.trans gb⟩
   ·simp only [cond_true];obtain⟨l3,s3⟩:=ZqO hm2 Zn7 (n:=x.name) (look (rowOf w m) x.name).from_ (look (rowOf w m) x.name).has;obtain⟨b1,b2⟩:=Zj1 hm2 Zn7 (n:=x.name) (look (rowOf w m) x.name).from_ (look (rowOf w m) x.name).has;obtain⟨a1,a2⟩:=Zad (n:=x.name) (by rw [l3];exact hm2) (fun k hk=>s3 k (by rw [← l3];exact hk)) (c:=look (rowOf (Xe b m x.name (look (rowOf w m) x.name).from_ (look (rowOf w m) x.name).has) m) x.name) rfl;exact⟨fun s=>(((a1 s).trans (b1 s)).trans (ub s)).trans (Ztm hk s).symm,(a2.trans b2).trans gb⟩
  ·rw [cond_true];obtain⟨a,b⟩:=stl ⟨(look (rowOf w m) x.name).name,(look (rowOf w m) x.name).root,(look (rowOf w m) x.name).from_,(look (rowOf w m) x.name).has,ZK ((look (rowOf w m) x.name).out - x.w),(look (rowOf w m) x.name).use⟩ hln rfl;exact⟨fun s=>(a s).trans (Ztm hk s).symm,b⟩
 ·have hk:x.kind=1:=by simpa using k1
  rw [cond_true];generalize ((!(look (rowOf w m) x.name).root && ((look (rowOf w m) x.name).from_==-1)) && (x.via !=x.Zw))=b1;generalize ((!(look (rowOf w m) x.name).root && decide ((look (rowOf w m) x.name).from_ >=0)) && ((look (rowOf w m) x.name).from_==x.via))=b2;cases b1
  ·simp only [cond_false];cases b2
   ·simp only [cond_false];have hd:(⟨(look (rowOf w m) x.name).name,(look (rowOf w m) x.name).root,(look (rowOf w m) x.name).from_,(look (rowOf w m) x.name).has,(look (rowOf w m) x.name).out,true⟩:Zb).name=x.name:=hln;obtain⟨U,_,_⟩:=Qh hm Yr hd;have hm2:m < (cw w m (put ⟨(look (rowOf w m) x.name).name,(look (rowOf w m) x.name).root,(look (rowOf w m) x.name).from_,(look (rowOf w m) x.name).has,(look (rowOf w m) x.name).out,true⟩ (rowOf w m))).cells.length:=by rw [U.len];exact hm
    obtain⟨a,b⟩:=Zj1 (n:=x.name) hm2 (fun k hk=>U.Yr k (by rw [← U.len];exact hk)) x.via x.w;exact⟨fun s=>(a s).trans (give _ hd rfl hk s),b⟩
   ·simp only [cond_true];exact⟨fun s=>give ⟨(look (rowOf w m) x.name).name,(look (rowOf w m) x.name).root,(look (rowOf w m) x.name).from_,ZK ((look (rowOf w m) x.name).has + x.w),(look (rowOf w m) x.name).out,true⟩ hln rfl hk s,rfl⟩
  ·simp only [cond_true];exact⟨fun s=>give ⟨(look (rowOf w m) x.name).name,(look (rowOf w m) x.name).root,x.via,x.w,(look (rowOf w m) x.name).out,true⟩ hln rfl hk s,rfl⟩
theorem Zfa {l:List Zd} {k:Nat} {x:Zd} (hx:l[k]? =some x):gives (l.take k ++ l.drop (k + 1))= (if x.kind=1 then(gives l).take (gives (l.take k)).length ++ (gives l).drop ((gives (l.take k)).length + 1) else gives l)∧(x.kind=1 ->(gives l)[(gives (l.take k)).length]? =some ⟨x.Zw,x.name⟩):=by
 obtain⟨hk,hkx⟩:=List.getElem?_eq_some_iff.1 hx
 have K9:l=l.take k ++ x::l.drop (k + 1):=by
  rw [← hkx,← List.drop_eq_getElem_cons hk,List.take_append_drop]
 have happ:∀ a b:List Zd,gives (a ++ b)=gives a ++ gives b:=by
  intro a b;unfold gives;rw [List.filter_append,List.map_append]
 have ZDG:∀ b:List Zd,gives (x::b)= (if x.kind=1 then [⟨x.Zw,x.name⟩] else []) ++ gives b:=by
  intro b;have:=happ [x] b;rw [List.singleton_append] at this;rw [this];congr 1;have:=ZcJ [] x;rw [List.nil_append] at this;rw [this];rfl
 have hl:gives l=gives (l.take k) ++ ((if x.kind=1 then [⟨x.Zw,x.name⟩] else []) ++ gives (l.drop (k + 1))):=by
  conv=>lhs;rw [K9]
  rw [happ,ZDG]
 rw [happ];by_cases h:x.kind=1
 ·rw [if_pos h] at hl ⊢;rw [hl];refine⟨?_,fun _=>?_⟩
  ·have key:∀ (A B:List YI) (y:YI),A ++ B= (A ++ ([y] ++ B)).take A.length ++ (A ++ ([y] ++ B)).drop (A.length + 1):=by
    intro A B y;rw [List.take_left,List.drop_append,List.drop_eq_nil_of_le (Nat.le_succ A.length),List.nil_append,Nat.add_sub_cancel_left]
    rfl
   exact key _ _ _
  ·rw [List.getElem?_append_right (Nat.le_refl _),Nat.sub_self];rfl
 ·rw [if_neg h] at hl ⊢;rw [hl];exact⟨rfl,fun z=>absurd z h⟩
theorem ZsJ (k:Nat) (s:YI):Uses (QZ w k) s↔Uses w s:=Iff.rfl
theorem ZcR (R:Rt w) {d:Zn} (hf:QI d w.cells.length=true) (he:YG w d d.at_.toNat=0):
 (d.ZX=1 ->(∀ s,Uses (Z6 w d) s↔Uses w s∨s= ⟨d.at_,w.names⟩)∧gives (Z6 w d).notes=gives w.notes)∧
 (d.ZX=2 ->(∀ s,Uses (Z6 w d) s↔Uses w s)∧gives (Z6 w d).notes=gives w.notes ++ [⟨d.Zw,d.name⟩]∧Uses w ⟨d.at_,d.name⟩)∧
 (d.ZX=3 ->(∀ s,Uses (Z6 w d) s↔Uses w s∧s ≠ ⟨d.at_,d.name⟩)∧gives (Z6 w d).notes=gives w.notes∧Uses w ⟨d.at_,d.name⟩)∧
 (d.ZX=4 ->(∀ s,Uses (Z6 w d) s↔Uses w s)∧gives (Z6 w d).notes=gives w.notes)∧
 (d.ZX=5 ->∃ x,w.notes[d.at_.toNat]? =some x∧(∀ s,Uses (Z6 w d) s↔Uses w s∨(x.kind=1∧s= ⟨x.Zw,x.name⟩))∧gives (Z6 w d).notes= (if x.kind=1 then(gives w.notes).take (gives (w.notes.take d.at_.toNat)).length ++ (gives w.notes).drop ((gives (w.notes.take d.at_.toNat)).length + 1) else gives w.notes)):=by
 have Yr:=R.Yr;unfold Z6;refine⟨fun k=>?_,fun k=>?_,fun k=>?_,fun k=>?_,fun k=>?_⟩
 ·rw [show(d.ZX==1)=true by simp [k],cond_true];rcases YQ hf with⟨_,a⟩ | ⟨z,_⟩ | ⟨z,_⟩ | ⟨z,_⟩
  ·obtain⟨m,hm'⟩:∃ m,d.at_.toNat=m:= ⟨_,rfl⟩
   have hm:m < w.cells.length:=by omega
   have hat:d.at_= (m:Int):=by omega
   rw [hm'];refine⟨fun s=>?_,rfl⟩;refine(show Uses (Zd9 w m) s↔Uses (cw w m (put (Ze1 w) (rowOf w m))) s from Iff.rfl).trans ?_;rw [ZdZ hm Yr (n:=w.names) (d:=Ze1 w) rfl];by_cases h:s.name=w.names∧s.at_= (m:Int)
   ·rw [if_pos h,hat];exact⟨fun _=>.inr (Zhi h),fun _=>rfl⟩
   ·rw [if_neg h];refine⟨.inl,?_⟩;rintro(z | z)
    ·exact z
    ·exact absurd ⟨by rw [z],by rw [z];exact hat⟩ h
  all_goals omega
 ·have b1:(d.ZX==1)=false:=by simp [k]
  have b2:(d.ZX==2)=true:=by simp [k]
  rw [b1,b2,cond_false,cond_true];rcases YQ hf with⟨z,_⟩ | ⟨_,a,t,ne,nm⟩ | ⟨z,_⟩ | ⟨z,_⟩
  ·omega
  ·obtain⟨m,hm'⟩:∃ m,d.at_.toNat=m:= ⟨_,rfl⟩
   have hm:m < w.cells.length:=by omega
   have hat:d.at_= (m:Int):=by omega
   rw [hm'] at he ⊢;obtain⟨c,hc,_,hu⟩:=Qx (by omega) (by omega) he;have hu:=hu (by omega);have hcn:=Qd hc;have hl:=Qr hc;rw [hl];have hus:Uses w ⟨d.at_,d.name⟩:=by rw [hat,← Kz hm,hl];exact hu
   unfold Zd3;cases (decide (c.from_ >=0) && decide (c.has >=2))
   ·rw [cond_false];exact⟨fun s=>(Zcy _ s).trans (Ky hm Yr (n:=d.name) (by exact hcn) (by rw [hl]) s),(ZcJ _ _).trans (by rw [if_pos rfl];rfl),hus⟩
   ·rw [cond_true];exact⟨fun s=>(Zcy _ s).trans (Ky hm Yr (n:=d.name) (by exact hcn) (by rw [hl]) s),(ZcJ _ _).trans (by rw [if_pos rfl];rfl),hus⟩
  all_goals omega
 ·have b1:(d.ZX==1)=false:=by simp [k]
  have b2:(d.ZX==2)=false:=by simp [k]
  have b5:(d.ZX==5)=false:=by simp [k]
  have b3:(d.ZX==3)=true:=by simp [k]
  rw [b1,b2,b5,b3,cond_false,cond_false,cond_false,cond_true];rcases YQ hf with⟨z,_⟩ | ⟨z,_⟩ | ⟨_,a,nm⟩ | ⟨z,_⟩
  ·omega
  ·omega
  ·obtain⟨m,hm'⟩:∃ m,d.at_.toNat=m:= ⟨_,rfl⟩
   have hm:m < w.cells.length:=by omega
   have hat:d.at_= (m:Int):=by omega
   rw [hm'] at he ⊢;obtain⟨c,hc,_,hu⟩:=Qx (by omega) (by omega) he;have hu:=hu (by omega);have hcn:=Qd hc;have hl:=Qr hc;rw [hl];have hus:Uses w ⟨d.at_,d.name⟩:=by rw [hat,← Kz hm,hl];exact hu
   have hdn:(Zap c).name=d.name:=hcn;obtain⟨U,_,_⟩:=Qh hm Yr hdn;have hm2:m < (cw w m (put (Zap c) (rowOf w m))).cells.length:=by rw [U.len];exact hm
   unfold Zgl;obtain⟨a1,a2⟩:=Zad (n:=d.name) hm2 (fun k hk=>U.Yr k (by rw [← U.len];exact hk)) (c:=Zap c) (by rw [Ug hm (Yr m hm) hdn]);refine⟨fun s=>(a1 s).trans ?_,a2,hus⟩;rw [ZdZ hm Yr hdn];by_cases h:s.name=d.name∧s.at_= (m:Int)
   ·rw [if_pos h,hat];refine⟨fun z=>(by cases z),fun z=>absurd (Zhi h) z.2⟩
   ·rw [if_neg h];refine⟨fun z=>⟨z,fun y=>h ⟨by rw [y],by rw [y];exact hat⟩⟩,fun z=>z.1⟩
  ·omega
 ·have b1:(d.ZX==1)=false:=by simp [k]
  have b2:(d.ZX==2)=false:=by simp [k]
  have b5:(d.ZX==5)=false:=by simp [k]
  have b3:(d.ZX==3)=false:=by simp [k]
  rw [b1,b2,b5,b3,cond_false,cond_false,cond_false,cond_false];rcases YQ hf with⟨z,_⟩ | ⟨_,a,t,ne,nm⟩ | ⟨z,_⟩ | ⟨z,_⟩
  ·omega
  ·obtain⟨m,hm'⟩:∃ m,d.at_.toNat=m:= ⟨_,rfl⟩
   have hm:m < w.cells.length:=by omega
   rw [hm'] at he ⊢;obtain⟨c,hc,_,_⟩:=Qx (by omega) (by omega) he;have hcn:=Qd hc;have hl:=Qr hc;rw [hl];unfold goW;exact⟨fun s=>(Zcy _ s).trans (Ky hm Yr (n:=d.name) (by exact hcn) (by rw [hl];rfl) s),ZdG _ (show(3:Int) ≠ 1 by decide)⟩
  all_goals omega
 ·have b1:(d.ZX==1)=false:=by simp [k]
  have b2:(d.ZX==2)=false:=by simp [k]
  have b5:(d.ZX==5)=true:=by simp [k]
  rw [b1,b2,b5,cond_false,cond_false,cond_true]
  have hlt:d.at_.toNat < w.notes.length:=by
   unfold YG at he;rw [b1,b5,cond_false,cond_true] at he;rcases YQ hf with⟨z,_⟩ | ⟨z,_⟩ | ⟨z,_⟩ | ⟨_,z⟩
   ·omega
   ·omega
   ·omega
   ·by_cases h:d.at_ >= (w.notes.length:Int)
    ·rw [decide_eq_true h] at he;cases he
    ·omega
  obtain⟨x,hx⟩:∃ x,w.notes[d.at_.toNat]? =some x:= ⟨_,List.getElem?_eq_getElem hlt⟩
  refine⟨x,hx,?_⟩;rw [hx,Option.getD_some];have hxm:x ∈ w.notes:=List.mem_of_getElem? hx;obtain⟨h,H⟩:=R.rx.1.nm _ (R.nn x hxm);have hto:= (H.KC x (List.mem_append_right _ (List.mem_filter.2 ⟨hxm,by simp⟩))).1;obtain⟨a,b⟩:=Zpe (w:=QZ w d.at_.toNat) Yr hto;exact⟨fun s=>(a s).trans (by rw [ZsJ]),b.trans (Zfa hx).1⟩
end
end Go.Proofs.Ytekpjgmhkkjhgaa
end
section
namespace Go.Proofs.Ytekpjgmhkkjhgaa
open Go.Lf
def less (l:List YI) (t:YI):List YI:=l.filter fun x=>!(KX x t)
theorem ZtI (l:List YI) (t s:YI):s ∈ less l t↔s ∈ l∧s ≠ t:=by
 unfold less;rw [List.mem_filter,QJ];simp
theorem Zu5 {t:YI} {m:Model} {d:Zn} (ht:YI.mk d.at_ d.name=t) (l0:List YI) (hl:l0.length < 1000):∀ (k j i F':Nat) (v:List YI),j + k=l0.length ->k < F' ->i <=j ->v.length=l0.length ->v.take i=less (l0.take j) t ->v.drop j=l0.drop j ->
 loop F' (Zie m d) ((i:Int),(j:Int),v)=some ⟨less l0 t,m.ways⟩:=by
 intro k
 induction k with
 | zero=>
   intro j i F' v hj hF' hij hvl h1 h2;obtain⟨F',rfl⟩:=Nat.exists_eq_succ_of_ne_zero (n:=F') (by omega);have hjl:j=l0.length:=by omega
   rw [Yh];simp only [Zie];rw [decide_eq_false (by omega),cond_false,Ka (by omega) (Nat.le_refl _),Option.bind_some,Int.toNat_natCast];have hl2:((v.take v.length).drop i).length=v.length - i:=by simp
   have e:=Ka (xs:=v.take i ++ List.replicate ((v.take v.length).drop i).length (YI.mk 0 0)) (a:=0) (b:=i) (Nat.zero_le _) (by simp;omega);rw [show((0:Nat):Int)=0 from rfl] at e;rw [e,Option.bind_some,List.drop_zero,List.take_append_of_le_length (by simp;omega),List.take_take,Nat.min_self,h1,hjl,List.take_length]
   rfl
 | succ k ih=>
   intro j i F' v hj hF' hij hvl h1 h2;obtain⟨F',rfl⟩:=Nat.exists_eq_succ_of_ne_zero (n:=F') (by omega);have hlt:j < v.length:=by omega
   have ZDA:j < l0.length:=by omega
   have hx:v[j]? =l0[j]?:=by
    have:=congrArg (fun q=>q[0]?) h2
    simpa using this
   rw [Yh];simp only [Zie];rw [decide_eq_true (by omega),cond_true,Z0,hx,List.getElem?_eq_getElem ZDA,Option.bind_some,ht]
   have htk:less (l0.take (j + 1)) t=less (l0.take j) t ++ (if l0[j]=t then [] else [l0[j]]):=by
    unfold less;rw [List.take_succ,List.getElem?_eq_getElem ZDA,List.filter_append];congr 1;simp only [Option.toList_some,QJ];by_cases h:l0[j]=t
    ·rw [if_pos h,List.filter_cons_of_neg (by simp [h])];rfl
    ·rw [if_neg h,List.filter_cons_of_pos (by simp [h])];rfl
   have hd2:v.drop (j + 1)=l0.drop (j + 1):=by
    have:=congrArg (List.drop 1) h2
    simpa [List.drop_drop,Nat.add_comm] using this
   by_cases h:l0[j]=t
   ·rw [QJ,decide_eq_true h];simp only [Bool.not_true,cond_false];unfold Zfv;rw [Xp (by omega)];exact ih (j + 1) i F' v (by omega) (by omega) (by omega) hvl (by rw [htk,if_pos h,List.append_nil,h1]) hd2
   ·rw [QJ,decide_eq_false h];simp only [Bool.not_false,cond_true];rw [Z0,List.getElem?_eq_getElem (by omega:i < v.length),Option.bind_some];unfold Zfv;rw [Xp (by omega),Xp (by omega)];simp only [Jw,Int.toNat_natCast];refine ih (j + 1) (i + 1) F' _ (by omega) (by omega) (by omega) (by rw [List.length_set];exact hvl) ?_ ?_
    ·rw [htk,if_neg h,← h1,List.take_succ,List.getElem?_set_self (by omega),List.take_set_of_le (Nat.le_refl _)]
     rfl
    ·rw [List.drop_set_of_lt (by omega)];exact hd2
section
variable {w:Za} {m:Model} {F:Nat}
theorem ZxO {l:List YI} {k:Nat} (hk:k < l.length) (hl:l.length < 1000):ZuJ l (k:Int) (ZK ((k:Int) + 1))=some (l.take k ++ l.drop (k + 1)):=by
 unfold ZuJ;have e0:slL l 0 (k:Int)=some ((l.take k).drop 0):=Ka (a:=0) (Nat.zero_le k) (by omega);rw [Xp (by omega),Ka (by omega) (by omega),Option.bind_some,e0,Ka (by omega) (Nat.le_refl _)];have:((k:Int)== ((k + 1:Nat):Int))=false:=by simp;omega
 rw [this,cond_false];simp only [Option.bind_some,List.drop_zero,List.take_length];rw [XD (by simp;omega) (by decide)]
 rfl
theorem Zpq (hF:1000 <=F) (R:Rt w) (f:Fits w m) {d:Zn} (hf:QI d w.cells.length=true) (he:YG w d d.at_.toNat=0):∃ m',Zle F m w d=some m'∧Fits (Z6 w d) m':=by
 obtain⟨hu,hw⟩:=f.small R;obtain⟨D1,D2,D3,D4,D5⟩:=ZcR R hf he;have hnt:=R.KC;unfold Zle
 have kinds:d.ZX=1∨d.ZX=2∨d.ZX=3∨d.ZX=4∨d.ZX=5:=by
  rcases YQ hf with⟨k,_⟩ | ⟨k,_⟩ | ⟨k,_⟩ | ⟨k,_⟩ <;> omega
 rcases kinds with k | k | k | k | k
 ·obtain⟨a,b⟩:=D1 k;rw [show(d.ZX==1)=true by simp [k],cond_true,XD (by simp;omega) (by decide),Option.bind_some];refine⟨_,rfl,⟨fun s=>?_,?_,?_⟩⟩
  ·rw [a,List.mem_append,f.mem,List.mem_singleton]
  ·show(m.uses ++ [_]).Nodup;rw [List.nodup_append];refine⟨f.nd,by simp,fun x hx y hy e=>?_⟩;rw [List.mem_singleton] at hy;subst e;rw [hy] at hx;have:= ((f.mem _).1 hx).name R;unfold Yj at this;simp at this
  ·show m.ways=_;rw [b];exact f.ways
 ·obtain⟨a,b,_⟩:=D2 k;rw [show(d.ZX==1)=false by simp [k],show(d.ZX==2)=true by simp [k],cond_false,cond_true,XD (by simp;omega) (by decide),Option.bind_some];refine⟨_,rfl,⟨fun s=>?_,f.nd,?_⟩⟩
  ·rw [a];exact f.mem s
  ·show m.ways ++ _=_;rw [b,f.ways]
 ·obtain⟨a,b,c⟩:=D3 k;rw [show(d.ZX==1)=false by simp [k],show(d.ZX==2)=false by simp [k],show(d.ZX==3)=true by simp [k],cond_false,cond_false,cond_true];have hmem:(⟨d.at_,d.name⟩:YI) ∈ m.uses:= (f.mem _).2 c
  have e:=Xg m.uses (fun v (_:Unit)=>v) (Zfx F m d) (fun k y s next=>bif KX y ⟨d.at_,d.name⟩ then ZaC F m d (k:Int) else next ()) (fun _=>ZaC F m d (-1)) (by omega) (fun k y s next hy hk=>by
   simp only [Zfx,Z0,hy,hk,decide_true,Option.bind_some,cond_true]) (fun s next=>by simp [Zfx]) (by omega:m.uses.length < F) ()
  rw [show loop F (Zfx F m d) 0=_ from e];rcases Ze9 (l:=m.uses) (i:=0) (s:= ()) (d:=fun _=>ZaC F m d (-1)) (g:=fun k (y:YI) (_:Unit) next=>bif KX y ⟨d.at_,d.name⟩ then ZaC F m d (k:Int) else next ()) (fun k=>ZaC F m d (k:Int)) (fun y=>KX y ⟨d.at_,d.name⟩) (fun _ _ _ _=>rfl) with⟨j,y,h1,h2,h3⟩ | ⟨h1,h2⟩
  ·rw [h3,Nat.zero_add];have hy:=List.find?_some h1;rw [QJ,decide_eq_true_eq] at hy;obtain⟨hj,hjy⟩:=List.getElem?_eq_some_iff.1 h2
   have K9:m.uses=m.uses.take j ++ y::m.uses.drop (j + 1):=by
    rw [← hjy,← List.drop_eq_getElem_cons hj,List.take_append_drop]
   have ZHu:y ∉ m.uses.take j:=by
    intro z;have:=f.nd;rw [K9,List.nodup_append] at this;exact this.2.2 y z y (by simp) rfl
   unfold ZaC;rw [show((j:Int)==-1)=false by simp,cond_false,Xp (by omega)];refine⟨_,Zu5 rfl m.uses (by omega) (m.uses.length - (j + 1)) (j + 1) j F m.uses (by omega) (by omega) (by omega) rfl ?_ rfl,⟨fun s=>?_,?_,?_⟩⟩
   ·unfold less;rw [List.take_succ,h2,List.filter_append]
    have q1:(m.uses.take j).filter (fun x=>!(KX x ⟨d.at_,d.name⟩))=m.uses.take j:=by
     rw [List.filter_eq_self];intro x hx;rw [QJ,← hy];have:x ≠ y:=fun z=>ZHu (z ▸ hx)
     simp [this]
    rw [q1];simp only [Option.toList_some];rw [List.filter_cons_of_neg (by rw [QJ,hy];simp)];simp
   ·rw [a,ZtI,f.mem]
   ·exact List.Pairwise.filter _ f.nd
   ·show m.ways=_;rw [b];exact f.ways
  ·exfalso;rw [List.find?_eq_none] at h1;have:=h1 _ hmem;rw [QJ] at this;simp at this
 ·obtain⟨a,b⟩:=D4 k;rw [show(d.ZX==1)=false by simp [k],show(d.ZX==2)=false by simp [k],show(d.ZX==3)=false by simp [k],show(d.ZX==5)=false by simp [k],cond_false,cond_false,cond_false,cond_false];exact⟨_,rfl,⟨fun s=>by rw [a];exact f.mem s,f.nd,by rw [b];exact f.ways⟩⟩
 ·obtain⟨x,hx,a,b⟩:=D5 k;rw [show(d.ZX==1)=false by simp [k],show(d.ZX==2)=false by simp [k],show(d.ZX==3)=false by simp [k],show(d.ZX==5)=true by simp [k],cond_false,cond_false,cond_false,cond_true];obtain⟨hk,_⟩:=List.getElem?_eq_some_iff.1 hx;obtain⟨j,hj⟩:∃ j,d.at_.toNat=j:= ⟨_,rfl⟩
  rw [hj] at hx b hk;have h0:0 <=d.at_:=by rcases YQ hf with⟨z,_⟩ | ⟨z,_⟩ | ⟨z,_⟩ | ⟨_,z⟩ <;> omega
  have hat:d.at_= (j:Int):=by omega
  rw [hat,Z0,hx,Option.bind_some];obtain⟨g1,g2⟩:=Zfa hx;by_cases h:x.kind=1
  ·rw [show(x.kind !=1)=false by simp [h],cond_false];have e0:=Ka (xs:=w.notes) (a:=0) (b:=j) (Nat.zero_le j) (by omega);rw [List.drop_zero] at e0;rw [show slL w.notes 0 (j:Int)=some (w.notes.take j) from e0,Option.bind_some];have g2:=g2 h;rw [← f.ways] at g2;obtain⟨q,hq⟩:∃ q,(gives (w.notes.take j)).length=q:= ⟨_,rfl⟩
   rw [hq] at g2 b;obtain⟨hql,_⟩:=List.getElem?_eq_some_iff.1 g2
   have e:=Xg (w.notes.take j) (fun v (s:Int)=>(s,v)) (Zfw F m (w.notes.take j)) (fun _ c s nx=>nx (bif c.kind==1 then ZK (s + 1) else s)) (fun s=>(bif decide (s < (m.ways.length:Int)) then(Yg m.ways s).bind fun Zq3=>(Zi2 F m.uses Zq3).bind fun x159=>(bif(!x159) then(Yg m.ways s).bind fun x160=>(app 16 m.uses [x160]).bind fun ZnV=>(Zcb m s) ZnV else(Zcb m s) m.uses) else(Zbr) (m.uses,m.ways))) (by rw [List.length_take];omega) (fun k y s nx hy hk=>by
    simp only [Zfw,Z0,hy,hk,decide_true,cond_true,Option.bind_some];cases (y.kind==1) <;> rfl) (fun s nx=>by
    simp only [Zfw];rw [decide_eq_false (by omega),cond_false]) (by rw [List.length_take];omega:(w.notes.take j).length < F) 0
   rw [show loop F (Zfw F m (w.notes.take j)) (0,0)=_ from e];rw [(JQ (fun _ (c:Zd) (s:Int)=>bif c.kind==1 then ZK (s + 1) else s) (fun _ _=>True) trivial (fun _ _ _ _ _ _=>⟨rfl,trivial⟩)).1,UD];have hc:=Ziq (fun c:Zd=>c.kind==1) (w.notes.take j) 0 (by rw [List.length_take];omega)
   have hcq:(w.notes.take j).countP (fun c:Zd=>c.kind==1)=q:=by
    rw [← hq];unfold gives;rw [List.length_map,List.countP_eq_length_filter]
   rw [hcq,Nat.zero_add] at hc;rw [show((0:Nat):Int)=0 from rfl] at hc;rw [hc,decide_eq_true (by omega),cond_true,Z0,g2,Option.bind_some,Wv hF (by omega),Option.bind_some]
   have fin:∀ u:List YI,Zcb m (q:Int) u=some ⟨u,m.ways.take q ++ m.ways.drop (q + 1)⟩:=by
    intro u;unfold Zcb;rw [ZxO hql (by omega),Option.bind_some];rfl
   have ZyG:m.ways.take q ++ m.ways.drop (q + 1)=gives (Z6 w d).notes:=by
    rw [b,if_pos h,f.ways]
   by_cases hin:(⟨x.Zw,x.name⟩:YI) ∈ m.uses
   ·rw [decide_eq_true hin];simp only [Bool.not_true,cond_false];refine⟨_,fin _,⟨fun s=>?_,f.nd,ZyG⟩⟩;rw [a,← f.mem];refine⟨.inl,?_⟩;rintro(z | ⟨_,z⟩)
    ·exact z
    ·rw [z];exact hin
   ·rw [decide_eq_false hin];simp only [Bool.not_false,cond_true,Option.bind_some];rw [XD (by simp;omega) (by decide),Option.bind_some];refine⟨_,fin _,⟨fun s=>?_,?_,ZyG⟩⟩
    ·show s ∈ m.uses ++ [_]↔_;rw [a,List.mem_append,f.mem,List.mem_singleton];exact⟨fun z=>z.imp id fun y=>⟨h,y⟩,fun z=>z.imp id fun y=>y.2⟩
    ·show(m.uses ++ [_]).Nodup;rw [List.nodup_append];refine⟨f.nd,by simp,fun u hu y hy e=>?_⟩;rw [List.mem_singleton] at hy;subst e;rw [hy] at hu;exact hin hu
  ·rw [show(x.kind !=1)=true by simp [h],cond_true];refine⟨_,rfl,⟨fun s=>?_,f.nd,?_⟩⟩
   ·rw [a,← f.mem];exact⟨.inl,fun z=>z.elim id fun y=>absurd y.1 h⟩
   ·rw [b,if_neg h];exact f.ways
end
end Go.Proofs.Ytekpjgmhkkjhgaa
end
section
namespace Go.Proofs.Ytekpjgmhkkjhgaa
open Go.Lf
def G (w:Za) (n a:Int):Int:=J6 (YO w n) (Q8 w n) a
section
variable {w w':Za} {m:Nat} {n:Int}
theorem ZFU (hm:m < w.cells.length) (Yr:∀ m,m < w.cells.length ->Uk (rowOf w m)) {d:Zb} (hd:d.name=n) (k a:Int):G (cw w m (put d (rowOf w m))) k a=if k=n∧a= (m:Int) then d.out + YJ (YL a) (Q8 w n) else G w k a:=by
 obtain⟨U,V1,V2⟩:=Qh hm Yr hd;unfold G J6;by_cases h:k=n
 ·subst h;rw [V1,V2];by_cases e:a= (m:Int)
  ·rw [if_pos ⟨rfl,e⟩,e,Wl];rfl
  ·rw [if_neg (fun z=>e z.2),Zaf e]
 ·rw [if_neg (fun z=>h z.1),U.oc _ h,U.on _ h]
theorem Zjt (hm:m < w.cells.length) (n:Int):X0 (YO w n (m:Int))= (look (rowOf w m) n).out:=by
 rw [Jp hm,Y2];unfold look;cases UL (rowOf w m) n <;> rfl
theorem ZlT (hm:m < w.cells.length) (Yr:∀ m,m < w.cells.length ->Uk (rowOf w m)) {d:Zb} (hd:d.name=n) {x:Int} (hx:0 <=x) (hu:d.out <= (look (rowOf w m) n).out + x) (k a:Int):G (cw w m (put d (rowOf w m))) k a <=G w k a + if k=n∧a= (m:Int) then x else 0:=by
 rw [ZFU hm Yr hd];by_cases h:k=n∧a= (m:Int)
 ·rw [if_pos h,if_pos h,h.1,h.2];unfold G J6;rw [Zjt hm];omega
 ·rw [if_neg h,if_neg h];omega
theorem ZvJ (x:Zd) (k a:Int):G (sent w x) k a=G w k a + if x.name=k then YL a x else 0:=by
 unfold G J6;have h1:YO (sent w x) k=YO w k:=rfl
 have h2:Q8 (sent w x) k=Q8 w k ++ (if x.name=k then [x] else []):=by
  unfold Q8 sent;rw [List.filter_append];congr 1;by_cases h:x.name=k
  ·rw [if_pos h,List.filter_cons_of_pos (by simp [h])];rfl
  ·rw [if_neg h,List.filter_cons_of_neg (by simp [h])];rfl
 rw [h1,h2,Xq];by_cases h:x.name=k
 ·rw [if_pos h,if_pos h,Ql];omega
 ·rw [if_neg h,if_neg h];simp [YJ]
theorem Zg6 {x:Zd} (h:x.kind ≠ 3) (k a:Int):G (sent w x) k a=G w k a:=by
 rw [ZvJ];have:YL a x=0:=by unfold YL;rw [if_neg (fun z=>h z.1)]
 rw [this];split <;> omega
theorem ZFT (hm:m < w.cells.length) (Yr:∀ m,m < w.cells.length ->Uk (rowOf w m)) (ho:(look (rowOf w m) n).out=0) (k a:Int):G (cw w m (rmv n (rowOf w m))) k a=G w k a:=by
 obtain⟨U,V1,V2⟩:=Zkk (n:=n) hm Yr;unfold G J6;by_cases h:k=n
 ·subst h;rw [V1,V2];by_cases e:a= (m:Int)
  ·rw [e,Wl,Zjt hm,ho];rfl
  ·rw [Zaf e]
 ·rw [U.oc _ h,U.on _ h]
theorem Zd1 (hm:m < w.cells.length) (Yr:∀ m,m < w.cells.length ->Uk (rowOf w m)) {c:Zb} (hc:(look (rowOf w m) n).out=c.out) (k a:Int):G (YW w m n c) k a=G w k a:=by
 unfold YW;cases hu:(c.use || (c.out !=0))
 ·simp only [cond_false]
  have hco:c.out=0:=by
   rw [Bool.or_eq_false_iff] at hu
   simpa using hu.2
  rw [← ZFT hm Yr (hc.trans hco) k a];cases c.root
  ·simp only [cond_false];cases decide (c.from_ >=0)
   ·rfl
   ·rw [cond_true];exact Zg6 (w:=cw w m (rmv n (rowOf w m))) (x:= ⟨2,c.from_,n,0,c.has⟩) (show(2:Int) ≠ 3 by decide) k a
  ·rfl
 ·rfl
theorem Zvl (hm:m < w.cells.length) (Yr:∀ m,m < w.cells.length ->Uk (rowOf w m)) {Zw x:Int} (hx:0 <=x∧x <=1000000) (ho:-16 <= (look (rowOf w m) n).out∧(look (rowOf w m) n).out <=2000000) (k a:Int):G (Xe w m n Zw x) k a <=G w k a:=by
 unfold Xe;cases (Zw != (m:Int))
 ·rw [cond_false]
  have:=ZlT hm Yr (n:=n) (d:= {look (rowOf w m) n with out:=ZK ((look (rowOf w m) n).out - x)}) (JP _ _) (x:=0) (by omega) (by
   show ZK ((look (rowOf w m) n).out - x) <=_;rw [YM (by omega) (by omega)];omega) k a
  split at this <;> omega
 ·rw [cond_true,Zg6 (show(2:Int) ≠ 3 by decide)];omega
theorem Ztk (a:Int) (x:Zd):YL a x <=16:=by unfold YL;split <;> omega
theorem ZFV {k:Nat} {x:Zd} (hk:w.notes[k]? =some x) (n a:Int):G w n a=G (QZ w k) n a + if x.name=n then YL a x else 0:=by
 obtain⟨hkl,hkx⟩:=List.getElem?_eq_some_iff.1 hk
 have K9:w.notes=w.notes.take k ++ x::w.notes.drop (k + 1):=by
  rw [← hkx,← List.drop_eq_getElem_cons hkl,List.take_append_drop]
 unfold G J6;have h1:YO (QZ w k) n=YO w n:=rfl
 have h2:YJ (YL a) (Q8 w n)=YJ (YL a) (Q8 (QZ w k) n) + if x.name=n then YL a x else 0:=by
  unfold Q8 QZ;dsimp only;rw [List.filter_append,Xq]
  conv=>lhs;rw [K9]
  rw [List.filter_append,Xq];by_cases h:x.name=n
  ·rw [if_pos h,List.filter_cons_of_pos (by simp [h])];simp only [YJ];omega
  ·rw [if_neg h,List.filter_cons_of_neg (by simp [h])];omega
 rw [h1,h2];omega
theorem ZqK (R:Rt w) {k:Nat} {x:Zd} (hk:w.notes[k]? =some x) (n a:Int):G (XC (QZ w k) x) n a <=G w n a:=by
 obtain⟨R0,M0⟩:=Zkp R hk;rw [ZFV hk n a];obtain⟨v,hv⟩:∃ v,QZ w k=v:= ⟨_,rfl⟩
 rw [hv] at R0 M0 ⊢;have hn:=R0.nn x (by simp);have hfl:∀ y ∈ [x],y.name=x.name:=by simp
 obtain⟨h,H⟩:=R0.nm x.name hn;rw [Kt hfl] at H;have hMx:=M0 x.name hn;rw [Kt hfl] at hMx;have H:Nm v.cells.length x.name (YO v x.name) (x::Q8 v x.name) h:=H;have hx:=H.KC x (by simp);have hxw:= (H.most hMx).2 x (by simp);obtain⟨m,hm'⟩:∃ m,x.Zw.toNat=m:= ⟨_,rfl⟩
 have hat:x.Zw= (m:Int):=by omega
 have hm:m < v.cells.length:=by omega
 have S:=Zf8 H hMx x.Zw;have KR:look (rowOf v m) x.name=Zak x.name (YO v x.name) x.Zw:=by rw [Ze7 hm,hat]
 rw [← KR] at S;have Yr:=R0.Yr;have hln:=JP (rowOf v m) x.name;unfold XC;rw [hm'];dsimp only;obtain⟨c,hc⟩:∃ c,look (rowOf v m) x.name=c:= ⟨_,rfl⟩
 rw [hc] at S hln ⊢;cases k1:(x.kind==1)
 ·rw [cond_false];cases k2:(x.kind==2)
  ·rw [cond_false]
   have k3:x.kind=3:=by
    rcases hx.2.2.2 with z | z | z
    ·rw [z.1] at k1;cases k1
    ·rw [z.1] at k2;cases k2
    ·exact z.1
   have hd:(⟨c.name,true,-1,0,ZK (c.out + 16),c.use⟩:Zb).name=x.name:=hln;have ho:ZK (c.out + 16)=c.out + 16:=YM (by omega) (by omega);have g1:=ZlT hm Yr hd (x:=16) (by omega) (by show ZK (c.out + 16) <=_;rw [ho,hc];omega) n a;have hlk:=Ug hm (Yr m hm) hd;obtain⟨U,_,_⟩:=Qh hm Yr hd;obtain⟨b,hb⟩:∃ b,cw v m (put ⟨c.name,true,-1,0,ZK (c.out + 16),c.use⟩ (rowOf v m))=b:= ⟨_,rfl⟩
   rw [hb] at U g1 hlk ⊢;have hm2:m < b.cells.length:=by rw [U.len];exact hm
   have Zn7:∀ k,k < b.cells.length ->Uk (rowOf b k):=fun k hk=>U.Yr k (by rw [← U.len];exact hk)
   have ZJt:(if n=x.name∧a= (m:Int) then(16:Int) else 0) <=if x.name=n then YL a x else 0:=by
    by_cases e:n=x.name∧a= (m:Int)
    ·rw [if_pos e,if_pos e.1.symm,ZgI k3,if_pos (by rw [hat];exact e.2.symm)];omega
    ·rw [if_neg e];split
     ·exact Kn a x
     ·omega
   cases decide (c.from_ >=0)
   ·simp only [cond_false];rw [Zd1 hm2 Zn7 (n:=x.name) (c:=look (rowOf b m) x.name) rfl];omega
   ·simp only [cond_true];obtain⟨l3,s3⟩:=ZqO hm2 Zn7 (n:=x.name) c.from_ c.has;have g2:=Zvl hm2 Zn7 (n:=x.name) (Zw:=c.from_) (x:=c.has) (by omega) (by rw [hlk];show -16 <=ZK (c.out + 16)∧ZK (c.out + 16) <=2000000;rw [ho];omega) n a;rw [Zd1 (by rw [l3];exact hm2) (fun k hk=>s3 k (by rw [← l3];exact hk)) (n:=x.name) (c:=look (rowOf (Xe b m x.name c.from_ c.has) m) x.name) rfl];omega
  ·rw [cond_true];have hd:(⟨c.name,c.root,c.from_,c.has,ZK (c.out - x.w),c.use⟩:Zb).name=x.name:=hln;have g1:=ZlT hm Yr hd (x:=0) (by omega) (by show ZK (c.out - x.w) <=_;rw [YM (by omega) (by omega),hc];omega) n a;have hlk:=Ug hm (Yr m hm) hd;obtain⟨U,_,_⟩:=Qh hm Yr hd;rw [Zd1 (by rw [U.len];exact hm) (fun k hk=>U.Yr k (by rw [← U.len];exact hk)) (n:=x.name) (by rw [hlk])];have:=Kn a x;split at g1 <;> split <;> omega
 ·rw [cond_true]
  have hng:0 <= (if x.name=n then YL a x else 0):=by
   have:=Kn a x;split <;> omega
  have ZzO:∀ d:Zb,d.name=x.name ->d.out=c.out ->G (cw v m (put d (rowOf v m))) n a <=G v n a:=fun d hd ho=>by
   have:=ZlT hm Yr hd (x:=0) (by omega) (by rw [ho,hc];omega) n a;split at this <;> omega
  generalize ((!c.root && (c.from_==-1)) && (x.via !=x.Zw))=b1;generalize ((!c.root && decide (c.from_ >=0)) && (c.from_==x.via))=b2;cases b1
  ·simp only [cond_false];cases b2
   ·simp only [cond_false];have hd:(⟨c.name,c.root,c.from_,c.has,c.out,true⟩:Zb).name=x.name:=hln;have hlk:=Ug hm (Yr m hm) hd;obtain⟨U,_,_⟩:=Qh hm Yr hd;have g1:=ZzO _ hd rfl;have g2:=Zvl (by rw [U.len];exact hm) (fun k hk=>U.Yr k (by rw [← U.len];exact hk)) (n:=x.name) (Zw:=x.via) (x:=x.w) (by omega) (by rw [hlk];show -16 <=c.out∧c.out <=2000000;omega) n a;omega
   ·simp only [cond_true];have:=ZzO ⟨c.name,c.root,c.from_,ZK (c.has + x.w),c.out,true⟩ hln rfl;omega
  ·simp only [cond_true];have:=ZzO ⟨c.name,c.root,x.via,x.w,c.out,true⟩ hln rfl;omega
theorem Zvd (R:Rt w) {d:Zn} (h1:d.ZX ≠ 1) (h5:d.ZX ≠ 5) (hm:m < w.cells.length) (he:YG w d m=0):∃ c,look (rowOf w m) d.name=c∧c.name=d.name∧-16 <=c.out∧c.out <=1000000:=by
 obtain⟨c,hc,_,_⟩:=Qx h1 h5 he;obtain⟨_,e,hn⟩:=R.Qj hm hc;obtain⟨h,H,Mx⟩:=R.nm _ hn;have S:= (H.most Mx).1 _ c e;exact⟨c,Qr hc,Qd hc,S.1,S.2.1⟩
theorem Zu4 (R:Rt w) {d:Zn} (hf:QI d w.cells.length=true) (he:YG w d d.at_.toNat=0) (n a:Int):G (Z6 w d) n a <=G w n a + 16:=by
 have Yr:=R.Yr;obtain⟨m,hm'⟩:∃ m,d.at_.toNat=m:= ⟨_,rfl⟩
 have he0:=he;unfold Z6;rw [hm'] at he ⊢;rcases YQ hf with⟨k,a0⟩ | ⟨k,a0,t0,ne,nm⟩ | ⟨k,a0,nm⟩ | ⟨k,a0⟩
 ·rw [show(d.ZX==1)=true by simp [k],cond_true];have hm:m < w.cells.length:=by omega
  have e:G (Zd9 w m) n a=G (cw w m (put (Ze1 w) (rowOf w m))) n a:=rfl;rw [e]
  have hnone:(look (rowOf w m) w.names).out=0:=by
   unfold look;cases h:UL (rowOf w m) w.names with
   | none=>rfl
   | some c=>
     exfalso;have:=R.rx.1.range m hm c (Zbo h);have:=Qd h;omega
  have:=ZlT hm Yr (n:=w.names) (d:=Ze1 w) rfl (x:=0) (by omega) (by rw [hnone];exact Int.le_refl _) n a;split at this <;> omega
 ·have hm:m < w.cells.length:=by omega
  have q1:d.ZX ≠ 1:=by omega
  have q5:d.ZX ≠ 5:=by omega
  obtain⟨c,hl,hcn,o1,o2⟩:=Zvd R q1 q5 hm he;rw [hl];by_cases k2:d.ZX=2
  ·rw [show(d.ZX==1)=false by simp [k2],show(d.ZX==2)=true by simp [k2],cond_false,cond_true];unfold Zd3;cases (decide (c.from_ >=0) && decide (c.has >=2))
   ·rw [cond_false,Zg6 (show(1:Int) ≠ 3 by decide)];have:=ZlT hm Yr (n:=d.name) (d:= ⟨c.name,c.root,c.from_,c.has,ZK (c.out + 16),c.use⟩) hcn (x:=16) (by omega) (by show ZK (c.out + 16) <=_;rw [YM (by omega) (by omega),hl];omega) n a;split at this <;> omega
   ·rw [cond_true,Zg6 (show(1:Int) ≠ 3 by decide)];have:=ZlT hm Yr (n:=d.name) (d:= ⟨c.name,c.root,c.from_,ZK (c.has - ZK (c.has.tdiv 2)),c.out,c.use⟩) hcn (x:=0) (by omega) (by rw [hl];show c.out <=_;omega) n a;split at this <;> omega
  ·have k4:d.ZX=4:=k.resolve_left k2;rw [show(d.ZX==1)=false by simp [k4],show(d.ZX==2)=false by simp [k4],show(d.ZX==5)=false by simp [k4],show(d.ZX==3)=false by simp [k4],cond_false,cond_false,cond_false,cond_false];unfold goW;rw [ZvJ];have:=ZlT hm Yr (n:=d.name) (d:=goC c d.Zw) hcn (x:=0) (by omega) (by rw [hl];show c.out <=_;omega) n a;have:=Ztk a ⟨3,d.Zw,d.name,0,16⟩;split at * <;> split <;> omega
 ·have hm:m < w.cells.length:=by omega
  have q1:d.ZX ≠ 1:=by omega
  have q5:d.ZX ≠ 5:=by omega
  obtain⟨c,hl,hcn,o1,o2⟩:=Zvd R q1 q5 hm he;rw [hl];rw [show(d.ZX==1)=false by simp [k],show(d.ZX==2)=false by simp [k],show(d.ZX==5)=false by simp [k],show(d.ZX==3)=true by simp [k],cond_false,cond_false,cond_false,cond_true];unfold Zgl;have hd:(Zap c).name=d.name:=hcn;have hlk:=Ug hm (Yr m hm) hd;obtain⟨U,_,_⟩:=Qh hm Yr hd;rw [Zd1 (by rw [U.len];exact hm) (fun k hk=>U.Yr k (by rw [← U.len];exact hk)) (n:=d.name) (by rw [hlk])];have:=ZlT hm Yr hd (x:=0) (by omega) (by rw [hl];show c.out <=_;omega) n a;split at this <;> omega
 ·rw [show(d.ZX==1)=false by simp [k],show(d.ZX==2)=false by simp [k],show(d.ZX==5)=true by simp [k],cond_false,cond_false,cond_true];obtain⟨x,hx,_⟩:= (ZcR R hf he0).2.2.2.2 k;rw [hm'] at hx;rw [hx,Option.getD_some];have:=ZqK R hx n a;omega
end
end Go.Proofs.Ytekpjgmhkkjhgaa
end
section
namespace Go.Proofs.Ytekpjgmhkkjhgaa
open Go.Lf
section
variable {w:Za} {m:Model} {F:Nat}
theorem ZI7 (X:Rx w Kc []) (n a:Int):-16 <=G w n a:=by
 have h2:0 <=YJ (YL a) (Q8 w n):=Zab fun x _=>Kn a x
 unfold G J6;cases e:YO w n a with
 | none=>simp only [X0];omega
 | some c=>
   obtain⟨h,H⟩:=X.nm n (X.cn n a c e).1;have H:Nm w.cells.length n (YO w n) (Q8 w n) h:=H;have:= (H.Zhw e).1;simp only [X0];omega
theorem ZpU (R:Rt w) {d:Zn} (hf:QI d w.cells.length=true) (he:YG w d d.at_.toNat=0) {K:Int} (hG:∀ n a,G w n a <=K) (hK:K <=900000) (hn:(Z6 w d).notes.length <=80):WN (Z6 w d)=false:=by
 obtain⟨X1,X2,X3,X4,X5⟩:=ZgV R hf he;unfold WN;rw [decide_eq_false (by omega),Bool.false_or,List.any_eq_false];intro a ha;rw [List.mem_range] at ha;rw [Bool.not_eq_true,List.any_eq_false];intro n hn2;have h1:=Zu4 R hf he (n:Int) (a:Int);have h2:=hG n a;have h3:=ZI7 X1 (n:Int) (a:Int);rw [ZdH _ ha];rw [show ZK (J6 (YO (Z6 w d) (n:Int)) (Q8 (Z6 w d) (n:Int)) (a:Int))=G (Z6 w d) n a from YM (by show _ <=G _ _ _;omega) (by show G _ _ _ <=_;omega)];simp;omega
theorem Zim (R:Rt w) {d:Zn} (hf:QI d w.cells.length=true) (he:YG w d d.at_.toNat=0):(Z6 w d).notes.length <=w.notes.length + 1∧(d.ZX=1∨d.ZX=5 ->(Z6 w d).notes.length <=w.notes.length):=by
 obtain⟨_,_,_,_,D5⟩:=ZcR R hf he;unfold Z6;rcases YQ hf with⟨k,a0⟩ | ⟨k,a0,t0,ne,nm⟩ | ⟨k,a0,nm⟩ | ⟨k,a0⟩
 ·rw [show(d.ZX==1)=true by simp [k],cond_true];exact⟨Nat.le_succ _,fun _=>Nat.le_refl _⟩
 ·by_cases k2:d.ZX=2
  ·rw [show(d.ZX==1)=false by simp [k2],show(d.ZX==2)=true by simp [k2],cond_false,cond_true];exact⟨Nat.le_of_eq (Zmg _ _ _).1,fun z=>by omega⟩
  ·have k4:d.ZX=4:=by omega
   rw [show(d.ZX==1)=false by simp [k4],show(d.ZX==2)=false by simp [k4],show(d.ZX==5)=false by simp [k4],show(d.ZX==3)=false by simp [k4],cond_false,cond_false,cond_false,cond_false];exact⟨Nat.le_of_eq (ZbK _),fun z=>by omega⟩
 ·rw [show(d.ZX==1)=false by simp [k],show(d.ZX==2)=false by simp [k],show(d.ZX==5)=false by simp [k],show(d.ZX==3)=true by simp [k],cond_false,cond_false,cond_false,cond_true];exact⟨(WJ _ _ _).1,fun z=>by omega⟩
 ·rw [show(d.ZX==1)=false by simp [k],show(d.ZX==2)=false by simp [k],show(d.ZX==5)=true by simp [k],cond_false,cond_false,cond_true];obtain⟨x,hx,_⟩:=D5 k;rw [hx,Option.getD_some];obtain⟨hkl,_⟩:=List.getElem?_eq_some_iff.1 hx;obtain⟨R0,M0⟩:=Zkp R hx;have q:= (Znz R0 M0).2.2.1;have:(QZ w d.at_.toNat).notes.length + 1=w.notes.length:=by unfold QZ;simp;omega
  exact⟨by omega,fun _=>by omega⟩
theorem Zrb (R:Rt w) {d:Zn} {M nm nt:Int} (hM:M=w.cells.length) (hnm:nm=w.names) (hnt:nt=w.notes.length) (D:ZiK d M nm nt) {K:Int} (hG:∀ n a,G w n a <=K) (hK:K <=900000):
 ((stepW w d).2=7∧YG w d d.at_.toNat=7∧(d.ZX=2∨d.ZX=3 ->¬ Uses w ⟨d.at_,d.name⟩)∧(d.ZX=2∨d.ZX=3∨d.ZX=4))∨((stepW w d).2=3∧d.ZX ≠ 5∧w.notes.length=80)∨((stepW w d).2=0∧(stepW w d).1=Z6 w d∧YG w d d.at_.toNat=0∧WN (Z6 w d)=false):=by
 have hf:QI d w.cells.length=true:=by rw [← hM];exact D.form
 have ZAk:=R.KC
 have e07:YG w d d.at_.toNat=0∨(YG w d d.at_.toNat=7∧(d.ZX=2∨d.ZX=3 ->¬ Uses w ⟨d.at_,d.name⟩)∧(d.ZX=2∨d.ZX=3∨d.ZX=4)):=by
  rcases D.kind with k | k | k | k | k
  ·left;have:=D.make k;unfold YG;rw [show(d.ZX==1)=true by simp [k],cond_true,decide_eq_false (by omega),cond_false]
  ·have hat:0 <=d.at_∧d.at_ < (w.cells.length:Int):=by rcases YQ hf with⟨z,_⟩ | ⟨_,z,_⟩ | ⟨z,_⟩ | ⟨z,_⟩ <;> omega
   have hl:=Kz (w:=w) (m:=d.at_.toNat) (n:=d.name) (by omega);rw [show((d.at_.toNat:Nat):Int)=d.at_ by omega] at hl;unfold YG;rw [show(d.ZX==1)=false by simp [k],show(d.ZX==5)=false by simp [k],cond_false,cond_false,show(d.ZX==4)=false by simp [k]];unfold look at hl;cases h:UL (rowOf w d.at_.toNat) d.name with
   | none=>rw [h] at hl;exact .inr ⟨rfl,fun _ z=>(by have:=hl.2 z;cases this),.inl k⟩
   | some c=>
     rw [h] at hl;simp only [cond_false];cases hu:c.use
     ·exact .inr ⟨rfl,fun _ z=>(by have:=hl.2 z;simp [hu] at this),.inl k⟩
     ·exact .inl rfl
  ·have hat:0 <=d.at_∧d.at_ < (w.cells.length:Int):=by rcases YQ hf with⟨z,_⟩ | ⟨z,_⟩ | ⟨_,z,_⟩ | ⟨z,_⟩ <;> omega
   have hl:=Kz (w:=w) (m:=d.at_.toNat) (n:=d.name) (by omega);rw [show((d.at_.toNat:Nat):Int)=d.at_ by omega] at hl;unfold YG;rw [show(d.ZX==1)=false by simp [k],show(d.ZX==5)=false by simp [k],cond_false,cond_false,show(d.ZX==4)=false by simp [k]];unfold look at hl;cases h:UL (rowOf w d.at_.toNat) d.name with
   | none=>rw [h] at hl;exact .inr ⟨rfl,fun _ z=>(by have:=hl.2 z;cases this),.inr (.inl k)⟩
   | some c=>
     rw [h] at hl;simp only [cond_false];cases hu:c.use
     ·exact .inr ⟨rfl,fun _ z=>(by have:=hl.2 z;simp [hu] at this),.inr (.inl k)⟩
     ·exact .inl rfl
  ·unfold YG;rw [show(d.ZX==1)=false by simp [k],show(d.ZX==5)=false by simp [k],cond_false,cond_false,show(d.ZX==4)=true by simp [k]];cases h:UL (rowOf w d.at_.toNat) d.name with
   | none=>exact .inr ⟨rfl,fun z=>(by omega),.inr (.inr k)⟩
   | some c=>
     simp only [cond_true];cases hu:c.root
     ·exact .inr ⟨rfl,fun z=>(by omega),.inr (.inr k)⟩
     ·exact .inl rfl
  ·left;have:=D.note k;unfold YG;rw [show(d.ZX==1)=false by simp [k],show(d.ZX==5)=true by simp [k],cond_false,cond_true,decide_eq_false (by omega),cond_false]
 rcases e07 with e | ⟨e,e2,e3⟩
 ·right;obtain⟨n1,n2⟩:=Zim R hf e;cases ho:WN (Z6 w d)
  ·right;unfold stepW;rw [e,ho];exact⟨rfl,rfl,rfl,rfl⟩
  ·left;have h3:(stepW w d).2=3:=by unfold stepW;rw [e,ho];rfl
   by_cases hn:(Z6 w d).notes.length <=80
   ·rw [ZpU R hf e hG hK hn] at ho;cases ho
   ·refine⟨h3,fun k=>?_,by omega⟩;have:=n2 (.inr k);omega
 ·left;refine⟨?_,e,e2,e3⟩;unfold stepW;rw [e];rfl
structure LV (M:Nat) (K:Nat) (w:Za) (m:Model):Prop where
 rt:Rt w
 fit:Fits w m
 len:w.cells.length=M
 g:∀ n a,G w n a <=16 * (K:Int)
theorem LV.mono {M K K':Nat} (h:LV M K w m) (hk:K <=K'):LV M K' w m:= ⟨h.rt,h.fit,h.len,fun n a=>by have:=h.g n a;omega⟩
theorem LV.step (hF:1000 <=F) {M K:Nat} (L:LV M K w m) {d:Zn} (hf:QI d w.cells.length=true) (he:YG w d d.at_.toNat=0) (hv:WN (Z6 w d)=false):∃ m',Zle F m w d=some m'∧LV M (K + 1) (Z6 w d) m':=by
 obtain⟨m',e,f⟩:=Zpq hF L.rt L.fit hf he;obtain⟨r,l⟩:=ZqG L.rt hf he hv;exact⟨m',e,⟨r,f,l.trans L.len,fun n a=>by have:=Zu4 L.rt hf he n a;have:=L.g n a;omega⟩⟩
theorem Zok (hF:1000 <=F) {M:Nat} (z:List ZaE) (hz:z.length <=120) (hu:∀ a ∈ z,U8 a):∀ (k i F':Nat) (w:Za) (m:Model),LV M i w m ->i + k=z.length ->k < F' ->
 ∃ w' m',loop F' (ZdL F z) ((i:Int),m.uses,m.ways,w.cells,w.notes,w.names,w.freed)=some (w',m',true)∧LV M z.length w' m':=by
 intro k
 induction k with
 | zero=>
   intro i F' w m L hi hF';obtain⟨F',rfl⟩:=Nat.exists_eq_succ_of_ne_zero (n:=F') (by omega);rw [Yh];simp only [ZdL];rw [decide_eq_false (by omega),cond_false];exact⟨w,m,rfl,L.mono (by omega)⟩
 | succ k ih=>
   intro i F' w m L hi hF';obtain⟨F',rfl⟩:=Nat.exists_eq_succ_of_ne_zero (n:=F') (by omega);have hlt:i < z.length:=by omega
   have hua:=hu z[i] (List.getElem_mem hlt);have R:=L.rt;have:=R.c1;have:=R.c6;have:=R.n0;have:=R.n12;have ZAk:=R.KC;obtain⟨hus,hws⟩:=L.fit.small R;rw [Yh];simp only [ZdL];rw [decide_eq_true (by omega),cond_true,Z0,List.getElem?_eq_getElem hlt,Option.bind_some];obtain⟨d,b,e1,e2⟩:=ZxP hua (M:=w.cells.length) (nm:=w.names) (nt:=w.notes.length) ⟨by omega,by omega⟩ ⟨by omega,by omega⟩ ⟨by omega,by omega⟩;rw [e1,Option.bind_some]
   have skip:∃ w' m',Zbs (i:Int) (loop F' (ZdL F z)) (m.uses,m.ways,w.cells,w.notes,w.names,w.freed)=some (w',m',true)∧LV M z.length w' m':=by
    unfold Zbs;rw [Xp (by omega)];exact ih (i + 1) F' w m (L.mono (by omega)) (by omega) (by omega)
   cases b
   ·simp only [Bool.not_false,cond_true];exact skip
   ·have D:=e2 rfl;have hfd:=D.form;simp only [Bool.not_true,cond_false];have ew:(⟨w.cells,w.notes,w.names,w.freed⟩:Za)=w:=rfl;have em:(⟨m.uses,m.ways⟩:Model)=m:=rfl;rw [ew,ZqI hF R.small,Option.bind_some,ZqH R hfd];rcases Zrb R rfl rfl rfl D L.g (by omega) with⟨s1,s2,s3,s4⟩ | ⟨s1,s2,s3⟩ | ⟨s1,s2,s3,s4⟩
    ·rw [s1];rw [show((7:Int)==7)=true from rfl,cond_true];by_cases k4:d.ZX=4
     ·rw [show(d.ZX !=4)=false by simp [k4]];simp only [Bool.false_and,ZmX,Option.bind_some,cond_false];exact skip
     ·have hk:d.ZX=2∨d.ZX=3:=by omega
      have hni:¬ (⟨d.at_,d.name⟩:YI) ∈ m.uses:=fun z=>s3 hk ((L.fit.mem _).1 z)
      have hb:((d.ZX !=2) && (d.ZX !=3))=false:=by rcases hk with h | h <;> simp [h]
      rw [show(d.ZX !=4)=true by simp [k4],hb];simp only [Bool.not_false,Bool.and_true,ZcK];rw [Wv hF (by omega),decide_eq_false hni];simp only [Option.bind_some,Bool.or_self,Bool.and_false,cond_false];exact skip
    ·rw [s1];rw [show((3:Int)==7)=false from rfl,cond_false,show((3:Int)==3)=true from rfl,show(d.ZX !=5)=true by simp [s2],show((w.notes.length:Int)==80)=true by simp;omega];simp only [Bool.and_self,cond_true];exact skip
    ·rw [s1,s2];rw [show((0:Int)==7)=false from rfl,cond_false,show((0:Int)==3)=false from rfl];simp only [Bool.false_and,cond_false];obtain⟨m',q1,q2⟩:=L.step hF (by exact hfd) s3 s4;rw [show((0:Int) !=0)=false from rfl,show(((Z6 w d).cells.length:Int) != (w.cells.length:Int))=false by rw [q2.len,L.len];simp];simp only [Bool.or_self,cond_false];rw [em,q1,Option.bind_some,ZkW hF q2.rt q2.fit,Option.bind_some];simp only [Bool.not_true,cond_false];unfold Zbs;rw [Xp (by omega)];exact ih (i + 1) F' _ m' q2 (by omega) (by omega)
theorem Zxs (p:Int) (n a:Int):G (JI p) n a=0:=by
 unfold G J6
 have h1:YO (JI p) n a=none:=by
  unfold YO;split
  ·rw [Y2]
   have:rowOf (JI p) a.toNat= []:=by
    unfold rowOf JI;rw [List.getElem?_replicate];split <;> rfl
   rw [this];rfl
  ·rfl
 rw [h1];rfl
theorem ZoR (p:Int):Fits (JI p) ⟨[],[]⟩:=by
 refine⟨fun s=>⟨fun z=>(by cases z),fun z=>?_⟩,List.nodup_nil,rfl⟩;exfalso;obtain⟨c,h,_⟩:=z;obtain⟨h1,h2⟩:=Qe h;rw [Y2] at h2
 have:rowOf (JI p) s.at_.toNat= []:=by
  unfold rowOf JI;rw [List.getElem?_replicate];split <;> rfl
 rw [this] at h2;cases h2
theorem ZtH (hF:1000 <=F) {p:Int} (h0:0 <=p) (h1:p <=255) {l:List ZaE} (hl:∀ a ∈ l,U8 a):∃ w m,ZrW F p l=some (w,m,true)∧LV (1 + p % 6).toNat 120 w m:=by
 rw [ZmB hF h0 h1,show slL l 0 (if 120 < (l.length:Int) then 120 else(l.length:Int))=some (l.take 120) from Zv7 l 120,Option.bind_some];obtain⟨R0,hlen⟩:=Zm3 h0;have hl2:(l.take 120).length <=120:=by rw [List.length_take];omega
 obtain⟨w,m,e,L⟩:=Zok hF (l.take 120) hl2 (fun a h=>hl a (List.mem_of_mem_take h)) (l.take 120).length 0 F (JI p) ⟨[],[]⟩ ⟨R0,ZoR p,hlen,fun n a=>by rw [Zxs];omega⟩ (by omega) (by omega);exact⟨w,m,e,L.mono hl2⟩
end
end Go.Proofs.Ytekpjgmhkkjhgaa
end
section
namespace Go.Proofs.Ytekpjgmhkkjhgaa
open Go.Lf
def SS (w:Za) (s:YI):Prop:=Uses w s∨s ∈ gives w.notes
def Zck (j:Nat):Zn:= ⟨5,(j:Int),0,0⟩
section
variable {w:Za} {m:Model} {F:Nat}
theorem Zr4 (j:Nat) (M:Int):QI (Zck j) M=true:=by
 unfold QI Zck;simp
theorem Zvg {j:Nat} (hj:j < w.notes.length) (k:Nat):YG w (Zck j) k=0:=by
 unfold YG Zck;rw [show((5:Int)==1)=false from rfl,show((5:Int)==5)=true from rfl,cond_false,cond_true,decide_eq_false (by show ¬ (j:Int) >=_;omega),cond_false]
theorem ZjX {j:Nat} {x:Zd} (hx:w.notes[j]? =some x):Z6 w (Zck j)=XC (QZ w j) x:=by
 unfold Z6 Zck;rw [show((5:Int)==1)=false from rfl,show((5:Int)==2)=false from rfl,show((5:Int)==5)=true from rfl,cond_false,cond_false,cond_true];dsimp only;rw [Int.toNat_natCast,hx,Option.getD_some]
theorem Zir (hF:1000 <=F) {M K:Nat} (L:LV M K w m) (hK:K <=50000) {j:Nat} (hj:j < w.notes.length):∃ m',Zm7 F w (Zck j)=some (Z6 w (Zck j),0)∧Zle F m w (Zck j)=some m'∧LV M K (Z6 w (Zck j)) m'∧mu (Z6 w (Zck j)) + 1 <=mu w∧(∀ s,SS (Z6 w (Zck j)) s↔SS w s)∧(Z6 w (Zck j)).names=w.names∧(Z6 w (Zck j)).notes.length <=w.notes.length:=by
 have R:=L.rt;have hf:=Zr4 j (w.cells.length:Int);have he:=Zvg hj (Zck j).at_.toNat;have ZAk:=R.KC;obtain⟨n1,n2⟩:=Zim R hf he;have n2:=n2 (.inr rfl);have hv:=ZpU R hf he L.g (by omega) (by omega);obtain⟨m',e1,L'⟩:=L.step hF hf he hv;obtain⟨x,hx⟩:∃ x,w.notes[j]? =some x:= ⟨_,List.getElem?_eq_getElem hj⟩
 have hd:=ZjX hx;have X4:= (ZgV R hf he).2.2.2.1 (show(5:Int) ≠ 1 by decide);refine⟨m',?_,e1,⟨L'.rt,L'.fit,L'.len,fun n a=>?_⟩,?_,fun s=>?_,X4,n2⟩
 ·rw [ZqI hF R.small,ZqH R hf];unfold stepW;rw [he,hv];rfl
 ·rw [hd];have:=ZqK R hx n a;have:=L.g n a;omega
 ·rw [hd];exact K3 R hx
 ·obtain⟨y,hy,a,b⟩:= (ZcR R hf he).2.2.2.2 rfl;have hj2:(Zck j).at_.toNat=j:=rfl;rw [hj2] at hy b;rw [hx] at hy;cases hy;unfold SS;rw [a,b];obtain⟨g1,g2⟩:=Zfa hx;by_cases h:x.kind=1
  ·rw [if_pos h];obtain⟨q,hq⟩:∃ q,(gives (w.notes.take j)).length=q:= ⟨_,rfl⟩
   have g2:=g2 h;rw [hq] at g2 ⊢;obtain⟨hql,hqx⟩:=List.getElem?_eq_some_iff.1 g2
   have K9:gives w.notes= (gives w.notes).take q ++ ⟨x.Zw,x.name⟩::(gives w.notes).drop (q + 1):=by
    rw [← hqx,← List.drop_eq_getElem_cons,List.take_append_drop]
   constructor
   ·rintro((z | ⟨_,z⟩) | z)
    ·exact .inl z
    ·right;rw [K9,z];simp
    ·right;rw [K9];rcases List.mem_append.1 z with z | z
     ·exact List.mem_append_left _ z
     ·exact List.mem_append_right _ (List.mem_cons_of_mem _ z)
   ·rintro(z | z)
    ·exact .inl (.inl z)
    ·rw [K9] at z;rcases List.mem_append.1 z with z | z
     ·exact .inr (List.mem_append_left _ z)
     ·rcases List.mem_cons.1 z with z | z
      ·exact .inl (.inr ⟨h,z⟩)
      ·exact .inr (List.mem_append_right _ z)
  ·rw [if_neg h];exact⟨fun z=>z.imp (fun y=>y.elim id fun u=>absurd u.1 h) id,fun z=>z.imp .inl id⟩
structure Calm (M K:Nat) (w w':Za) (m':Model):Prop where
 lv:LV M K w' m'
 notes:w'.notes= []
 ss:∀ s,SS w' s↔SS w s
 names:w'.names=w.names
theorem Zr5 (hF:1000 <=F) {M K:Nat} (hK:K <=50000) {q:List Int} (hq:∀ x ∈ q,0 <=x∧x <=255):∀ (b k F':Nat) (w:Za) (m:Model),LV M K w m ->mu w <=b ->k + b <=1000 ->b < F' ->
 ∃ w' m',loop F' (ZdK F q) ((k:Int),w.cells,w.notes,w.names,w.freed,m.uses,m.ways)=some (w',m',true)∧Calm M K w w' m':=by
 intro b
 have fin:∀ (k F':Nat) (w:Za) (m:Model),LV M K w m ->w.notes= [] ->0 < F' ->∃ w' m',loop F' (ZdK F q) ((k:Int),w.cells,w.notes,w.names,w.freed,m.uses,m.ways)=some (w',m',true)∧Calm M K w w' m':=by
  intro k F' w m L h0 hF';obtain⟨F',rfl⟩:=Nat.exists_eq_succ_of_ne_zero (n:=F') (by omega);rw [Yh];simp only [ZdK];rw [decide_eq_false (by rw [h0];simp),cond_false];have ew:(⟨w.cells,w.notes,w.names,w.freed⟩:Za)=w:=rfl;have em:(⟨m.uses,m.ways⟩:Model)=m:=rfl;rw [ew,em,ZkW hF L.rt L.fit];exact⟨w,m,rfl,L,h0,fun s=>Iff.rfl,rfl⟩
 induction b with
 | zero=>
   intro k F' w m L hm hk hF';refine fin k F' w m L ?_ (by omega);cases hx:w.notes with
   | nil=>rfl
   | cons x l=>
     exfalso;have:=K3 L.rt (k:=0) (x:=x) (by rw [hx];rfl);omega
 | succ b ih=>
   intro k F' w m L hm hk hF';by_cases h0:w.notes= []
   ·exact fin k F' w m L h0 (by omega)
   obtain⟨F',rfl⟩:=Nat.exists_eq_succ_of_ne_zero (n:=F') (by omega);have hpos:0 < w.notes.length:=List.length_pos_iff.2 h0;have ZAk:=L.rt.KC;rw [Yh];simp only [ZdK];rw [decide_eq_true (by omega),cond_true];have ew:(⟨w.cells,w.notes,w.names,w.freed⟩:Za)=w:=rfl;have em:(⟨m.uses,m.ways⟩:Model)=m:=rfl
   have go:∀ j:Nat,j < w.notes.length ->∃ w' m',Zfy F (k:Int) w.cells w.notes w.names w.freed m.uses m.ways (loop F' (ZdK F q)) (j:Int)=some (w',m',true)∧Calm M K w w' m':=by
    intro j hj;obtain⟨m1,e1,e2,L1,l1,s1,n1,_⟩:=Zir hF L hK hj;unfold Zfy;rw [ew,em];rw [show Zm7 F w ⟨5,(j:Int),0,0⟩=_ from e1,Option.bind_some];dsimp only;rw [show((0:Int) !=0)=false from rfl,decide_eq_false (by omega),show(((Z6 w (Zck j)).cells.length:Int) != (w.cells.length:Int))=false by rw [L1.len,L.len];simp];simp only [Bool.or_self,cond_false];rw [show Zle F m w ⟨5,(j:Int),0,0⟩=_ from e2,Option.bind_some,Xp (by omega)];obtain⟨w',m',e3,C⟩:=ih (k + 1) F' _ m1 L1 (by omega) (by omega) (by omega);exact⟨w',m',e3,C.lv,C.notes,fun s=>(C.ss s).trans (s1 s),C.names.trans n1⟩
   cases hq0:decide ((q.length:Int) > 0)
   ·rw [cond_false];exact go 0 hpos
   ·rw [cond_true];have hqp:(0:Int) < q.length:=by simpa using hq0
    obtain⟨e1,a0,a1⟩:=Kk (a:= (k:Int)) (b:= (q.length:Int)) (by omega) hqp;rw [e1,Option.bind_some];obtain⟨i,hi⟩:∃ i:Nat,(k:Int) % (q.length:Int)= (i:Int):= ⟨((k:Int) % (q.length:Int)).toNat,by omega⟩
    rw [hi] at a0 a1 ⊢;have hiq:i < q.length:=by omega
    rw [Z0,List.getElem?_eq_getElem hiq,Option.bind_some];have hr:=hq q[i] (List.getElem_mem hiq);rw [YM (n:=q[i]) (by omega) (by omega)];obtain⟨e2,b0,b1⟩:=Kk (a:=q[i]) (b:= (w.notes.length:Int)) hr.1 (by omega);rw [e2,Option.bind_some];obtain⟨j,hj⟩:∃ j:Nat,q[i] % (w.notes.length:Int)= (j:Int):= ⟨(q[i] % (w.notes.length:Int)).toNat,by omega⟩
    rw [hj] at b0 b1 ⊢;exact go j (by omega)
theorem ZqL (hF:1000 <=F) {M K:Nat} (hK:K <=50000) {q:List Int} (hq:∀ x ∈ q,0 <=x∧x <=255) (L:LV M K w m):∃ w' m',ZuR F w m q=some (w',m',true)∧Calm M K w w' m':=by
 have:=ZhA L.rt;exact Zr5 hF hK hq 232 0 F w m L (by omega) (by omega) (by omega)
end
end Go.Proofs.Ytekpjgmhkkjhgaa
end
section
namespace Go.Proofs.Ytekpjgmhkkjhgaa
open Go.Lf
section
variable {w:Za} {m:Model} {F:Nat} {n:Int}
theorem Zmb {f:Nat ->Int}:∀ {M:Nat},1 <=W9 f M ->∃ k,k < M∧1 <=f k
 | 0,h=>by simp [W9] at h
 | M + 1,h=>by
   unfold W9 at h;by_cases e:1 <=f M
   ·exact⟨M,by omega,e⟩
   ·obtain⟨k,h1,h2⟩:=Zmb (M:=M) (f:=f) (by omega);exact⟨k,by omega,h2⟩
theorem ZjT (dep:Int ->Nat):∀ M:Nat,∃ B,∀ k:Nat,k < M ->dep (k:Int) <=B
 | 0=>⟨0,fun k h=>by omega⟩
 | M + 1=>by
   obtain⟨B,h⟩:=ZjT dep M;refine⟨B + dep (M:Int),fun k hk=>?_⟩;by_cases e:k=M
   ·subst e;omega
   ·have:=h k (by omega);omega
theorem Zn2 (R:Rt w) (h0:w.notes= []) (hn:Yj w n=true):∃ a,Uses w ⟨a,n⟩:=by
 by_cases hex:∃ a,Uses w ⟨a,n⟩
 ·exact hex
 exfalso;obtain⟨h,H,_⟩:=R.nm n hn;have hns:Q8 w n= []:=by unfold Q8;rw [h0];rfl
 rw [hns] at H;have hone:=H.one;have hc0:JU ([]:List Zd)=0:=rfl;rw [hc0] at hone
 have child:∀ a c,YO w n a=some c ->∃ b d,YO w n b=some d∧d.from_=a∧b ≠ h:=by
  intro a c hc;have hr:=H.rng a c hc;have hout:= (H.Zhw hc).2.2 hc0
  have hnu:c.use=false:=by
   cases hu:c.use
   ·rfl
   ·exact absurd ⟨a,c,hc,hu⟩ hex
  have hnz:= (R.rx.1.cn n a c hc).2
  have hne:c.out ≠ 0:=by
   rcases hnz with z | z | z
   ·rw [hnu] at z;cases z
   ·exact z
   ·exact z.elim
  have hacc:=H.acc a hr.1 hr.2;unfold J6 Jd at hacc;rw [hc] at hacc;simp only [X0,YJ] at hacc;obtain⟨k,k1,k2⟩:=Zmb (f:=fun m=>U4 a (YO w n m)) (M:=w.cells.length) (by omega);cases hd:YO w n (k:Int) with
  | none=>rw [hd] at k2;simp [U4] at k2
  | some d=>
    rw [hd,X6] at k2
    have ZDD:d.from_=a:=by
     by_cases e:d.from_=a
     ·exact e
     ·rw [if_neg e] at k2;omega
    refine⟨k,d,hd,ZDD,fun e=>?_⟩;have hroot:Jo (YO w n h)=1:=by omega
    rw [← e,hd] at hroot
    have hdr:d.root=true:=by
     by_cases z:d.root=true
     ·exact z
     ·have hz:Jo (some d)=0:=if_neg z;omega
    rcases H.cel _ d hd with z | z
    ·rw [hdr] at z;cases z.1
    ·omega
 obtain⟨dep,L⟩:=H.lead;obtain⟨B,hB⟩:=ZjT dep w.cells.length
 have deep:∀ k:Nat,∃ a c,YO w n a=some c∧k <=dep a:=by
  intro k
  induction k with
  | zero=>
    cases hc:YO w n h with
    | none=>rw [hc] at hone;simp [Jo] at hone
    | some c=>exact⟨h,c,hc,Nat.zero_le _⟩
  | succ k ih=>
    obtain⟨a,c,hc,hk⟩:=ih;obtain⟨b,d,hd,hf,hb⟩:=child a c hc;have:= (L b d hd hb).2.2;rw [hf] at this;exact⟨b,d,hd,by omega⟩
 obtain⟨a,c,hc,hk⟩:=deep (B + 1);have hr:=H.rng a c hc;have:=hB a.toNat (by omega);rw [show((a.toNat:Nat):Int)=a by omega] at this;omega
end
end Go.Proofs.Ytekpjgmhkkjhgaa
end
section
namespace Go.Proofs.Ytekpjgmhkkjhgaa
open Go.Lf
section
variable {w:Za} {m:Model} {F:Nat}
theorem ZqX (h:gives w.notes= []) (s:YI):SS w s↔Uses w s:=by
 unfold SS;rw [h];simp
theorem ZjI (h:w.notes= []):gives w.notes= []:=by rw [h];rfl
theorem ZfY (k:Nat) (n:Int) (c:Zb):w.notes.length <= (YW w k n c).notes.length:=by
 unfold YW;cases (c.use || (c.out !=0))
 ·simp only [cond_false];cases c.root
  ·simp only [cond_false];cases decide (c.from_ >=0)
   ·exact Nat.le_refl _
   ·simp
  ·exact Nat.le_refl _
 ·exact Nat.le_refl _
theorem Zj2 (k:Nat) (n a b:Int):w.notes.length <= (Xe w k n a b).notes.length:=by
 unfold Xe;cases (a != (k:Int))
 ·exact Nat.le_refl _
 ·rw [cond_true,ZbK];omega
theorem Zpf (x:Zd):w.notes.length <= (XC w x).notes.length:=by
 unfold XC;dsimp only;cases (x.kind==1)
 ·rw [cond_false];cases (x.kind==2)
  ·rw [cond_false];refine Nat.le_trans ?_ (ZfY _ _ _);cases decide ((look (rowOf w x.Zw.toNat) x.name).from_ >=0)
   ·exact Nat.le_refl _
   ·exact Zj2 (w:=cw w x.Zw.toNat _) _ _ _ _
  ·rw [cond_true];exact ZfY (w:=cw w x.Zw.toNat _) _ _ _
 ·rw [cond_true];cases ((!(look (rowOf w x.Zw.toNat) x.name).root && ((look (rowOf w x.Zw.toNat) x.name).from_==-1)) && (x.via !=x.Zw))
  ·rw [cond_false];cases ((!(look (rowOf w x.Zw.toNat) x.name).root && decide ((look (rowOf w x.Zw.toNat) x.name).from_ >=0)) && ((look (rowOf w x.Zw.toNat) x.name).from_==x.via))
   ·exact Zj2 (w:=cw w x.Zw.toNat _) _ _ _ _
   ·exact Nat.le_refl _
  ·exact Nat.le_refl _
theorem Zrf (hF:1000 <=F) {M K:Nat} (hK:K <=50000):∀ (k n:Nat) (w:Za) (m:Model),LV M K w m ->mu w <=k ->∃ w' n' m',ZbN k w n= (w',((n':Nat):Int),0)∧Calm M K w w' m'∧n + w.notes.length <=n':=by
 intro k
 induction k with
 | zero=>
   intro n w m L hm
   have h0:w.notes= []:=by
    cases hx:w.notes with
    | nil=>rfl
    | cons x l=>
      exfalso;have:=K3 L.rt (k:=0) (x:=x) (by rw [hx];rfl);omega
   exact⟨w,n,m,rfl,⟨L,h0,fun s=>Iff.rfl,rfl⟩,by rw [h0];simp⟩
 | succ k ih=>
   intro n w m L hm;cases hx:w.notes with
   | nil=>
     refine⟨w,n,m,?_,⟨L,hx,fun s=>Iff.rfl,rfl⟩,by simp⟩;unfold ZbN;rw [hx]
   | cons x l=>
     have hx0:w.notes[0]? =some x:=by rw [hx];rfl
     obtain⟨m1,_,_,L1,l1,s1,n1,_⟩:=Zir hF L hK (j:=0) (by rw [hx];simp);rw [ZjX hx0] at L1 l1 s1 n1;obtain⟨w',n',m',e,C,hn⟩:=ih (n + 1) _ m1 L1 (by omega);refine⟨w',n',m',?_,⟨C.lv,C.notes,fun s=>(C.ss s).trans (s1 s),C.names.trans n1⟩,?_⟩
     ·unfold ZbN;rw [hx];exact e
     ·have:=Zpf (w:=QZ w 0) x;have:(QZ w 0).notes.length + 1=w.notes.length:=by unfold QZ;rw [hx];simp
      rw [hx] at this;omega
theorem ZqR:∀ {l r:List Int},l.Pairwise (· < ·) ->r.Pairwise (· < ·) ->(∀ x,x ∈ l↔x ∈ r) ->l=r
 | [],[],_,_,_=>rfl
 | [],y::r,_,_,h=>by have:= (h y).2 (by simp);simp at this
 | x::l,[],_,_,h=>by have:= (h x).1 (by simp);simp at this
 | x::l,y::r,hl,hr,h=>by
   rw [List.pairwise_cons] at hl hr
   have e:x=y:=by
    have h1:= (h x).1 (by simp);have h2:= (h y).2 (by simp);rcases List.mem_cons.1 h1 with z | z
    ·exact z
    ·rcases List.mem_cons.1 h2 with u | u
     ·exact u.symm
     ·have:=hr.1 x z;have:=hl.1 y u;omega
   subst e;rw [ZqR hl.2 hr.2 fun z=>?_]
   constructor
   ·intro hz;rcases List.mem_cons.1 ((h z).1 (List.mem_cons_of_mem _ hz)) with u | u
    ·have:=hl.1 z hz;omega
    ·exact u
   ·intro hz;rcases List.mem_cons.1 ((h z).2 (List.mem_cons_of_mem _ hz)) with u | u
    ·have:=hr.1 z hz;omega
    ·exact u
theorem Calm.ZgE {M K K':Nat} {w1 w2:Za} {m1 m2:Model} (A:Calm M K w w1 m1) (B:Calm M K' w w2 m2) (s:YI):Uses w1 s↔Uses w2 s:=by
 rw [← ZqX (ZjI A.notes),← ZqX (ZjI B.notes),A.ss,B.ss]
theorem Calm.ZmZ {M K K':Nat} {w1 w2:Za} {m1 m2:Model} (A:Calm M K w w1 m1) (B:Calm M K' w w2 m2):w1.freed=w2.freed:=by
 have one:∀ {K K':Nat} {w1 w2:Za} {m1 m2:Model},Calm M K w w1 m1 ->Calm M K' w w2 m2 ->∀ x,x ∈ w1.freed ->x ∈ w2.freed:=by
  intro K K' w1 w2 m1 m2 A B x hx;have hr:=A.lv.rt.frr x hx;by_cases h:x ∈ w2.freed
  ·exact h
  ·exfalso
   have hn:Yj w2 x=true:=by
    unfold Yj;rw [decide_eq_true hr.1,decide_eq_true (by rw [B.names,← A.names];exact hr.2)]
    have:(w2.freed.any fun y=>y==x)=false:=by
     rw [List.any_eq_false];intro y hy z;rw [beq_iff_eq] at z;rw [z] at hy;exact h hy
    rw [this];rfl
   obtain⟨a,ha⟩:=Zn2 B.lv.rt B.notes hn;have:= ((A.ZgE B _).2 ha).name A.lv.rt;have:=KN this;rw [List.any_eq_false] at this;exact this x hx (by simp)
 exact ZqR A.lv.rt.fr B.lv.rt.fr fun x=>⟨one A B x,one B A x⟩
theorem Calm.fits {M K K':Nat} {w1 w2:Za} {m1 m2:Model} (A:Calm M K w w1 m1) (B:Calm M K' w w2 m2):Fits w2 m1:=by
 refine⟨fun s=>(A.lv.fit.mem s).trans (A.ZgE B s),A.lv.fit.nd,?_⟩;rw [A.lv.fit.ways,A.notes,B.notes]
theorem Calm.len_eq {M K K':Nat} {w1 w2:Za} {m1 m2:Model} (A:Calm M K w w1 m1) (B:Calm M K' w w2 m2):m1.uses.length=m2.uses.length:=by
 refine List.Perm.length_eq ((List.perm_ext_iff_of_nodup A.lv.fit.nd B.lv.fit.nd).2 fun s=>?_);rw [A.lv.fit.mem,B.lv.fit.mem,A.ZgE B]
theorem ZiI (p:Int) (l:List ZaE) (q r:List Int) (hp:0 <=p∧p <=255) (hl:∀ a ∈ l,U8 a) (hq:∀ x ∈ q,0 <=x∧x <=255) (hr:∀ x ∈ r,0 <=x∧x <=255):f9L 1000 p l q r=some true:=by
 have hF:1000 <=1000:=Nat.le_refl _;obtain⟨w,m,e,L⟩:=ZtH hF hp.1 hp.2 hl;obtain⟨hus,hws⟩:=L.fit.small L.rt;unfold f9L Zo2;rw [e,Option.bind_some];simp only [Bool.not_true,cond_false];rw [XD (by simp;omega) (by decide),Option.bind_some,Option.bind_some,XD (by simp;omega) (by decide),Option.bind_some,Option.bind_some];simp only [List.nil_append];obtain⟨w1,m1,e1,A⟩:=ZqL hF (by omega) hq L;obtain⟨w2,m2,e2,B⟩:=ZqL hF (by omega) hr L;have hmu:=ZhA L.rt;obtain⟨w3,n3,m3,e3,C,hn⟩:=Zrf hF (by omega) 300 0 w m L (by omega)
 have hrest:ZpK w= (w3,((n3:Nat):Int),0):=by
  unfold ZpK;rw [L.rt.right,cond_true];exact e3
 have em:(⟨m.uses,m.ways⟩:Model)=m:=rfl;rw [e1,Option.bind_some];simp only [Bool.not_true,cond_false];rw [em,e2,Option.bind_some,Zre hF L.rt.small,hrest,Option.bind_some];dsimp only;rw [show((0:Int) !=0)=false from rfl,decide_eq_false (show ¬ ((n3:Int) < (w.notes.length:Int)) by omega),decide_eq_false (show ¬ ((w3.notes.length:Int) > 0) by rw [C.notes];simp)];simp only [Bool.not_true,Bool.or_self,Bool.not_false,ZcK];rw [← A.ZmZ B,ZjA hF A.lv.rt.small.freed,Option.bind_some];simp only [Bool.not_true,Bool.or_self,Bool.not_false,ZcK];rw [← A.ZmZ C,ZjA hF A.lv.rt.small.freed,Option.bind_some];have hlen:=A.len_eq B;rw [show((m1.uses.length:Int) != (m2.uses.length:Int))=false by simp;omega];simp only [Bool.not_true,Bool.or_self,cond_false];obtain⟨hu1,_⟩:=A.lv.fit.small A.lv.rt;obtain⟨hu2,_⟩:=B.lv.fit.small B.lv.rt;refine UW (l:=m1.uses) (by omega) hF _ (fun k y next hy=>?_) (fun next=>?_)
 ·have hk:= (List.getElem?_eq_some_iff.1 hy).1;have hin:y ∈ m2.uses:= (B.lv.fit.mem y).2 ((A.ZgE B y).1 ((A.lv.fit.mem y).1 (List.mem_of_getElem? hy)));simp only [Zqo,Z0,hy,Option.bind_some];rw [decide_eq_true (by omega),cond_true,Wv hF (by omega),decide_eq_true hin];rfl
 ·simp only [Zqo];rw [decide_eq_false (by omega),cond_false,ZkW hF C.lv.rt (A.fits C)];simp [gd,ZBt]
end
end Go.Proofs.Ytekpjgmhkkjhgaa
end
